/- Laws of packets that come, 3: made by gen.py. -/
import Derived.Test.YtloicplgckomdaaT0
set_option linter.unusedVariables false
set_option linter.unusedSimpArgs false
set_option maxRecDepth 100000
set_option maxHeartbeats 400000
namespace Go.Proofs.Ytloicplgckomdaa
namespace Hw
open Go
noncomputable section
attribute [local irreducible] evFn evBody wrap wxor
theorem got0_lt {s : St} {i : Nat} {v : Int} (h : s.lt) : St.lt ⟨s.way, s.ver, s.want, s.sent, s.live, s.back, ([] ++ s.got).set i v⟩ := ⟨h.1, h.2.1, h.2.2.1, by simp only [List.length_set, List.nil_append]; exact h.2.2.2⟩
theorem once_fin {c r y : Ch} {s : St} {p : Pkt} {t u x9 x10 x12 x14 : Bool} {x8 : Int} (q3 : RgQ c s p r t) (h : t = true) (q7 : RgQ r s p y u) (e8 : x8 = p.seq - 1) (q9 : x9 = true ↔ y = r) (q10 : x10 = true ↔ (⟨r.st.way, r.st.ver, r.st.want, r.st.sent, r.st.live, r.st.back, ([] ++ r.st.got).set x8.toNat 0⟩ : St) = c.st) (q12 : x12 = true ↔ r.knows = c.knows) (e14 : x14 = true ↔ (((¬ u = true ∧ x9 = true) ∧ x10 = true) ∧ x12 = true) ∧ (r.past.length : Int) = (c.past.length : Int)) : x14 = true := by
  subst e8
  obtain ⟨h1, h2, b, g, h3, h4, h5, h6⟩ := rg_may q3 h
  have hu : ¬ u = true := fun g' => by
    have := (q7.1.1 g').2.2.2.1
    rw [h4] at this
    have e := got_at (g := g) h1.1.2.2.1 h1.2.2.1
    have : (c.st.got.set (p.seq - 1).toNat g).getD (p.seq - 1).toNat 0 = 0 := this
    omega
  have hy := (q7.2.2 hu).1 ⟨h6, h1.2⟩
  have hl := h1.1.2.2.1.2.2.2.2.2.1
  have hs := h1.2.2.1
  refine e14.2 ⟨⟨⟨⟨hu, q9.2 hy⟩, q10.2 ?_⟩, q12.2 (by rw [h4]; rfl)⟩, by rw [h4]; rfl⟩
  rw [h4]
  show (⟨c.st.way, c.st.ver, c.st.want, c.st.sent, c.st.live, c.st.back, ([] ++ c.st.got.set (p.seq - 1).toNat g).set (p.seq - 1).toNat 0⟩ : St) = c.st
  rw [List.nil_append, List.set_set, set_getD (d := 0) (by omega) h2.2.2.1]

def ZcY.L : FL := fCons (fC (cArr true kU8s)) (fNil)
def ZcY : List Int × Unit → FR (Bool) := fun (a0, ()) => ⟨(∀ k, 0 ≤ a0.getD k 0 ∧ a0.getD k 0 ≤ 255) ∧ True, fun X => And (Imp ((decide ((a0.length : Int) > 1048576)) = true) (X true)) (Imp ((decide ((a0.length : Int) > 1048576)) = false) (Call ZcS.X (a0, ()) fun x1 => Call ZcA.X (x1.1, x1.2.1, x1.2.2, ()) fun x2 => Call Zcz.X (x1.1, x1.2.1, x1.2.2, ()) fun x3 => And (Imp (And ((!((x3.2 : Bool) == x2.2)) = false) (True)) ((ZbT (x3.1, x2.1, ())).P)) (Lt ((ZbT.S (x3.1, x2.1, ()))) fun x4 => Lt (bif bif !((x3.2 : Bool) == x2.2) then true else !x4 then true else !x3.2) fun x5 => And (Imp (x5 = true) (And (Imp (And (((x3.2 : Bool) == x2.2) = true) (True)) ((ZbT (x3.1, x2.1, ())).P)) (Lt ((ZbT.S (x3.1, x2.1, ()))) fun x6 => X (bif (x3.2 : Bool) == x2.2 then x6 else false)))) (Imp (x5 = false) (Call Zcz.X (x3.1, x1.2.1, x1.2.2, ()) fun x7 => And (([] ++ x3.1.st.got).length ≤ 4294967296) (Lt (wrap (x1.2.2.seq - 1)) fun x8 => And ((0 : Int) ≤ x8 ∧ x8 < (([] ++ x3.1.st.got).length : Int)) (And ((x8).toNat < ([] ++ x3.1.st.got).length) (And (Imp (And ((!x7.2) = true) (True)) ((ZbT (x7.1, x3.1, ())).P)) (Lt ((ZbT.S (x7.1, x3.1, ()))) fun x9 => And (Imp (And ((bif !x7.2 then x9 else false) = true) (True)) ((Zbq ((⟨x3.1.st.way, x3.1.st.ver, x3.1.st.want, x3.1.st.sent, x3.1.st.live, x3.1.st.back, ([] ++ x3.1.st.got).set (x8).toNat 0⟩ : St), x1.1.st, ())).P)) (Lt ((Zbq.S ((⟨x3.1.st.way, x3.1.st.ver, x3.1.st.want, x3.1.st.sent, x3.1.st.live, x3.1.st.back, ([] ++ x3.1.st.got).set (x8).toNat 0⟩ : St), x1.1.st, ()))) fun x10 => Lt (bif bif !x7.2 then x9 else false then x10 else false) fun x11 => And (Imp (And (x11 = true) (True)) ((Za (x3.1.knows, x1.1.knows, ())).P)) (Lt ((Za.S (x3.1.knows, x1.1.knows, ()))) fun x12 => Lt ((x3.1.past.length : Int) == (x1.1.past.length : Int)) fun x13 => Lt (bif bif x11 then x12 else false then x13 else false) fun x14 => X x14))))))))))), fun r => (r = true) ∧ True, fun r => (.v (.c (.bool r)), [])⟩
theorem ZcY.X : XF ZcY := mkF (false) fun (a0, ()) hp => by
  obtain ⟨p0, -⟩ := hp
  dsimp only [ZcY]
  refine May.iff (B.dec) (fun h1 => ?_) (fun h1 => ?_)
  refine May.ret ⟨?_, trivial⟩; rotate_left 1
  refine May.call ⟨?_, trivial⟩ fun x1 q1 => have q1_0 := q1.1; have q1_1 := q1.2.1; May.call ⟨?_, trivial⟩ fun x2 q2 => have q2 := q2.1; May.call ⟨?_, trivial⟩ fun x3 q3 => have q3 := q3.1; May.chk (fun hπ => have g1 := B.neg (B.not (B.beq)) hπ.1; ⟨?_, trivial⟩) fun c1 => May.clq ⟨?_, trivial⟩ fun x4 q4 => have q4 := q4.1; May.lp (B.or (B.or (B.not (B.beq)) (B.not (Iff.rfl))) (B.not (Iff.rfl))) fun x5 e5 => May.iff (e5) (fun h2 => ?_) (fun h2 => ?_); rotate_left 5
  refine May.chk (fun hπ => have g1 := Iff.mp (B.beq) hπ.1; ⟨?_, trivial⟩) fun c2 => May.clq ⟨?_, trivial⟩ fun x6 q6 => have q6 := q6.1; May.ret ⟨?_, trivial⟩; rotate_left 3
  refine May.call ⟨?_, trivial⟩ fun x7 q7 => have q7 := q7.1; May.chk ?_ fun c3 => May.lw ⟨?_, ?_⟩ fun x8 e8 => May.chk ?_ fun c4 => May.chk ?_ fun c5 => May.chk (fun hπ => have g1 := Iff.mp (B.not (Iff.rfl)) hπ.1; ⟨?_, trivial⟩) fun c6 => May.clq ⟨?_, trivial⟩ fun x9 q9 => have q9 := q9.1; May.chk (fun hπ => have g1 := Iff.mp (B.and (B.not (Iff.rfl)) (Iff.rfl)) hπ.1; ⟨?_, trivial⟩) fun c7 => ?_; rotate_left 9
  refine May.clq ⟨?_, trivial⟩ fun x10 q10 => have q10 := q10.1; May.lp (B.and (B.and (B.not (Iff.rfl)) (Iff.rfl)) (Iff.rfl)) fun x11 e11 => May.chk (fun hπ => have g1 := Iff.mp (e11) hπ.1; ⟨?_, trivial⟩) fun c8 => May.clq ⟨?_, trivial⟩ fun x12 q12 => have q12 := q12.1; May.lp (B.eq) fun x13 e13 => May.lp (B.and (B.and (e11) (Iff.rfl)) (e13)) fun x14 e14 => May.ret ⟨?_, trivial⟩
  all_goals try dsimp only
  all_goals first | with_reducible assumption | omega | (with_reducible rfl; done) | (exact rg_lt q3 q1_0; done) | (exact rgB q2 q3 q6; done) | (exact rgB q2 q3 q7; done) | (exact rg_lt q7 (rg_lt q3 q1_0); done) | (exact (rg_lt q3 q1_0).2.2.2; done) | (exact got0_lt (rg_lt q3 q1_0).2.1; done) | ((have := rg_seq q3 (nn fun g => h2 (.inr g)); omega); done) | ((have := rg_seq q3 (nn fun g => h2 (.inr g)); simp only [List.nil_append]; omega); done) | (exact once_fin q3 (nn fun g => h2 (.inr g)) q7 e8 q9 q10 q12 e14; done)
abbrev ZcY.S := Classical.choose ZcY.X
def ZcY.c : Ctr := fc 6 [false] ZcY.L ZcY ZcY.S
theorem ZcY.good : Good Try.prog ZcY.c := mkFG (fn := Try.f6) {} ZcY.X (consG ZcS.good (consG ZcA.good (consG Zcz.good (consG ZbT.good (consG Zbq.good (consG Za.good noG)))))) (by kernel_rfl) (by kernel_rfl) (l0 (by kernel_rfl)) (c0 (by kernel_rfl)) fun s K => by kernel_rfl
end
end Hw
end Go.Proofs.Ytloicplgckomdaa
