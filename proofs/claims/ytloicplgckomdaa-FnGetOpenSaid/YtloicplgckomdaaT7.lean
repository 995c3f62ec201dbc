/- Laws of packets that come, 7: made by gen.py. -/
import Derived.Test.YtloicplgckomdaaT0
set_option linter.unusedVariables false
set_option linter.unusedSimpArgs false
set_option maxRecDepth 100000
set_option maxHeartbeats 400000
namespace Go.Proofs.Ytloicplgckomdaa
namespace Hw
open Go
noncomputable section
attribute [local irreducible] evFn evBody wrap wxor
theorem way_no {c y : Ch} {s : St} {p : Pkt} {t : Bool} (q : RgQ c s p y t) (h : c.st.way = 2) : ¬ t = true := fun g => by
  have := (q.1.1 g).2.1
  omega
theorem ver_eq {c d r y : Ch} {s : St} {p : Pkt} {t u : Bool} (q3 : RgQ c s p r t) (h : t = true) (q : RgQ d s p y u) (hu : u = true) : d.st.ver = c.st.ver := (q.1.1 hu).2.2.2.2.1.symm.trans (q3.1.1 h).2.2.2.2.1
theorem way_lt {c : Ch} {a b d : Int} (h : c.lt) : Ch.lt ⟨c.id, c.bank, ⟨a, b, d, c.st.sent, c.st.live, c.st.back, c.st.got⟩, c.past, c.knows⟩ := ⟨h.1, h.2.1, h.2.2⟩
theorem open_fin {c r y z : Ch} {s : St} {p : Pkt} {t u v x : Bool} {n : Int} (q3 : RgQ c s p r t) (h : t = true) (q9 : RgQ ⟨c.id, c.bank, ⟨2, c.st.ver, 0, c.st.sent, c.st.live, c.st.back, c.st.got⟩, c.past, c.knows⟩ s p y u) (q10 : RgQ ⟨c.id, c.bank, ⟨3, n, 0, c.st.sent, c.st.live, c.st.back, c.st.got⟩, c.past, c.knows⟩ s p z v) (e : x = true ↔ ¬ u = true ∧ (¬ v = true ∨ n = c.st.ver)) : x = true := by
  refine e.2 ⟨way_no q9 rfl, ?_⟩
  by_cases g : v = true
  · exact .inr (ver_eq q3 h q10 g)
  · exact .inl g

def Zc4.L : FL := fCons (fC (cArr true kU8s)) (fNil)
def Zc4 : List Int × Unit → FR (Bool) := fun (a0, ()) => ⟨(∀ k, 0 ≤ a0.getD k 0 ∧ a0.getD k 0 ≤ 255) ∧ True, fun X => And (Imp ((decide ((a0.length : Int) > 1048576)) = true) (X true)) (Imp ((decide ((a0.length : Int) > 1048576)) = false) (Call ZcS.X (a0, ()) fun x1 => Call ZcA.X (x1.1, x1.2.1, x1.2.2, ()) fun x2 => Call Zcz.X (x1.1, x1.2.1, x1.2.2, ()) fun x3 => And (Imp (And ((!((x3.2 : Bool) == x2.2)) = false) (True)) ((ZbT (x3.1, x2.1, ())).P)) (Lt ((ZbT.S (x3.1, x2.1, ()))) fun x4 => Lt (bif bif !((x3.2 : Bool) == x2.2) then true else !x4 then true else !x3.2) fun x5 => And (Imp (x5 = true) (And (Imp (And (((x3.2 : Bool) == x2.2) = true) (True)) ((ZbT (x3.1, x2.1, ())).P)) (Lt ((ZbT.S (x3.1, x2.1, ()))) fun x6 => X (bif (x3.2 : Bool) == x2.2 then x6 else false)))) (Imp (x5 = false) (Lt (wrap (x1.1.st.ver + 1)) fun x7 => Lt (bif decide (9 < x7) then 9 else x7) fun x8 => Call Zcz.X ((⟨x1.1.id, x1.1.bank, (⟨2, x1.1.st.ver, 0, x1.1.st.sent, x1.1.st.live, x1.1.st.back, x1.1.st.got⟩ : St), x1.1.past, x1.1.knows⟩ : Ch), x1.2.1, x1.2.2, ()) fun x9 => Call Zcz.X ((⟨x1.1.id, x1.1.bank, (⟨3, x8, 0, x1.1.st.sent, x1.1.st.live, x1.1.st.back, x1.1.st.got⟩ : St), x1.1.past, x1.1.knows⟩ : Ch), x1.2.1, x1.2.2, ()) fun x10 => Lt (bif !x9.2 then bif !x10.2 then true else x8 == x1.1.st.ver else false) fun x11 => X x11))))), fun r => (r = true) ∧ True, fun r => (.v (.c (.bool r)), [])⟩
theorem Zc4.X : XF Zc4 := mkF (false) fun (a0, ()) hp => by
  obtain ⟨p0, -⟩ := hp
  dsimp only [Zc4]
  refine May.iff (B.dec) (fun h1 => ?_) (fun h1 => ?_)
  refine May.ret ⟨?_, trivial⟩; rotate_left 1
  refine May.call ⟨?_, trivial⟩ fun x1 q1 => have q1_0 := q1.1; have q1_1 := q1.2.1; May.call ⟨?_, trivial⟩ fun x2 q2 => have q2 := q2.1; May.call ⟨?_, trivial⟩ fun x3 q3 => have q3 := q3.1; May.chk (fun hπ => have g1 := B.neg (B.not (B.beq)) hπ.1; ⟨?_, trivial⟩) fun c1 => May.clq ⟨?_, trivial⟩ fun x4 q4 => have q4 := q4.1; May.lp (B.or (B.or (B.not (B.beq)) (B.not (Iff.rfl))) (B.not (Iff.rfl))) fun x5 e5 => May.iff (e5) (fun h2 => ?_) (fun h2 => ?_); rotate_left 5
  refine May.chk (fun hπ => have g1 := Iff.mp (B.beq) hπ.1; ⟨?_, trivial⟩) fun c2 => May.clq ⟨?_, trivial⟩ fun x6 q6 => have q6 := q6.1; May.ret ⟨?_, trivial⟩; rotate_left 3
  refine May.lw ⟨?_, ?_⟩ fun x7 e7 => May.lb (B.dec) fun x8 e8 => May.call ⟨?_, trivial⟩ fun x9 q9 => have q9 := q9.1; May.call ⟨?_, trivial⟩ fun x10 q10 => have q10 := q10.1; May.lp (B.and (B.not (Iff.rfl)) (B.or (B.not (Iff.rfl)) (B.eq))) fun x11 e11 => May.ret ⟨?_, trivial⟩
  all_goals try dsimp only
  all_goals first | with_reducible assumption | omega | (with_reducible rfl; done) | (exact rg_lt q3 q1_0; done) | (exact rgB q2 q3 q6; done) | ((have := (rg_may q3 (nn fun g => h2 (.inr g))).1.1.2.2.1.2.1; omega); done) | (exact way_lt q1_0; done) | (exact open_fin q3 (nn fun g => h2 (.inr g)) q9 q10 e11; done)
abbrev Zc4.S := Classical.choose Zc4.X
def Zc4.c : Ctr := fc 7 [false] Zc4.L Zc4 Zc4.S
theorem Zc4.good : Good Try.prog Zc4.c := mkFG (fn := Try.f7) {} Zc4.X (consG ZcS.good (consG ZcA.good (consG Zcz.good (consG ZbT.good noG)))) (by kernel_rfl) (by kernel_rfl) (l0 (by kernel_rfl)) (c0 (by kernel_rfl)) fun s K => by kernel_rfl
end
end Hw
end Go.Proofs.Ytloicplgckomdaa
