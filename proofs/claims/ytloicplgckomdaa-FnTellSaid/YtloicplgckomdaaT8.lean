/- Laws of packets that are settled: made by gen.py. -/
import Derived.Test.YtloicplgckomdaaTC
import Derived.Test.YtloicplgckomdaaRC
set_option linter.unusedVariables false
set_option linter.unusedSimpArgs false
set_option maxRecDepth 100000
set_option maxHeartbeats 400000
namespace Go.Proofs.Ytloicplgckomdaa
namespace Hw
open Go
noncomputable section
attribute [local irreducible] evFn evBody wrap wxor
theorem tl_ok {c : Ch} {s : St} {u : Prop} (hl : c.lt) (h : ¬((u ∨ ¬ZV.S c = true) ∨ ¬StOk s)) : ChOk c ∧ StOk s := ⟨(specChL hl).1 (nn fun g => h (.inl (.inr g))), nn fun g => h (.inr g)⟩
theorem tell_can {c r : Ch} {s : St} {i x7 x8 : Int} {t : Bool} (q3 : RtQ c s i r t) (ho : ChOk c ∧ StOk s) (q7 : StlQ c.st i x7) (q8 : GotQ s i x8) : t = true ↔ x7 = 1 ∧ ¬ x8 = 0 := by
  have e := stl_one ho.1.2.2.1 q7
  refine q3.1.trans ⟨fun g => ⟨e.2 g.2.1, fun g' => g.2.2 ?_⟩, fun g => ⟨ho, e.1 g.1, fun g' => g.2 ?_⟩⟩
  · have hr := mine_rng ho.1.2.2.1 g.2.1
    exact (got_0 ho.2 ⟨hr.1, hr.2.2.1⟩ q8).1 g'
  · have hr := mine_rng ho.1.2.2.1 (e.1 g.1)
    exact (got_0 ho.2 ⟨hr.1, hr.2.2.1⟩ q8).2 g'
theorem tell_no {c r : Ch} {s : St} {i x7 x8 : Int} {t x10 x11 : Bool} (q3 : RtQ c s i r t) (ho : ChOk c ∧ StOk s) (q7 : StlQ c.st i x7) (q8 : GotQ s i x8) (h3 : ¬ t = true ∨ ¬(x7 = 1 ∧ ¬ x8 = 0)) (e10 : x10 = true ↔ t = bif x7 == 1 then x8 != 0 else false) (q11 : x11 = true ↔ r = c) : (bif x10 then x11 else false) = true := by
  have e := tell_can q3 ho q7 q8
  have ht : ¬ t = true := fun g => h3.elim (fun h => h g) fun h => h (e.1 g)
  rw [B.and e10 q11]
  exact ⟨Bool.eq_iff_iff.2 (e.trans (B.and B.eq B.ne).symm), (q3.2.2 ht).1 ho⟩
theorem tell_2 {c r : Ch} {s : St} {i x8 x14 : Int} {t x15 : Bool} (q3 : RtQ c s i r t) (ht : t = true) (q8 : GotQ s i x8) (h4 : x8 = 1) (q14 : StlQ r.st i x14) (q15 : x15 = true ↔ r.bank = c.bank) : (bif x14 == 2 then x15 else false) = true := by
  obtain ⟨ho, hm, -⟩ := q3.1.1 ht
  have hr := mine_rng ho.1.2.2.1 hm
  have hs := q3.2.1 ht
  have e := (got_0 ho.2 ⟨hr.1, hr.2.2.1⟩ q8).1 h4
  rw [e] at hs
  have h5 := set_stl ho.1 hm hs q14
  obtain ⟨b, h6, h7, h8⟩ := hs
  rw [B.and B.eq q15]
  refine ⟨h5, ?_⟩
  rw [h8]
  exact h7 (by decide)
theorem tell_3 {c r : Ch} {s : St} {b : Bk} {i j x8 x16 : Int} {t o x17 x18 x19 : Bool} (q3 : RtQ c s i r t) (ht : t = true) (q8 : GotQ s i x8) (h4 : ¬ x8 = 1) (ej : j = i - 1) (q13 : BackQ c.bank (c.st.sent.getD j.toNat zPkt).kind (c.st.sent.getD j.toNat zPkt).frm (c.st.sent.getD j.toNat zPkt).sum b o) (q16 : StlQ r.st i x16) (q17 : x17 = true ↔ r.bank = b) (q18 : x18 = true ↔ r.bank = c.bank) (e19 : x19 = true ↔ x16 = 3 ∧ (x17 = true ∨ x18 = true)) : x19 = true := by
  subst ej
  obtain ⟨ho, hm, hg⟩ := q3.1.1 ht
  have hr := mine_rng ho.1.2.2.1 hm
  have hs := q3.2.1 ht
  have e := fun v => (got_0 (v := v) ho.2 ⟨hr.1, hr.2.2.1⟩ q8)
  have h2 : s.got.getD (i - 1).toNat 0 = 2 := by
    have := got_rng ho.2 hr.1 hr.2.2.1
    have h1 : ¬ s.got.getD (i - 1).toNat 0 = 1 := fun g => h4 ((e 1).2 g)
    omega
  rw [h2] at hs
  have h5 := set_stl ho.1 hm hs q16
  obtain ⟨b', h6, h7, h8⟩ := hs
  have h6 := h6 rfl
  refine e19.2 ⟨h5, ?_⟩
  by_cases m : MayBack c.bank (c.st.sent.getD (i - 1).toNat zPkt).kind (c.st.sent.getD (i - 1).toNat zPkt).frm (c.st.sent.getD (i - 1).toNat zPkt).sum
  · refine .inl (q17.2 ?_)
    rw [h8, q13.2.1 (q13.1.2 m)]
    exact h6.1 m
  · refine .inr (q18.2 ?_)
    rw [h8]
    exact h6.2 m

def Zc7.L : FL := fCons (fC (cArr true kU8s)) (fNil)
def Zc7 : List Int × Unit → FR (Bool) := fun (a0, ()) => ⟨(∀ k, 0 ≤ a0.getD k 0 ∧ a0.getD k 0 ≤ 255) ∧ True, fun X => And (Imp ((decide ((a0.length : Int) > 1048576)) = true) (X true)) (Imp ((decide ((a0.length : Int) > 1048576)) = false) (Call ZcT.X (a0, ()) fun x1 => Call ZcL.X (x1.1, x1.2.1, x1.2.2, ()) fun x2 => Call ZcJ.X (x1.1, x1.2.1, x1.2.2, ()) fun x3 => And (Imp (And ((!((x3.2 : Bool) == x2.2)) = false) (True)) ((ZbT (x3.1, x2.1, ())).P)) (Lt ((ZbT.S (x3.1, x2.1, ()))) fun x4 => Lt (bif bif !((x3.2 : Bool) == x2.2) then true else !x4 then true else !(ZV.S x1.1)) fun x5 => And (Imp ((bif x5 then true else !(ZI.S x1.2.1)) = true) (And (Imp (And (((x3.2 : Bool) == x2.2) = true) (True)) ((ZbT (x3.1, x2.1, ())).P)) (Lt ((ZbT.S (x3.1, x2.1, ()))) fun x6 => X (bif (x3.2 : Bool) == x2.2 then x6 else false)))) (Imp ((bif x5 then true else !(ZI.S x1.2.1)) = false) (Call0 Zcw.X (x1.1.st, x1.2.2, ()) fun x7 => Lt ((Zcv.S (x1.2.1, x1.2.2, ()))) fun x8 => Lt (bif !x3.2 then true else !(bif x7 == 1 then x8 != 0 else false)) fun x9 => And (Imp (x9 = true) (Lt ((x3.2 : Bool) == (bif x7 == 1 then x8 != 0 else false)) fun x10 => And (Imp (And (x10 = true) (True)) ((ZbT (x3.1, x1.1, ())).P)) (Lt ((ZbT.S (x3.1, x1.1, ()))) fun x11 => X (bif x10 then x11 else false)))) (Imp (x9 = false) (Lt (wrap (x1.2.2 - 1)) fun x12 => And ((0 : Int) ≤ x12 ∧ x12 < (x1.1.st.sent.length : Int)) (Call0 Zch.X (x1.1.bank, (x1.1.st.sent.getD (x12).toNat zPkt).kind, (x1.1.st.sent.getD (x12).toNat zPkt).frm, (x1.1.st.sent.getD (x12).toNat zPkt).sum, ()) fun x13 => And (Imp ((x8 == 1) = true) (Call0 Zcw.X (x3.1.st, x1.2.2, ()) fun x14 => And (Imp (And ((x14 == 2) = true) (True)) ((ZbS (x3.1.bank, x1.1.bank, ())).P)) (Lt ((ZbS.S (x3.1.bank, x1.1.bank, ()))) fun x15 => X (bif x14 == 2 then x15 else false)))) (Imp ((x8 == 1) = false) (Call0 Zcw.X (x3.1.st, x1.2.2, ()) fun x16 => And (Imp (And ((x16 == 3) = true) (True)) ((ZbS (x3.1.bank, x13.1, ())).P)) (Lt ((ZbS.S (x3.1.bank, x13.1, ()))) fun x17 => And (Imp (And (x17 = false) (And ((x16 == 3) = true) (True))) ((ZbS (x3.1.bank, x1.1.bank, ())).P)) (Lt ((ZbS.S (x3.1.bank, x1.1.bank, ()))) fun x18 => Lt (bif x16 == 3 then bif x17 then true else x18 else false) fun x19 => X x19)))))))))))), fun r => (r = true) ∧ True, fun r => (.v (.c (.bool r)), [])⟩
theorem Zc7.X : XF Zc7 := mkF (false) fun (a0, ()) hp => by
  obtain ⟨p0, -⟩ := hp
  dsimp only [Zc7]
  refine May.iff (B.dec) (fun h1 => ?_) (fun h1 => ?_)
  refine May.ret ⟨?_, trivial⟩; rotate_left 1
  refine May.call ⟨?_, trivial⟩ fun x1 q1 => have q1_0 := q1.1; have q1_1 := q1.2.1; May.call ⟨?_, trivial⟩ fun x2 q2 => have q2 := q2.1; May.call ⟨?_, trivial⟩ fun x3 q3 => have q3 := q3.1; May.chk (fun hπ => have g1 := B.neg (B.not (B.beq)) hπ.1; ⟨?_, trivial⟩) fun c1 => May.clq ⟨?_, trivial⟩ fun x4 q4 => have q4 := q4.1; May.lp (B.or (B.or (B.not (B.beq)) (B.not (Iff.rfl))) (B.not (Iff.rfl))) fun x5 e5 => May.iff (B.or (e5) (B.not (specSt))) (fun h2 => ?_) (fun h2 => ?_); rotate_left 5
  refine May.chk (fun hπ => have g1 := Iff.mp (B.beq) hπ.1; ⟨?_, trivial⟩) fun c2 => May.clq ⟨?_, trivial⟩ fun x6 q6 => have q6 := q6.1; May.ret ⟨?_, trivial⟩; rotate_left 3
  refine May.call0 trivial fun x7 q7 => have q7 := q7.1; May.clq trivial fun x8 q8 => have q8 := q8.1; May.lp (B.or (B.not (Iff.rfl)) (B.not (B.and (B.eq) (B.ne)))) fun x9 e9 => May.iff (e9) (fun h3 => ?_) (fun h3 => ?_)
  refine May.lp (B.beq) fun x10 e10 => May.chk (fun hπ => have g1 := Iff.mp (e10) hπ.1; ⟨?_, trivial⟩) fun c3 => May.clq ⟨?_, trivial⟩ fun x11 q11 => have q11 := q11.1; May.ret ⟨?_, trivial⟩; rotate_left 3
  refine May.lw ⟨?_, ?_⟩ fun x12 e12 => May.chk ?_ fun c4 => May.call0 trivial fun x13 q13 => have q13 := q13.1; May.iff (B.eq) (fun h4 => ?_) (fun h4 => ?_); rotate_left 3
  refine May.call0 trivial fun x14 q14 => have q14 := q14.1; May.chk (fun hπ => have g1 := Iff.mp (B.eq) hπ.1; ⟨?_, ?_, trivial⟩) fun c5 => May.clq ⟨?_, ?_, trivial⟩ fun x15 q15 => have q15 := q15.1; May.ret ⟨?_, trivial⟩; rotate_left 5
  refine May.call0 trivial fun x16 q16 => have q16 := q16.1; May.chk (fun hπ => have g1 := Iff.mp (B.eq) hπ.1; ⟨?_, ?_, trivial⟩) fun c6 => May.clq ⟨?_, ?_, trivial⟩ fun x17 q17 => have q17 := q17.1; May.chk (fun hπ => have g1 := B.neg (Iff.rfl) hπ.1; have g2 := Iff.mp (B.eq) hπ.2.1; ⟨?_, ?_, trivial⟩) fun c7 => May.clq ⟨?_, ?_, trivial⟩ fun x18 q18 => have q18 := q18.1; May.lp (B.and (B.eq) (B.or (Iff.rfl) (Iff.rfl))) fun x19 e19 => May.ret ⟨?_, trivial⟩
  all_goals try dsimp only
  all_goals first | with_reducible assumption | omega | (with_reducible rfl; done) | (exact rt_lt q3 q1_0; done) | (exact rtB q2 q3 q6; done) | (exact (rt_lt q3 q1_0).1.1; done) | (exact (rt_lt q3 q1_0).1.2.1; done) | (exact tell_no q3 (tl_ok q1_0 h2) q7 q8 h3 e10 q11; done) | (exact tell_2 q3 (nn fun g => h3 (.inl g)) q8 h4 q14 q15; done) | (exact tell_3 q3 (nn fun g => h3 (.inl g)) q8 h4 e12 q13 q16 q17 q18 e19; done)
abbrev Zc7.S := Classical.choose Zc7.X
def Zc7.c : Ctr := fc 8 [false] Zc7.L Zc7 Zc7.S
theorem Zc7.good : Good Try.prog Zc7.c := mkFG (fn := Try.f8) {} Zc7.X (consG ZcT.good (consG ZcL.good (consG ZcJ.good (consG ZbT.good (consG ZV.good (consG ZI.good (consG Zcw.good (consG Zcv.good (consG Zch.good (consG ZbS.good noG)))))))))) (by kernel_rfl) (by kernel_rfl) (l0 (by kernel_rfl)) (c0 (by kernel_rfl)) fun s K => by kernel_rfl
end
end Hw
end Go.Proofs.Ytloicplgckomdaa
