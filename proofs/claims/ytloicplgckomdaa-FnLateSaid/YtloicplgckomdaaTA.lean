/- Laws of packets that are settled, 3: made by gen.py. -/
import Derived.Test.YtloicplgckomdaaTC
import Derived.Test.YtloicplgckomdaaRD
set_option linter.unusedVariables false
set_option linter.unusedSimpArgs false
set_option maxRecDepth 100000
set_option maxHeartbeats 400000
namespace Go.Proofs.Ytloicplgckomdaa
namespace Hw
open Go
noncomputable section
attribute [local irreducible] evFn evBody wrap wxor
theorem la_ok {c : Ch} {s : St} {u : Prop} {h : Int} (hl : c.lt) (g : ¬((((u ∨ ¬ZV.S c = true) ∨ ¬StOk s) ∨ h < 1) ∨ h > 90)) : (ChOk c ∧ StOk s) ∧ 1 ≤ h ∧ h ≤ 90 := ⟨⟨(specChL hl).1 (nn fun g' => g (.inl (.inl (.inl (.inr g'))))), nn fun g' => g (.inl (.inl (.inr g')))⟩, by omega⟩
theorem late_can {c r : Ch} {s : St} {h i x8 x9 x10 x11 : Int} {t : Bool} (q3 : RlQ c s h i r t) (ho : (ChOk c ∧ StOk s) ∧ 1 ≤ h ∧ h ≤ 90) (q8 : StlQ c.st i x8) (q9 : GotQ s i x9) (e10 : i < 1 ∧ x10 = 1 ∨ ¬ i < 1 ∧ x10 = i) (e11 : -9223372036854775808 ≤ x10 - 1 ∧ x10 - 1 ≤ 9223372036854775807 → x11 = x10 - 1) : t = true ↔ (x8 = 1 ∧ x9 = 0) ∧ h ≥ (c.st.sent.getD x11.toNat zPkt).til := by
  have e := stl_one ho.1.1.2.2.1 q8
  have key : Mine0 c.st i → x11 = i - 1 ∧ (x9 = 0 ↔ s.got.getD (i - 1).toNat 0 = 0) := fun m => by
    have hr := mine_rng ho.1.1.2.2.1 m
    have : x10 = i := by omega
    exact ⟨by rw [e11 (by omega)]; omega, got_0 ho.1.2 ⟨hr.1, hr.2.2.1⟩ q9⟩
  refine q3.1.trans ⟨fun g => ?_, fun g => ?_⟩
  · obtain ⟨k1, k2⟩ := key g.2.1
    rw [k1, k2, e]
    exact ⟨⟨g.2.1, g.2.2.2⟩, by have := g.2.2.1; omega⟩
  · obtain ⟨k1, k2⟩ := key (e.1 g.1.1)
    rw [k1, k2, e] at g
    exact ⟨ho, g.1.1, by have := g.2; omega, g.1.2⟩
theorem late_no {c r : Ch} {s : St} {h i x8 x9 x10 x11 : Int} {t x13 x14 : Bool} (q3 : RlQ c s h i r t) (ho : (ChOk c ∧ StOk s) ∧ 1 ≤ h ∧ h ≤ 90) (q8 : StlQ c.st i x8) (q9 : GotQ s i x9) (e10 : i < 1 ∧ x10 = 1 ∨ ¬ i < 1 ∧ x10 = i) (e11 : -9223372036854775808 ≤ x10 - 1 ∧ x10 - 1 ≤ 9223372036854775807 → x11 = x10 - 1) (e13 : x13 = true ↔ (x8 = 1 ∧ x9 = 0) ∧ h ≥ (c.st.sent.getD x11.toNat zPkt).til) (h3 : ¬ t = true ∨ ¬((x8 = 1 ∧ x9 = 0) ∧ h ≥ (c.st.sent.getD x11.toNat zPkt).til)) (q14 : x14 = true ↔ r = c) : (bif t == x13 then x14 else false) = true := by
  have e := late_can q3 ho q8 q9 e10 e11
  have ht : ¬ t = true := fun g => h3.elim (fun h => h g) fun h => h (e.1 g)
  have hb : t = x13 := Bool.eq_iff_iff.2 (e.trans e13.symm)
  rw [← hb, q14.2 ((q3.2.2 ht).1 ho)]
  simp
theorem late_3 {c r : Ch} {s : St} {b : Bk} {h i j x17 : Int} {t o x18 x19 : Bool} (q3 : RlQ c s h i r t) (ht : t = true) (ej : j = i - 1) (q16 : BackQ c.bank (c.st.sent.getD j.toNat zPkt).kind (c.st.sent.getD j.toNat zPkt).frm (c.st.sent.getD j.toNat zPkt).sum b o) (q17 : StlQ r.st i x17) (q18 : x18 = true ↔ r.bank = b) (e19 : x19 = true ↔ x17 = 3 ∧ (¬ o = true ∨ x18 = true)) : x19 = true := by
  subst ej
  obtain ⟨ho, hm, hg⟩ := q3.1.1 ht
  have hs := q3.2.1 ht
  have h5 := set_stl ho.1.1 hm hs q17
  obtain ⟨b', h6, h7, h8⟩ := hs
  have h6 := h6 rfl
  refine e19.2 ⟨h5, ?_⟩
  by_cases m : o = true
  · refine .inr (q18.2 ?_)
    rw [h8, q16.2.1 m]
    exact h6.1 (q16.1.1 m)
  · exact .inl m
theorem late_rng {c r : Ch} {s : St} {h i : Int} {t : Bool} (q3 : RlQ c s h i r t) (ht : t = true) : 1 ≤ i ∧ i ≤ (c.st.sent.length : Int) ∧ i ≤ 8 := by
  have hr := mine_rng (q3.1.1 ht).1.1.1.2.2.1 (q3.1.1 ht).2.1
  omega
theorem late_idx {c : Ch} {i x8 x10 x11 : Int} (h : ChOk c) (q8 : StlQ c.st i x8) (h8 : x8 = 1) (e10 : i < 1 ∧ x10 = 1 ∨ ¬ i < 1 ∧ x10 = i) (e11 : -9223372036854775808 ≤ x10 - 1 ∧ x10 - 1 ≤ 9223372036854775807 → x11 = x10 - 1) : 0 ≤ x11 ∧ x11 < (c.st.sent.length : Int) := by
  have hr := mine_rng h.2.2.1 ((stl_one h.2.2.1 q8).1 h8)
  have := e11 (by omega)
  omega

def Zda.L : FL := fCons (fC (cArr true kU8s)) (fNil)
def Zda : List Int × Unit → FR (Bool) := fun (a0, ()) => ⟨(∀ k, 0 ≤ a0.getD k 0 ∧ a0.getD k 0 ≤ 255) ∧ True, fun X => And (Imp ((decide ((a0.length : Int) > 1048576)) = true) (X true)) (Imp ((decide ((a0.length : Int) > 1048576)) = false) (Call ZcU.X (a0, ()) fun x1 => Call ZcM.X (x1.1, x1.2.1, x1.2.2.1, x1.2.2.2, ()) fun x2 => Call ZcK.X (x1.1, x1.2.1, x1.2.2.1, x1.2.2.2, ()) fun x3 => And (Imp (And ((!((x3.2 : Bool) == x2.2)) = false) (True)) ((ZbT (x3.1, x2.1, ())).P)) (Lt ((ZbT.S (x3.1, x2.1, ()))) fun x4 => Lt (bif bif !((x3.2 : Bool) == x2.2) then true else !x4 then true else !(ZV.S x1.1)) fun x5 => Lt (bif bif x5 then true else !(ZI.S x1.2.1) then true else decide (x1.2.2.1 < 1)) fun x6 => And (Imp ((bif x6 then true else decide (x1.2.2.1 > 90)) = true) (And (Imp (And (((x3.2 : Bool) == x2.2) = true) (True)) ((ZbT (x3.1, x2.1, ())).P)) (Lt ((ZbT.S (x3.1, x2.1, ()))) fun x7 => X (bif (x3.2 : Bool) == x2.2 then x7 else false)))) (Imp ((bif x6 then true else decide (x1.2.2.1 > 90)) = false) (Call0 Zcw.X (x1.1.st, x1.2.2.2, ()) fun x8 => Lt ((Zcv.S (x1.2.1, x1.2.2.2, ()))) fun x9 => Lt (bif decide (x1.2.2.2 < 1) then 1 else x1.2.2.2) fun x10 => Lt (wrap (x10 - 1)) fun x11 => And (Imp (And ((bif x8 == 1 then x9 == 0 else false) = true) (True)) ((0 : Int) ≤ x11 ∧ x11 < (x1.1.st.sent.length : Int))) (Lt (decide (x1.2.2.1 ≥ (x1.1.st.sent.getD (x11).toNat zPkt).til)) fun x12 => Lt (bif bif x8 == 1 then x9 == 0 else false then x12 else false) fun x13 => And (Imp ((bif !x3.2 then true else !x13) = true) (And (Imp (And (((x3.2 : Bool) == x13) = true) (True)) ((ZbT (x3.1, x1.1, ())).P)) (Lt ((ZbT.S (x3.1, x1.1, ()))) fun x14 => X (bif (x3.2 : Bool) == x13 then x14 else false)))) (Imp ((bif !x3.2 then true else !x13) = false) (Lt (wrap (x1.2.2.2 - 1)) fun x15 => And ((0 : Int) ≤ x15 ∧ x15 < (x1.1.st.sent.length : Int)) (Call0 Zch.X (x1.1.bank, (x1.1.st.sent.getD (x15).toNat zPkt).kind, (x1.1.st.sent.getD (x15).toNat zPkt).frm, (x1.1.st.sent.getD (x15).toNat zPkt).sum, ()) fun x16 => Call0 Zcw.X (x3.1.st, x1.2.2.2, ()) fun x17 => And (Imp (And ((!x16.2) = false) (And ((x17 == 3) = true) (True))) ((ZbS (x3.1.bank, x16.1, ())).P)) (Lt ((ZbS.S (x3.1.bank, x16.1, ()))) fun x18 => Lt (bif x17 == 3 then bif !x16.2 then true else x18 else false) fun x19 => X x19)))))))))), fun r => (r = true) ∧ True, fun r => (.v (.c (.bool r)), [])⟩
theorem Zda.X : XF Zda := mkF (false) fun (a0, ()) hp => by
  obtain ⟨p0, -⟩ := hp
  dsimp only [Zda]
  refine May.iff (B.dec) (fun h1 => ?_) (fun h1 => ?_)
  refine May.ret ⟨?_, trivial⟩; rotate_left 1
  refine May.call ⟨?_, trivial⟩ fun x1 q1 => have q1_0 := q1.1; have q1_1 := q1.2.1; May.call ⟨?_, trivial⟩ fun x2 q2 => have q2 := q2.1; May.call ⟨?_, trivial⟩ fun x3 q3 => have q3 := q3.1; May.chk (fun hπ => have g1 := B.neg (B.not (B.beq)) hπ.1; ⟨?_, trivial⟩) fun c1 => May.clq ⟨?_, trivial⟩ fun x4 q4 => have q4 := q4.1; May.lp (B.or (B.or (B.not (B.beq)) (B.not (Iff.rfl))) (B.not (Iff.rfl))) fun x5 e5 => May.lp (B.or (B.or (e5) (B.not (specSt))) (B.dec)) fun x6 e6 => May.iff (B.or (e6) (B.dec)) (fun h2 => ?_) (fun h2 => ?_); rotate_left 5
  refine May.chk (fun hπ => have g1 := Iff.mp (B.beq) hπ.1; ⟨?_, trivial⟩) fun c2 => May.clq ⟨?_, trivial⟩ fun x7 q7 => have q7 := q7.1; May.ret ⟨?_, trivial⟩; rotate_left 3
  refine May.call0 trivial fun x8 q8 => have q8 := q8.1; May.clq trivial fun x9 q9 => have q9 := q9.1; May.lb (B.dec) fun x10 e10 => May.lwi fun x11 e11 => May.chk (fun hπ => have g1 := Iff.mp (B.and (B.eq) (B.eq)) hπ.1; ?_) fun c3 => May.lp (B.dec) fun x12 e12 => May.lp (B.and (B.and (B.eq) (B.eq)) (e12)) fun x13 e13 => May.iff (B.or (B.not (Iff.rfl)) (B.not (e13))) (fun h3 => ?_) (fun h3 => ?_); rotate_left 1
  refine May.chk (fun hπ => have g1 := Iff.mp (B.beq) hπ.1; ⟨?_, trivial⟩) fun c4 => May.clq ⟨?_, trivial⟩ fun x14 q14 => have q14 := q14.1; May.ret ⟨?_, trivial⟩; rotate_left 3
  refine May.lw ⟨?_, ?_⟩ fun x15 e15 => May.chk ?_ fun c5 => May.call0 trivial fun x16 q16 => have q16 := q16.1; May.call0 trivial fun x17 q17 => have q17 := q17.1; May.chk (fun hπ => have g1 := B.neg (B.not (Iff.rfl)) hπ.1; have g2 := Iff.mp (B.eq) hπ.2.1; ⟨?_, ?_, trivial⟩) fun c6 => May.clq ⟨?_, ?_, trivial⟩ fun x18 q18 => have q18 := q18.1; May.lp (B.and (B.eq) (B.or (B.not (Iff.rfl)) (Iff.rfl))) fun x19 e19 => May.ret ⟨?_, trivial⟩
  all_goals try dsimp only
  all_goals first | with_reducible assumption | omega | (with_reducible rfl; done) | (exact rl_lt q3 q1_0; done) | (exact rlB q2 q3 q7; done) | (exact (rl_lt q3 q1_0).1.1; done) | (exact (rl_lt q3 q1_0).1.2.1; done) | ((have := late_rng q3 (nn fun g => h3 (.inl g)); omega); done) | (exact late_idx (la_ok q1_0 h2).1.1 q8 g1.1 e10 e11; done) | (exact late_no q3 (la_ok q1_0 h2) q8 q9 e10 e11 e13 h3 q14; done) | (exact late_3 q3 (nn fun g => h3 (.inl g)) e15 q16 q17 q18 e19; done)
abbrev Zda.S := Classical.choose Zda.X
def Zda.c : Ctr := fc 9 [false] Zda.L Zda Zda.S
theorem Zda.good : Good Try.prog Zda.c := mkFG (fn := Try.f9) {} Zda.X (consG ZcU.good (consG ZcM.good (consG ZcK.good (consG ZbT.good (consG ZV.good (consG ZI.good (consG Zcw.good (consG Zcv.good (consG Zch.good (consG ZbS.good noG)))))))))) (by kernel_rfl) (by kernel_rfl) (l0 (by kernel_rfl)) (c0 (by kernel_rfl)) fun s K => by kernel_rfl
end
end Hw
end Go.Proofs.Ytloicplgckomdaa
