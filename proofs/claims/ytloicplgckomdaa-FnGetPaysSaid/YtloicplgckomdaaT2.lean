/- Laws of packets that come, 2: made by gen.py. -/
import Derived.Test.YtloicplgckomdaaT0
import Derived.Test.YtloicplgckomdaaP3
set_option linter.unusedVariables false
set_option linter.unusedSimpArgs false
set_option maxRecDepth 100000
set_option maxHeartbeats 400000
namespace Go.Proofs.Ytloicplgckomdaa
namespace Hw
open Go
noncomputable section
attribute [local irreducible] evFn evBody wrap wxor
theorem pays_1 {c r : Ch} {s : St} {p : Pkt} {b : Bk} {t o x10 x14 : Bool} {x7 x9 x11 x12 x13 : Int} (q3 : RgQ c s p r t) (h : t = true) (q7 : x7 = 3 - p.kind) (q8 : BackQ c.bank x7 p.to p.sum b o) (q9 : GotQ r.st p.seq x9) (h3 : x9 = 1) (q10 : x10 = true ↔ r.bank = b) (q11 : HasK r.bank x7 p.to x11) (q12 : HasK c.bank x7 p.to x12) (e13 : -9223372036854775808 ≤ x12 + p.sum ∧ x12 + p.sum ≤ 9223372036854775807 → x13 = x12 + p.sum) (e14 : x14 = true ↔ (o = true ∧ x10 = true) ∧ x11 = x13) : x14 = true := by
  have q7 : x7 = pkO p := by
    have hk := (q3.1.1 h).1.2.2.2.1
    rw [q7]
    unfold pkO
    split <;> omega
  subst q7
  obtain ⟨b', hp, hb⟩ := rg_got q3 h q9
  have ho := (q3.1.1 h).1
  have m : PayOk c.bank p := nn fun g => by have := (hp.2 g).2; omega
  have hw := bkback_ok m.2
  have e1 := (hp.1 m).1
  have e2 := q8.2.1 (q8.1.2 m.2)
  have hto := m.2.2.2.1
  have l1 := ho.1.2.1.1.1
  have l2 := ho.1.2.1.2.1.1
  have l3 := hw.1.1
  have l4 := hw.2.1.1
  rw [hb, e1] at q10 q11
  have k1 := q11 hto l3 l4
  have k2 := q12 hto l1 l2
  have r1 := get_tot ho.1.2.1.1 hto
  have r2 := get_tot ho.1.2.1.2.1 hto
  have r3 := ho.1.2.1
  have r4 := m.2.2.2.2
  refine e14.2 ⟨⟨q8.1.2 m.2, q10.2 e2.symm⟩, ?_⟩
  have k3 : x12 = (lstK c.bank (pkO p)).getD (p.to - 1).toNat 0 := k2
  have k4 : (lstK (backB c.bank (pkO p) p.to p.sum) (pkO p)).getD (p.to - 1).toNat 0 = x12 + p.sum := by
    rw [k3]
    unfold lstK backB
    split
    · show (c.bank.own.set _ _).getD _ 0 = _
      rw [getD_set (by omega), if_pos rfl]
    · show (c.bank.notes.set _ _).getD _ 0 = _
      rw [getD_set (by omega), if_pos rfl]
  have k5 : 0 ≤ x12 ∧ x12 ≤ 30 := by
    rw [k3]
    have := r3.1.2 (p.to - 1).toNat (by omega)
    have := r3.2.1.2 (p.to - 1).toNat (by omega)
    unfold lstK
    split <;> assumption
  rw [k1, k4, e13 (by omega)]
theorem pays_2 {c r : Ch} {s : St} {p : Pkt} {b : Bk} {t o x15 x16 : Bool} {x7 x9 : Int} (q3 : RgQ c s p r t) (h : t = true) (q7 : x7 = 3 - p.kind) (q8 : BackQ c.bank x7 p.to p.sum b o) (q9 : GotQ r.st p.seq x9) (h3 : ¬ x9 = 1) (q15 : x15 = true ↔ r.bank = c.bank) (e16 : x16 = true ↔ (x9 = 2 ∧ ¬ o = true) ∧ x15 = true) : x16 = true := by
  have q7 : x7 = pkO p := by
    have hk := (q3.1.1 h).1.2.2.2.1
    rw [q7]
    unfold pkO
    split <;> omega
  subst q7
  obtain ⟨b', hp, hb⟩ := rg_got q3 h q9
  have m : ¬ PayOk c.bank p := fun g => h3 (hp.1 g).2
  refine e16.2 ⟨⟨(hp.2 m).2, fun g => ?_⟩, q15.2 (by rw [hb]; exact (hp.2 m).1)⟩
  have g := q8.1.1 g
  exact m ⟨by have := g.2.2.1; omega, g⟩

def ZcW.L : FL := fCons (fSh sInt) (fNil)
def ZcW : Int × Unit → FR (Int) := fun (a0, ()) => ⟨(0 ≤ a0 ∧ a0 ≤ 9) ∧ True, fun X => Lt (wrap (3 - a0)) fun x1 => X x1, fun r => (r = 3 - a0) ∧ True, fun r => (.v (.c (.int r)), [])⟩
theorem ZcW.X : XF ZcW := mkF (0) fun (a0, ()) hp => by
  obtain ⟨p0, -⟩ := hp
  dsimp only [ZcW]
  refine May.lw ⟨?_, ?_⟩ fun x1 e1 => May.ret ⟨?_, trivial⟩
  all_goals try dsimp only
  all_goals first | with_reducible assumption | omega | rfl | assumption | (simp only [List.length_append, List.length_cons, List.length_nil, List.length_set, List.length_replicate, Int.natCast_add, Int.natCast_one] at *; omega) | grind
abbrev ZcW.S := Classical.choose ZcW.X
def ZcW.c : Ctr := fc 40 [false] ZcW.L ZcW ZcW.S
theorem ZcW.good : Good Try.prog ZcW.c := mkFG (fn := Try.f40) {} ZcW.X noG (by kernel_rfl) (by kernel_rfl) (l0 (by kernel_rfl)) (c0 (by kernel_rfl)) fun s K => by kernel_rfl
def ZcX.L : FL := fCons (fC (cArr true kU8s)) (fNil)
def ZcX : List Int × Unit → FR (Bool) := fun (a0, ()) => ⟨(∀ k, 0 ≤ a0.getD k 0 ∧ a0.getD k 0 ≤ 255) ∧ True, fun X => And (Imp ((decide ((a0.length : Int) > 1048576)) = true) (X true)) (Imp ((decide ((a0.length : Int) > 1048576)) = false) (Call ZcS.X (a0, ()) fun x1 => Call ZcA.X (x1.1, x1.2.1, x1.2.2, ()) fun x2 => Call Zcz.X (x1.1, x1.2.1, x1.2.2, ()) fun x3 => And (Imp (And ((!((x3.2 : Bool) == x2.2)) = false) (True)) ((ZbT (x3.1, x2.1, ())).P)) (Lt ((ZbT.S (x3.1, x2.1, ()))) fun x4 => Lt (bif bif !((x3.2 : Bool) == x2.2) then true else !x4 then true else !x3.2) fun x5 => And (Imp (x5 = true) (And (Imp (And (((x3.2 : Bool) == x2.2) = true) (True)) ((ZbT (x3.1, x2.1, ())).P)) (Lt ((ZbT.S (x3.1, x2.1, ()))) fun x6 => X (bif (x3.2 : Bool) == x2.2 then x6 else false)))) (Imp (x5 = false) (Call ZcW.X (x1.2.2.kind, ()) fun x7 => Call0 Zch.X (x1.1.bank, x7, x1.2.2.to, x1.2.2.sum, ()) fun x8 => Call0 Zcv.X (x3.1.st, x1.2.2.seq, ()) fun x9 => And (Imp ((x9 == 1) = true) (And (Imp (And (x8.2 = true) (True)) ((ZbS (x3.1.bank, x8.1, ())).P)) (Lt ((ZbS.S (x3.1.bank, x8.1, ()))) fun x10 => And (Imp (And ((bif x8.2 then x10 else false) = true) (True)) ((Zcn (x3.1.bank, x7, x1.2.2.to, ())).P)) (Lt ((Zcn.S (x3.1.bank, x7, x1.2.2.to, ()))) fun x11 => And (Imp (And ((bif x8.2 then x10 else false) = true) (True)) ((Zcn (x1.1.bank, x7, x1.2.2.to, ())).P)) (Lt ((Zcn.S (x1.1.bank, x7, x1.2.2.to, ()))) fun x12 => Lt (wrap (x12 + x1.2.2.sum)) fun x13 => Lt (bif bif x8.2 then x10 else false then x11 == x13 else false) fun x14 => X x14))))) (Imp ((x9 == 1) = false) (And (Imp (And ((bif x9 == 2 then !x8.2 else false) = true) (True)) ((ZbS (x3.1.bank, x1.1.bank, ())).P)) (Lt ((ZbS.S (x3.1.bank, x1.1.bank, ()))) fun x15 => Lt (bif bif x9 == 2 then !x8.2 else false then x15 else false) fun x16 => X x16)))))))), fun r => (r = true) ∧ True, fun r => (.v (.c (.bool r)), [])⟩
theorem ZcX.X : XF ZcX := mkF (false) fun (a0, ()) hp => by
  obtain ⟨p0, -⟩ := hp
  dsimp only [ZcX]
  refine May.iff (B.dec) (fun h1 => ?_) (fun h1 => ?_)
  refine May.ret ⟨?_, trivial⟩; rotate_left 1
  refine May.call ⟨?_, trivial⟩ fun x1 q1 => have q1_0 := q1.1; have q1_1 := q1.2.1; May.call ⟨?_, trivial⟩ fun x2 q2 => have q2 := q2.1; May.call ⟨?_, trivial⟩ fun x3 q3 => have q3 := q3.1; May.chk (fun hπ => have g1 := B.neg (B.not (B.beq)) hπ.1; ⟨?_, trivial⟩) fun c1 => May.clq ⟨?_, trivial⟩ fun x4 q4 => have q4 := q4.1; May.lp (B.or (B.or (B.not (B.beq)) (B.not (Iff.rfl))) (B.not (Iff.rfl))) fun x5 e5 => May.iff (e5) (fun h2 => ?_) (fun h2 => ?_); rotate_left 5
  refine May.chk (fun hπ => have g1 := Iff.mp (B.beq) hπ.1; ⟨?_, trivial⟩) fun c2 => May.clq ⟨?_, trivial⟩ fun x6 q6 => have q6 := q6.1; May.ret ⟨?_, trivial⟩; rotate_left 3
  refine May.call ⟨?_, trivial⟩ fun x7 q7 => have q7 := q7.1; May.call0 trivial fun x8 q8 => have q8 := q8.1; May.call0 trivial fun x9 q9 => have q9 := q9.1; May.iff (B.eq) (fun h3 => ?_) (fun h3 => ?_); rotate_left 1
  refine May.chk (fun hπ => have g1 := Iff.mp (Iff.rfl) hπ.1; ⟨?_, ?_, trivial⟩) fun c3 => May.clq ⟨?_, ?_, trivial⟩ fun x10 q10 => have q10 := q10.1; May.chk (fun hπ => have g1 := Iff.mp (B.and (Iff.rfl) (Iff.rfl)) hπ.1; ⟨?_, ?_, trivial⟩) fun c4 => May.clq ⟨?_, ?_, trivial⟩ fun x11 q11 => have q11 := q11.1; May.chk (fun hπ => have g1 := Iff.mp (B.and (Iff.rfl) (Iff.rfl)) hπ.1; ⟨?_, ?_, trivial⟩) fun c5 => May.clq ⟨?_, ?_, trivial⟩ fun x12 q12 => have q12 := q12.1; May.lwi fun x13 e13 => May.lp (B.and (B.and (Iff.rfl) (Iff.rfl)) (B.eq)) fun x14 e14 => May.ret ⟨?_, trivial⟩; rotate_left 13
  refine May.chk (fun hπ => have g1 := Iff.mp (B.and (B.eq) (B.not (Iff.rfl))) hπ.1; ⟨?_, ?_, trivial⟩) fun c6 => May.clq ⟨?_, ?_, trivial⟩ fun x15 q15 => have q15 := q15.1; May.lp (B.and (B.and (B.eq) (B.not (Iff.rfl))) (Iff.rfl)) fun x16 e16 => May.ret ⟨?_, trivial⟩
  all_goals try dsimp only
  all_goals first | with_reducible assumption | omega | (with_reducible rfl; done) | ((have := (rg_may q3 (nn fun g => h2 (.inr g))).1.2.2.2.1; omega); done) | (exact rg_lt q3 q1_0; done) | (exact rgB q2 q3 q6; done) | (exact rgB q2 q3 q7; done) | (exact (rg_lt q3 q1_0).1.1; done) | (exact (rg_lt q3 q1_0).1.2.1; done) | (exact q1_0.1.1; done) | (exact q1_0.1.2.1; done) | (exact pays_1 q3 (nn fun g => h2 (.inr g)) q7 q8 q9 h3 q10 q11 q12 e13 e14; done) | (exact pays_2 q3 (nn fun g => h2 (.inr g)) q7 q8 q9 h3 q15 e16; done)
abbrev ZcX.S := Classical.choose ZcX.X
def ZcX.c : Ctr := fc 11 [false] ZcX.L ZcX ZcX.S
theorem ZcX.good : Good Try.prog ZcX.c := mkFG (fn := Try.f11) {} ZcX.X (consG ZcS.good (consG ZcA.good (consG Zcz.good (consG ZbT.good (consG ZcW.good (consG Zch.good (consG Zcv.good (consG ZbS.good (consG Zcn.good noG))))))))) (by kernel_rfl) (by kernel_rfl) (l0 (by kernel_rfl)) (c0 (by kernel_rfl)) fun s K => by kernel_rfl
end
end Hw
end Go.Proofs.Ytloicplgckomdaa
