/- What is next: made by gen.py. -/
import Derived.Test.YtmhighcagpbmeaaK4
import Derived.Test.YtmhighcagpbmeaaE16
set_option linter.unusedVariables false
set_option linter.unusedSimpArgs false
set_option maxRecDepth 100000
set_option maxHeartbeats 400000
namespace Go.Proofs.Ytmhighcagpbmeaa
namespace Hw
open Go
noncomputable section
attribute [local irreducible] evFn evBody wrap wxor
abbrev NextQ (c : Ch) (h n : Int) : Prop := (ChOk c → h = (if (c.past.length : Int) + 1 > 90 then 0 else (c.past.length : Int) + 1) ∧ n = (if (c.st.sent.length : Int) + 1 > 8 then 0 else (c.st.sent.length : Int) + 1)) ∧ (¬ ChOk c → h = 0 ∧ n = 0)
theorem next_f {c : Ch} (h : ¬ ChOk c) : NextQ c 0 0 := ⟨fun g => absurd g h, fun _ => ⟨rfl, rfl⟩⟩
theorem next_same {c : Ch} {h n h' n' : Int} (q : NextQ c h n) (q' : NextQ c h' n') : h = h' ∧ n = n' := by
  by_cases g : ChOk c
  · have a := q.1 g
    have b := q'.1 g
    exact ⟨a.1.trans b.1.symm, a.2.trans b.2.symm⟩
  · have a := q.2 g
    have b := q'.2 g
    exact ⟨a.1.trans b.1.symm, a.2.trans b.2.symm⟩
theorem next_in {P S h n x5 x6 : Int} (hP : 0 ≤ P ∧ P ≤ 90) (hS : 0 ≤ S ∧ S ≤ 8) (eh : h = if P + 1 > 90 then 0 else P + 1) (en : n = if S + 1 > 8 then 0 else S + 1) (e5 : -9223372036854775808 ≤ P + 1 ∧ P + 1 ≤ 9223372036854775807 → x5 = P + 1) (e6 : -9223372036854775808 ≤ S + 1 ∧ S + 1 ≤ 9223372036854775807 → x6 = S + 1) : ¬ (((¬ h = 0 ∧ ¬ h = x5 ∨ ¬ n = 0 ∧ ¬ n = x6) ∨ ¬ (h == 0) = (P == 90)) ∨ ¬ (n == 0) = (S == 8)) := by
  have e5 := e5 (by omega)
  have e6 := e6 (by omega)
  have a1 : (h == 0) = (P == 90) := Bool.eq_iff_iff.2 (by rw [beq_iff_eq, beq_iff_eq, eh]; split <;> omega)
  have a2 : (n == 0) = (S == 8) := Bool.eq_iff_iff.2 (by rw [beq_iff_eq, beq_iff_eq, en]; split <;> omega)
  rw [a1, a2]
  have b1 : h = 0 ∨ h = x5 := by rw [eh]; split <;> omega
  have b2 : n = 0 ∨ n = x6 := by rw [en]; split <;> omega
  rintro (((⟨c1, c2⟩ | ⟨c1, c2⟩) | c) | c)
  · exact b1.elim c1 c2
  · exact b2.elim c1 c2
  · exact c rfl
  · exact c rfl
theorem sent8 {c : Ch} (h : ChOk c) : 0 ≤ (c.st.sent.length : Int) ∧ (c.st.sent.length : Int) ≤ 8 := by
  have := stOk_in h.2.2.1
  unfold SIn at this
  omega
theorem next_fin {c x : Ch} {h n h' n' k : Int} {d : Bool} (q3 : NextQ c h n) (q : BlkQ c x) (ho : ChOk c) (q11 : NextQ x h' n') (e12 : -9223372036854775808 ≤ h + 1 ∧ h + 1 ≤ 9223372036854775807 → k = h + 1) (e13 : d = true ↔ (h = 0 ∨ h' = k) ∨ h' = 0 ∧ h = 90) : (bif n' == n then d else false) = true := by
  have hq := q.1 ho
  subst hq
  obtain ⟨a1, a2⟩ := q3.1 ho
  obtain ⟨b1, b2⟩ := q11.1 (blk_ok ho)
  have h4 := ho.2.2.2.1
  have hs : (blkC c).st = c.st := by unfold blkC; split <;> rfl
  rw [hs] at b2
  have hp : ((blkC c).past.length : Int) = if (c.past.length : Int) < 90 then (c.past.length : Int) + 1 else (c.past.length : Int) := by
    unfold blkC
    split
    · show (((c.past ++ [c.st]).length : Nat) : Int) = _
      rw [List.length_append, List.length_singleton]
      omega
    · rfl
  rw [B.and B.eq e13]
  refine ⟨b2.trans a2.symm, ?_⟩
  rw [hp] at b1
  have e12 := e12 (by rw [a1]; split <;> omega)
  rw [e12, b1, a1]
  split <;> split <;> (try split) <;> omega
theorem nOk {c : Ch} {p q : Prop} (hl : c.lt) (h : ¬((p ∨ q) ∨ ¬ZV.S c = true)) : ChOk c := (specChL hl).1 (nn fun g => h (.inr g))

def ZbY.L : FL := fCons (fSh sCh) (fNil)
def ZbY : Ch × Unit → FR (Int × Int) := fun (a0, ()) => ⟨(a0.lt) ∧ True, fun X => And (Imp ((!(ZY.S a0)) = true) (X (0, 0))) (Imp ((!(ZY.S a0)) = false) (Lt (wrap ((a0.past.length : Int) + 1)) fun x1 => Lt (wrap ((a0.st.sent.length : Int) + 1)) fun x2 => And (Imp ((decide (x1 > 90)) = true) (And (Imp ((decide (x2 > 8)) = true) (X (0, 0))) (Imp ((decide (x2 > 8)) = false) (X (0, x2))))) (Imp ((decide (x1 > 90)) = false) (And (Imp ((decide (x2 > 8)) = true) (X (x1, 0))) (Imp ((decide (x2 > 8)) = false) (X (x1, x2))))))), fun r => (NextQ a0 r.1 r.2) ∧ True, fun r => (.tup [.c (.int r.1), .c (.int r.2)], [])⟩
theorem ZbY.X : XF ZbY := mkF (0, 0) fun (a0, ()) hp => by
  obtain ⟨p0, -⟩ := hp
  dsimp only [ZbY]
  refine May.iff (B.not (Iff.rfl)) (fun h1 => ?_) (fun h1 => ?_)
  refine May.ret ⟨?_, trivial⟩; rotate_left 1
  refine May.lw ⟨?_, ?_⟩ fun x1 e1 => May.lw ⟨?_, ?_⟩ fun x2 e2 => May.iff (B.dec) (fun h2 => ?_) (fun h2 => ?_); rotate_left 4
  refine May.iff (B.dec) (fun h3 => ?_) (fun h3 => ?_)
  refine May.ret ⟨?_, trivial⟩; rotate_left 1
  refine May.ret ⟨?_, trivial⟩; rotate_left 1
  refine May.iff (B.dec) (fun h3 => ?_) (fun h3 => ?_)
  refine May.ret ⟨?_, trivial⟩; rotate_left 1
  refine May.ret ⟨?_, trivial⟩
  all_goals try dsimp only
  all_goals first | with_reducible assumption | omega | (refine ⟨fun _ => ⟨by split <;> omega, by split <;> omega⟩, fun g => absurd ((implChL p0).1 (nn h1)) g⟩; done) | (exact next_f fun g => h1 ((implChL p0).2 g); done) | (have := p0.2.2.1.1; omega; done) | (have := p0.2.1.1; omega; done)
abbrev ZbY.S := Classical.choose ZbY.X
def ZbY.c : Ctr := fc 42 [true] ZbY.L ZbY ZbY.S
theorem ZbY.good : Good Try.prog ZbY.c := mkFG (fn := Try.f42) {} ZbY.X (consG ZY.good noG) (by kernel_rfl) (by kernel_rfl) (l0 (by kernel_rfl)) (c0 (by kernel_rfl)) fun s K => by kernel_rfl
def ZbZ.L : FL := fCons (fSh sCh) (fNil)
def ZbZ : Ch × Unit → FR (Int × Int) := fun (a0, ()) => ⟨(a0.lt) ∧ True, fun X => And (Imp ((!(ZV.S a0)) = true) (X (0, 0))) (Imp ((!(ZV.S a0)) = false) (Lt (wrap ((a0.past.length : Int) + 1)) fun x1 => Lt (wrap ((a0.st.sent.length : Int) + 1)) fun x2 => And (Imp ((decide (x1 > 90)) = true) (And (Imp ((decide (x2 > 8)) = true) (X (0, 0))) (Imp ((decide (x2 > 8)) = false) (X (0, x2))))) (Imp ((decide (x1 > 90)) = false) (And (Imp ((decide (x2 > 8)) = true) (X (x1, 0))) (Imp ((decide (x2 > 8)) = false) (X (x1, x2))))))), fun r => (NextQ a0 r.1 r.2) ∧ True, fun r => (.tup [.c (.int r.1), .c (.int r.2)], [])⟩
theorem ZbZ.X : XF ZbZ := mkF (0, 0) fun (a0, ()) hp => by
  obtain ⟨p0, -⟩ := hp
  dsimp only [ZbZ]
  refine May.iff (B.not (Iff.rfl)) (fun h1 => ?_) (fun h1 => ?_)
  refine May.ret ⟨?_, trivial⟩; rotate_left 1
  refine May.lw ⟨?_, ?_⟩ fun x1 e1 => May.lw ⟨?_, ?_⟩ fun x2 e2 => May.iff (B.dec) (fun h2 => ?_) (fun h2 => ?_); rotate_left 4
  refine May.iff (B.dec) (fun h3 => ?_) (fun h3 => ?_)
  refine May.ret ⟨?_, trivial⟩; rotate_left 1
  refine May.ret ⟨?_, trivial⟩; rotate_left 1
  refine May.iff (B.dec) (fun h3 => ?_) (fun h3 => ?_)
  refine May.ret ⟨?_, trivial⟩; rotate_left 1
  refine May.ret ⟨?_, trivial⟩
  all_goals try dsimp only
  all_goals first | with_reducible assumption | omega | (refine ⟨fun _ => ⟨by split <;> omega, by split <;> omega⟩, fun g => absurd ((specChL p0).1 (nn h1)) g⟩; done) | (exact next_f fun g => h1 ((specChL p0).2 g); done) | (have := p0.2.2.1.1; omega; done) | (have := p0.2.1.1; omega; done)
abbrev ZbZ.S := Classical.choose ZbZ.X
def ZbZ.c : Ctr := fc 41 [true] ZbZ.L ZbZ ZbZ.S
theorem ZbZ.good : Good Try.prog ZbZ.c := mkFG (fn := Try.f41) {} ZbZ.X (consG ZV.good noG) (by kernel_rfl) (by kernel_rfl) (l0 (by kernel_rfl)) (c0 (by kernel_rfl)) fun s K => by kernel_rfl
def Zb0.L : FL := fCons (fC (cArr true kU8s)) (fNil)
def Zb0 : List Int × Unit → FR (Bool) := fun (a0, ()) => ⟨(∀ k, 0 ≤ a0.getD k 0 ∧ a0.getD k 0 ≤ 255) ∧ True, fun X => And (Imp ((decide ((a0.length : Int) > 1048576)) = true) (X true)) (Imp ((decide ((a0.length : Int) > 1048576)) = false) (Call ZbK.X (a0, ()) fun x1 => Call ZbZ.X (x1, ()) fun x2 => Call ZbY.X (x1, ()) fun x3 => Lt (bif bif x3.1 != x2.1 then true else x3.2 != x2.2 then true else !(ZV.S x1)) fun x4 => And (Imp (x4 = true) (X (bif x3.1 == x2.1 then x3.2 == x2.2 else false))) (Imp (x4 = false) (Lt (wrap ((x1.past.length : Int) + 1)) fun x5 => Lt (wrap ((x1.st.sent.length : Int) + 1)) fun x6 => Lt (bif bif x3.1 != 0 then x3.1 != x5 else false then true else bif x3.2 != 0 then x3.2 != x6 else false) fun x7 => Lt (!(((x3.1 == 0) : Bool) == ((x1.past.length : Int) == 90))) fun x8 => Lt (!(((x3.2 == 0) : Bool) == ((x1.st.sent.length : Int) == 8))) fun x9 => And (Imp ((bif bif x7 then true else x8 then true else x9) = true) (X false)) (Imp ((bif bif x7 then true else x8 then true else x9) = false) (Call ZbO.X (x1, ()) fun x10 => Call ZbY.X (x10, ()) fun x11 => Lt (wrap (x3.1 + 1)) fun x12 => Lt (bif bif x3.1 == 0 then true else x11.1 == x12 then true else bif x11.1 == 0 then x3.1 == 90 else false) fun x13 => X (bif x11.2 == x3.2 then x13 else false))))))), fun r => (r = true) ∧ True, fun r => (.v (.c (.bool r)), [])⟩
theorem Zb0.X : XF Zb0 := mkF (false) fun (a0, ()) hp => by
  obtain ⟨p0, -⟩ := hp
  dsimp only [Zb0]
  refine May.iff (B.dec) (fun h1 => ?_) (fun h1 => ?_)
  refine May.ret ⟨?_, trivial⟩; rotate_left 1
  refine May.call ⟨?_, trivial⟩ fun x1 q1 => have q1 := q1.1; May.call ⟨?_, trivial⟩ fun x2 q2 => have q2 := q2.1; May.call ⟨?_, trivial⟩ fun x3 q3 => have q3 := q3.1; May.lp (B.or (B.or (B.ne) (B.ne)) (B.not (Iff.rfl))) fun x4 e4 => May.iff (e4) (fun h2 => ?_) (fun h2 => ?_); rotate_left 3
  refine May.ret ⟨?_, trivial⟩; rotate_left 1
  refine May.lwi fun x5 e5 => May.lwi fun x6 e6 => May.lp (B.or (B.and (B.ne) (B.ne)) (B.and (B.ne) (B.ne))) fun x7 e7 => May.lp (B.not (B.beq)) fun x8 e8 => May.lp (B.not (B.beq)) fun x9 e9 => May.iff (B.or (B.or (e7) (e8)) (e9)) (fun h3 => ?_) (fun h3 => ?_)
  refine May.ret ⟨?_, trivial⟩; rotate_left 1
  refine May.call ⟨?_, trivial⟩ fun x10 q10 => have q10 := q10.1; May.call ⟨?_, trivial⟩ fun x11 q11 => have q11 := q11.1; May.lwi fun x12 e12 => May.lp (B.or (B.or (B.eq) (B.eq)) (B.and (B.eq) (B.eq))) fun x13 e13 => May.ret ⟨?_, trivial⟩
  all_goals try dsimp only
  all_goals first | with_reducible assumption | omega | (with_reducible rfl; done) | (exact blkQ_lt q10 q1; done) | (exact next_fin q3 q10 (nOk q1 h2) q11 e12 e13; done) | (rw [B.and B.eq B.eq]; exact next_same q3 q2; done) | (exact absurd h3 (next_in ⟨by omega, by have := (nOk q1 h2).2.2.2.1; omega⟩ (sent8 (nOk q1 h2)) (q3.1 (nOk q1 h2)).1 (q3.1 (nOk q1 h2)).2 e5 e6); done)
abbrev Zb0.S := Classical.choose Zb0.X
def Zb0.c : Ctr := fc 12 [false] Zb0.L Zb0 Zb0.S
theorem Zb0.good : Good Try.prog Zb0.c := mkFG (fn := Try.f12) {} Zb0.X (consG ZbK.good (consG ZbZ.good (consG ZbY.good (consG ZV.good (consG ZbO.good noG))))) (by kernel_rfl) (by kernel_rfl) (l0 (by kernel_rfl)) (c0 (by kernel_rfl)) fun s K => by kernel_rfl
end
end Hw
end Go.Proofs.Ytmhighcagpbmeaa
