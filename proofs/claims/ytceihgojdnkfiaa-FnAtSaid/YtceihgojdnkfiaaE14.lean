/- Draws, 15: made by gen.py. -/
import Derived.Test.YtceihgojdnkfiaaE13
set_option linter.unusedVariables false
set_option linter.unusedSimpArgs false
set_option maxRecDepth 100000
set_option maxHeartbeats 400000
namespace Go.Proofs.Ytceihgojdnkfiaa
namespace Hw
open Go
noncomputable section
attribute [local irreducible] evFn evBody wrap wxor
def ZbI.L : FL := fCons (fC (cPtr 1 (cCons (cArrE true kU8s) (cCons cInt (cNil))) rfl)) (fNil)
def ZbI : (List Int × Int × Unit) × Unit → FR (Ch × Int) := fun ((a0, a1, ()), ()) => ⟨(BY a0) ∧ (0 ≤ a1) ∧ (a1 ≤ 780000000000) ∧ True, fun X => Call ZbG.X ((a0, a1, ()), ()) fun x1 => Or (And (x1.1 ≤ 2) (And ((Zd ((a0, x1.2.2.2, ()), (2 : Int) - (x1.1 : Int), ())).P) (Lt ((Zd.S ((a0, x1.2.2.2, ()), (2 : Int) - (x1.1 : Int), ()))) fun x2 => And ((0 : Int) ≤ x2.1 ∧ (x1.1 : Int) + x2.1 = (0 : Int)) (X (x1.2.1, x2.2))))) (And (x1.1 ≤ 2) (And ((Zd ((a0, x1.2.2.2, ()), (2 : Int) - (x1.1 : Int), ())).P) (Lt ((Zd.S ((a0, x1.2.2.2, ()), (2 : Int) - (x1.1 : Int), ()))) fun x3 => And ((0 : Int) ≤ x3.1 ∧ (x1.1 : Int) + x3.1 = (1 : Int)) (X (x1.2.2.1, x3.2))))), fun r => (CZ r.1) ∧ (a1 ≤ r.2 ∧ r.2 ≤ a1 + 2020) ∧ True, fun r => (.v (.agg [.int r.1.id, .own 1 1 3, .own 2 1 3, .int r.1.bank.locked, .int r.1.st.way, .int r.1.st.ver, .int r.1.st.want, .own 3 7 68, .own 4 1 4, .own 5 1 4, .own 6 1 3, .own 7 7 38, .own 8 1 3]), [.raw 1 [.arr true (.u8s a0), .int r.2], .arr (.ints r.1.bank.own), .arr (.ints r.1.bank.notes), .arr (.pkts r.1.st.sent), .arr (.bools r.1.st.live), .arr (.bools r.1.st.back), .arr (.ints r.1.st.got), .arr (.sts r.1.past), .arr (.ints r.1.knows)])⟩
theorem ZbI.X : XF ZbI := mkF (zCh, 0) fun ((a0, a1, ()), ()) hp => by
  obtain ⟨p0, p1, p2, -⟩ := hp
  dsimp only [ZbI]
  refine May.call ⟨?_, ?_, ?_, trivial⟩ fun x1 q1 => have q1_0 := q1.1; have q1_1 := q1.2.1; have q1_2 := q1.2.2.1; have q1_3 := q1.2.2.2.1; May.alt (c := ((x1.1 : Int) + (Zd.S ((a0, x1.2.2.2, ()), (2 : Int) - (x1.1 : Int), ())).1 == 0)) (B.eq) (fun h1 => ?_) (fun h1 => ?_); rotate_left 3
  refine May.chk ?_ fun c1 => May.chk ⟨?_, ?_, ?_, trivial⟩ fun c2 => May.clqe ⟨?_, ?_, ?_, trivial⟩ fun x2 e2 q2 => have q2_0 := q2.1; have q2_1 := q2.2.1; have q2_2 := q2.2.2.1; May.chk ?_ fun c3 => May.ret ⟨?_, ?_, trivial⟩; rotate_left 10
  refine May.chk ?_ fun c4 => May.chk ⟨?_, ?_, ?_, trivial⟩ fun c5 => May.clqe ⟨?_, ?_, ?_, trivial⟩ fun x3 e3 q3 => have q3_0 := q3.1; have q3_1 := q3.2.1; have q3_2 := q3.2.2.1; May.chk ?_ fun c6 => May.ret ⟨?_, ?_, trivial⟩
  all_goals try dsimp only
  all_goals first | with_reducible assumption | omega | rfl | assumption | (simp only [List.length_append, List.length_cons, List.length_nil, List.length_set, List.length_replicate, Int.natCast_add, Int.natCast_one] at *; omega) | grind
abbrev ZbI.S := Classical.choose ZbI.X
def ZbI.c : Ctr := fc 64 [false] ZbI.L ZbI ZbI.S
theorem ZbI.good : Good Try.prog ZbI.c := mkFG (fn := Try.f64) {sp := [(2, [[(13, 0)], [(13, 1)]])], sh := [[none, some (.int, 3), some (.int, 3), none, none, none, none, some (.pkt, 68), some (.bool, 4), some (.bool, 4), some (.int, 3), some (.st, 38), some (.int, 3)]]} ZbI.X (consG ZbG.good (consG Zd.good noG)) (by kernel_rfl) (by kernel_rfl) (l0 (by kernel_rfl)) (c0 (by kernel_rfl)) fun s K => by kernel_rfl
end
end Hw
end Go.Proofs.Ytceihgojdnkfiaa
