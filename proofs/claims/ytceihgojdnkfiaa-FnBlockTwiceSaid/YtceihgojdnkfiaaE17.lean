/- Draws, 18: made by gen.py. -/
import Derived.Test.YtceihgojdnkfiaaE14
set_option linter.unusedVariables false
set_option linter.unusedSimpArgs false
set_option maxRecDepth 100000
set_option maxHeartbeats 400000
namespace Go.Proofs.Ytceihgojdnkfiaa
namespace Hw
open Go
noncomputable section
attribute [local irreducible] evFn evBody wrap wxor
def ZbV.L : FL := fCons (fC (cArr true kU8s)) (fNil)
def ZbV : List Int × Unit → FR (Ch) := fun (a0, ()) => ⟨(∀ k, 0 ≤ a0.getD k 0 ∧ a0.getD k 0 ≤ 255) ∧ True, fun X => Call Ze.X (a0, ()) fun x1 => Call ZbI.X ((x1, 0, ()), ()) fun x2 => X x2.1, fun r => (r.lt) ∧ True, fun r => (.v (.agg [.int r.id, .arr true (.ints r.bank.own), .arr true (.ints r.bank.notes), .int r.bank.locked, .int r.st.way, .int r.st.ver, .int r.st.want, .arr true (.pkts r.st.sent), .arr true (.bools r.st.live), .arr true (.bools r.st.back), .arr true (.ints r.st.got), .arr true (.sts r.past), .arr true (.ints r.knows)]), [])⟩
theorem ZbV.X : XF ZbV := mkF (zCh) fun (a0, ()) hp => by
  obtain ⟨p0, -⟩ := hp
  dsimp only [ZbV]
  refine May.call ⟨?_, trivial⟩ fun x1 q1 => have q1 := q1.1; May.call ⟨?_, ?_, ?_, trivial⟩ fun x2 q2 => have q2_0 := q2.1; have q2_1 := q2.2.1; May.ret ⟨?_, trivial⟩
  all_goals try dsimp only
  all_goals first | with_reducible assumption | omega | (exact cz_lt q2_0; done) | rfl | assumption | (simp only [List.length_append, List.length_cons, List.length_nil, List.length_set, List.length_replicate, Int.natCast_add, Int.natCast_one] at *; omega) | grind
abbrev ZbV.S := Classical.choose ZbV.X
def ZbV.c : Ctr := fc 21 [false] ZbV.L ZbV ZbV.S
theorem ZbV.good : Good Try.prog ZbV.c := mkFG (fn := Try.f21) {sh := [[none, some (.int, 3), some (.int, 3), none, none, none, none, some (.pkt, 68), some (.bool, 4), some (.bool, 4), some (.int, 3), some (.st, 38), some (.int, 3)]], lst := true} ZbV.X (consG Ze.good (consG ZbI.good noG)) (by kernel_rfl) (by kernel_rfl) (l0 (by kernel_rfl)) (c0 (by kernel_rfl)) fun s K => by kernel_rfl
end
end Hw
end Go.Proofs.Ytceihgojdnkfiaa
