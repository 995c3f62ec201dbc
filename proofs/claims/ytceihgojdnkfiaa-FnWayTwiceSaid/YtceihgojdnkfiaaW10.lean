/- Draws of two ends, 3: made by gen.py. -/
import Derived.Test.YtceihgojdnkfiaaW2
set_option linter.unusedVariables false
set_option linter.unusedSimpArgs false
set_option maxRecDepth 100000
set_option maxHeartbeats 400000
namespace Go.Proofs.Ytceihgojdnkfiaa
namespace Hw
open Go
noncomputable section
attribute [local irreducible] evFn evBody wrap wxor
def Zbn.L : FL := fCons (fC (cArr true kU8s)) (fNil)
def Zbn : List Int × Unit → FR (St × St × Int) := fun (a0, ()) => ⟨(∀ k, 0 ≤ a0.getD k 0 ∧ a0.getD k 0 ≤ 255) ∧ True, fun X => Call Za5.X (a0, ()) fun x1 => X (x1.1, x1.2.1, x1.2.2), fun r => (SZ r.1) ∧ (SZ r.2.1) ∧ True, fun r => (.tup [.agg [.int r.1.way, .int r.1.ver, .int r.1.want, .arr true (.pkts r.1.sent), .arr true (.bools r.1.live), .arr true (.bools r.1.back), .arr true (.ints r.1.got)], .agg [.int r.2.1.way, .int r.2.1.ver, .int r.2.1.want, .arr true (.pkts r.2.1.sent), .arr true (.bools r.2.1.live), .arr true (.bools r.2.1.back), .arr true (.ints r.2.1.got)], .c (.int r.2.2)], [])⟩
theorem Zbn.X : XF Zbn := mkF (zSt, zSt, 0) fun (a0, ()) hp => by
  obtain ⟨p0, -⟩ := hp
  dsimp only [Zbn]
  refine May.call ⟨?_, trivial⟩ fun x1 q1 => have q1_0 := q1.1; have q1_1 := q1.2.1; May.ret ⟨?_, ?_, trivial⟩
  all_goals try dsimp only
  all_goals first | with_reducible assumption | omega | rfl | assumption | (simp only [List.length_append, List.length_cons, List.length_nil, List.length_set, List.length_replicate, Int.natCast_add, Int.natCast_one] at *; omega) | grind
abbrev Zbn.S := Classical.choose Zbn.X
def Zbn.c : Ctr := fc 32 [false] Zbn.L Zbn Zbn.S
theorem Zbn.good : Good Try.prog Zbn.c := mkFG (fn := Try.f32) {sh := [[none, none, none, some (.pkt, 68), some (.bool, 4), some (.bool, 4), some (.int, 3)], [none, none, none, some (.pkt, 68), some (.bool, 4), some (.bool, 4), some (.int, 3)], []], lst := true} Zbn.X (consG Za5.good noG) (by kernel_rfl) (by kernel_rfl) (l0 (by kernel_rfl)) (c0 (by kernel_rfl)) fun s K => by kernel_rfl
end
end Hw
end Go.Proofs.Ytceihgojdnkfiaa
