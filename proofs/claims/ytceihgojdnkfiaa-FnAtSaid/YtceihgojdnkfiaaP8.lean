/- Draws of heights: made by gen.py. -/
import Derived.Test.YtceihgojdnkfiaaE14
set_option linter.unusedVariables false
set_option linter.unusedSimpArgs false
set_option maxRecDepth 100000
set_option maxHeartbeats 400000
namespace Go.Proofs.Ytceihgojdnkfiaa
namespace Hw
open Go
noncomputable section
attribute [local irreducible] evFn evBody wrap wxor
def Zcr.L : FL := fCons (fC (cArr true kU8s)) (fNil)
def Zcr : List Int × Unit → FR (Ch × Int) := fun (a0, ()) => ⟨(∀ k, 0 ≤ a0.getD k 0 ∧ a0.getD k 0 ≤ 255) ∧ True, fun X => Call Ze.X (a0, ()) fun x1 => Call ZbI.X ((x1, 0, ()), ()) fun x2 => Lt (wrap ((x2.1.past.length : Int) + 2)) fun x3 => Call Zd.X ((x1, x2.2, ()), x3, ()) fun x4 => X (x2.1, x4.1), fun r => (r.1.lt) ∧ True, fun r => (.tup [.agg [.int r.1.id, .arr true (.ints r.1.bank.own), .arr true (.ints r.1.bank.notes), .int r.1.bank.locked, .int r.1.st.way, .int r.1.st.ver, .int r.1.st.want, .arr true (.pkts r.1.st.sent), .arr true (.bools r.1.st.live), .arr true (.bools r.1.st.back), .arr true (.ints r.1.st.got), .arr true (.sts r.1.past), .arr true (.ints r.1.knows)], .c (.int r.2)], [])⟩
theorem Zcr.X : XF Zcr := mkF (zCh, 0) fun (a0, ()) hp => by
  obtain ⟨p0, -⟩ := hp
  dsimp only [Zcr]
  refine May.call ⟨?_, trivial⟩ fun x1 q1 => have q1 := q1.1; May.call ⟨?_, ?_, ?_, trivial⟩ fun x2 q2 => have q2_0 := q2.1; have q2_1 := q2.2.1; May.lw ⟨?_, ?_⟩ fun x3 e3 => May.call ⟨?_, ?_, ?_, trivial⟩ fun x4 q4 => have q4_0 := q4.1; have q4_1 := q4.2.1; have q4_2 := q4.2.2.1; May.ret ⟨?_, trivial⟩
  all_goals try dsimp only
  all_goals first | with_reducible assumption | omega | (have := q2_0.2.2.1; omega; done) | (exact cz_lt q2_0; done) | rfl | assumption | (simp only [List.length_append, List.length_cons, List.length_nil, List.length_set, List.length_replicate, Int.natCast_add, Int.natCast_one] at *; omega) | grind
abbrev Zcr.S := Classical.choose Zcr.X
def Zcr.c : Ctr := fc 39 [false] Zcr.L Zcr Zcr.S
theorem Zcr.good : Good Try.prog Zcr.c := mkFG (fn := Try.f39) {sh := [[none, some (.int, 3), some (.int, 3), none, none, none, none, some (.pkt, 68), some (.bool, 4), some (.bool, 4), some (.int, 3), some (.st, 38), some (.int, 3)], []], lst := true} Zcr.X (consG Ze.good (consG ZbI.good (consG Zd.good noG))) (by kernel_rfl) (by kernel_rfl) (l0 (by kernel_rfl)) (c0 (by kernel_rfl)) fun s K => by kernel_rfl
end
end Hw
end Go.Proofs.Ytceihgojdnkfiaa
