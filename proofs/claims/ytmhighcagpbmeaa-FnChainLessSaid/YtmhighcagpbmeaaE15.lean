/- Draws, 16: made by gen.py. -/
import Derived.Test.YtmhighcagpbmeaaE14
set_option linter.unusedVariables false
set_option linter.unusedSimpArgs false
set_option maxRecDepth 100000
set_option maxHeartbeats 400000
namespace Go.Proofs.Ytmhighcagpbmeaa
namespace Hw
open Go
noncomputable section
attribute [local irreducible] evFn evBody wrap wxor
def ZbJ.L : FL := fCons (fC (cArr true kU8s)) (fNil)
def ZbJ : List Int × Unit → FR (Ch) := fun (a0, ()) => ⟨(∀ k, 0 ≤ a0.getD k 0 ∧ a0.getD k 0 ≤ 255) ∧ True, fun X => Call Ze.X (a0, ()) fun x1 => Call ZbI.X ((x1, 0, ()), ()) fun x2 => Call Zd.X ((x1, x2.2, ()), 6, ()) fun x3 => And (Imp ((x3.1 == 0) = true) (Call Zd.X ((x1, x3.2, ()), 95, ()) fun x4 => And ((x2.1.knows ++ ([x4.1])).length ≤ 4294967296) (X (⟨x2.1.id, x2.1.bank, x2.1.st, x2.1.past, (x2.1.knows ++ ([x4.1]))⟩ : Ch)))) (Imp ((x3.1 == 0) = false) (X x2.1)), fun r => (r.lt) ∧ True, fun r => (.v (.agg [.int r.id, .arr true (.ints r.bank.own), .arr true (.ints r.bank.notes), .int r.bank.locked, .int r.st.way, .int r.st.ver, .int r.st.want, .arr true (.pkts r.st.sent), .arr true (.bools r.st.live), .arr true (.bools r.st.back), .arr true (.ints r.st.got), .arr true (.sts r.past), .arr true (.ints r.knows)]), [])⟩
theorem ZbJ.X : XF ZbJ := mkF (zCh) fun (a0, ()) hp => by
  obtain ⟨p0, -⟩ := hp
  dsimp only [ZbJ]
  refine May.call ⟨?_, trivial⟩ fun x1 q1 => have q1 := q1.1; May.call ⟨?_, ?_, ?_, trivial⟩ fun x2 q2 => have q2_0 := q2.1; have q2_1 := q2.2.1; May.call ⟨?_, ?_, ?_, trivial⟩ fun x3 q3 => have q3_0 := q3.1; have q3_1 := q3.2.1; have q3_2 := q3.2.2.1; May.iff (B.eq) (fun h1 => ?_) (fun h1 => ?_); rotate_left 7
  refine May.call ⟨?_, ?_, ?_, trivial⟩ fun x4 q4 => have q4_0 := q4.1; have q4_1 := q4.2.1; have q4_2 := q4.2.2.1; May.chk ?_ fun c1 => May.ret ⟨?_, trivial⟩; rotate_left 5
  refine May.ret ⟨?_, trivial⟩
  all_goals try dsimp only
  all_goals first | with_reducible assumption | omega | (exact cz_lt q2_0; done) | (have := q2_0.2.2.2.2; (simp only [List.length_append, List.length_cons, List.length_nil]; omega); done) | (exact ck_lt q2_0 (by have := q2_0.2.2.2.2; (simp only [List.length_append, List.length_cons, List.length_nil]; omega)); done) | rfl | assumption | (simp only [List.length_append, List.length_cons, List.length_nil, List.length_set, List.length_replicate, Int.natCast_add, Int.natCast_one] at *; omega) | grind
abbrev ZbJ.S := Classical.choose ZbJ.X
def ZbJ.c : Ctr := fc 15 [false] ZbJ.L ZbJ ZbJ.S
theorem ZbJ.good : Good Try.prog ZbJ.c := mkFG (fn := Try.f15) {sh := [[none, some (.int, 3), some (.int, 3), none, none, none, none, some (.pkt, 44), some (.bool, 4), some (.bool, 4), some (.int, 3), some (.st, 29), some (.int, 3)]], lst := true} ZbJ.X (consG Ze.good (consG ZbI.good (consG Zd.good noG))) (by kernel_rfl) (by kernel_rfl) (l0 (by kernel_rfl)) (c0 (by kernel_rfl)) fun s K => by kernel_rfl
end
end Hw
end Go.Proofs.Ytmhighcagpbmeaa
