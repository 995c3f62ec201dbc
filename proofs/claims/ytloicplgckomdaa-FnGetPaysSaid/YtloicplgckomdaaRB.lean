/- Draws of relays, 2: made by gen.py. -/
import Derived.Test.YtloicplgckomdaaRA
set_option linter.unusedVariables false
set_option linter.unusedSimpArgs false
set_option maxRecDepth 100000
set_option maxHeartbeats 400000
namespace Go.Proofs.Ytloicplgckomdaa
namespace Hw
open Go
noncomputable section
attribute [local irreducible] evFn evBody wrap wxor
def ZcS.L : FL := fCons (fC (cArr true kU8s)) (fNil)
def ZcS : List Int × Unit → FR (Ch × St × Pkt) := fun (a0, ()) => ⟨(∀ k, 0 ≤ a0.getD k 0 ∧ a0.getD k 0 ≤ 255) ∧ True, fun X => Call Ze.X (a0, ()) fun x1 => Call ZcO.X ((x1, 0, ()), 4, ()) fun x2 => Call Zd.X ((x1, x2.2.2.2, ()), 12, ()) fun x3 => And (Imp ((x3.1 == 0) = true) (Call Zd.X ((x1, x3.2, ()), 11, ()) fun x4 => X (x2.1, x2.2.1, (⟨x2.2.2.1.pkt.seq, x2.2.2.1.pkt.kind, x2.2.2.1.pkt.frm, x2.2.2.1.pkt.to, x4.1, x2.2.2.1.pkt.til, x2.2.2.1.pkt.ver⟩ : Pkt)))) (Imp ((x3.1 == 0) = false) (X (x2.1, x2.2.1, x2.2.2.1.pkt))), fun r => (r.1.lt) ∧ (r.2.1.lt) ∧ True, fun r => (.tup [.agg [.int r.1.id, .arr true (.ints r.1.bank.own), .arr true (.ints r.1.bank.notes), .int r.1.bank.locked, .int r.1.st.way, .int r.1.st.ver, .int r.1.st.want, .arr true (.pkts r.1.st.sent), .arr true (.bools r.1.st.live), .arr true (.bools r.1.st.back), .arr true (.ints r.1.st.got), .arr true (.sts r.1.past), .arr true (.ints r.1.knows)], .agg [.int r.2.1.way, .int r.2.1.ver, .int r.2.1.want, .arr true (.pkts r.2.1.sent), .arr true (.bools r.2.1.live), .arr true (.bools r.2.1.back), .arr true (.ints r.2.1.got)], .agg [.int r.2.2.seq, .int r.2.2.kind, .int r.2.2.frm, .int r.2.2.to, .int r.2.2.sum, .int r.2.2.til, .int r.2.2.ver]], [])⟩
theorem ZcS.X : XF ZcS := mkF (zCh, zSt, zPkt) fun (a0, ()) hp => by
  obtain ⟨p0, -⟩ := hp
  dsimp only [ZcS]
  refine May.call ⟨?_, trivial⟩ fun x1 q1 => have q1 := q1.1; May.call ⟨?_, ?_, ?_, trivial⟩ fun x2 q2 => have q2_0 := q2.1; have q2_1 := q2.2.1; have q2_2 := q2.2.2.1; May.call ⟨?_, ?_, ?_, trivial⟩ fun x3 q3 => have q3_0 := q3.1; have q3_1 := q3.2.1; have q3_2 := q3.2.2.1; May.iff (B.eq) (fun h1 => ?_) (fun h1 => ?_); rotate_left 7
  refine May.call ⟨?_, ?_, ?_, trivial⟩ fun x4 q4 => have q4_0 := q4.1; have q4_1 := q4.2.1; have q4_2 := q4.2.2.1; May.ret ⟨?_, ?_, trivial⟩; rotate_left 5
  refine May.ret ⟨?_, ?_, trivial⟩
  all_goals try dsimp only
  all_goals first | with_reducible assumption | omega | rfl | assumption | (simp only [List.length_append, List.length_cons, List.length_nil, List.length_set, List.length_replicate, Int.natCast_add, Int.natCast_one] at *; omega) | grind
abbrev ZcS.S := Classical.choose ZcS.X
def ZcS.c : Ctr := fc 26 [false] ZcS.L ZcS ZcS.S
theorem ZcS.good : Good Try.prog ZcS.c := mkFG (fn := Try.f26) {sh := [[none, some (.int, 3), some (.int, 3), none, none, none, none, some (.pkt, 49), some (.bool, 4), some (.bool, 4), some (.int, 3), some (.st, 29), some (.int, 3)], [none, none, none, some (.pkt, 49), some (.bool, 4), some (.bool, 4), some (.int, 3)], [none, none, none, none, none, none, none]], lst := true} ZcS.X (consG Ze.good (consG ZcO.good (consG Zd.good noG))) (by kernel_rfl) (by kernel_rfl) (l0 (by kernel_rfl)) (c0 (by kernel_rfl)) fun s K => by kernel_rfl
end
end Hw
end Go.Proofs.Ytloicplgckomdaa
