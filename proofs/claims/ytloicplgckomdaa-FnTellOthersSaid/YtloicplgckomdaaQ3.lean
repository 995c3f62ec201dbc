/- Packets that are settled, by the reference: made by gen.py. -/
import Derived.Test.YtloicplgckomdaaQ1
import Derived.Test.YtloicplgckomdaaQ2
set_option linter.unusedVariables false
set_option linter.unusedSimpArgs false
set_option maxRecDepth 100000
set_option maxHeartbeats 400000
namespace Go.Proofs.Ytloicplgckomdaa
namespace Hw
open Go
noncomputable section
attribute [local irreducible] evFn evBody wrap wxor
def ZcL.L : FL := fCons (fSh sCh) (fCons (fSh sSt) (fCons (fSh sInt) (fNil)))
def ZcL : Ch × St × Int × Unit → FR (Ch × Bool) := fun (a0, a1, a2, ()) => ⟨(a0.lt) ∧ True, fun X => Lt (bif !(ZV.S a0) then true else !(ZI.S a1)) fun x1 => And (Imp (x1 = true) (X ((⟨0, (⟨[], [], 0⟩ : Bk), (⟨0, 0, 0, [], [], [], []⟩ : St), [], []⟩ : Ch), false))) (Imp (x1 = false) (Call Zm.X (a0, ()) fun x2 => Call Zam.X (x2, a1, a2, ()) fun x3 => X (x3.1, x3.2))), fun r => (RtQ a0 a1 a2 r.1 r.2) ∧ True, fun r => (.tup [.agg [.int r.1.id, .arr true (.ints r.1.bank.own), .arr true (.ints r.1.bank.notes), .int r.1.bank.locked, .int r.1.st.way, .int r.1.st.ver, .int r.1.st.want, .arr true (.pkts r.1.st.sent), .arr true (.bools r.1.st.live), .arr true (.bools r.1.st.back), .arr true (.ints r.1.st.got), .arr true (.sts r.1.past), .arr true (.ints r.1.knows)], .c (.bool r.2)], [])⟩
theorem ZcL.X : XF ZcL := mkF (zCh, false) fun (a0, a1, a2, ()) hp => by
  obtain ⟨p0, -⟩ := hp
  dsimp only [ZcL]
  refine May.lp (B.or (B.not (Iff.rfl)) (B.not (specSt))) fun x1 e1 => May.iff (e1) (fun h1 => ?_) (fun h1 => ?_)
  refine May.ret ⟨?_, trivial⟩; rotate_left 1
  refine May.call ⟨?_, trivial⟩ fun x2 q2 => have q2 := q2.1; May.call ⟨?_, ?_, trivial⟩ fun x3 q3 => have q3_0 := q3.1; have q3_1 := q3.2.1; have q3_2 := q3.2.2.1; May.ret ⟨?_, trivial⟩
  all_goals try dsimp only
  all_goals first | with_reducible assumption | omega | (exact lt_sm p0; done) | (rw [q2]; exact chOk_in (rtOk p0 h1).1 p0; done) | (exact stOk_in (rtOk p0 h1).2; done) | (rw [q2] at q3_2; exact rt_spec (rtOk p0 h1) q3_2; done) | (exact rly_f fun g => h1.elim (fun h => h ((specChL p0).2 g.1)) fun h => h g.2; done)
abbrev ZcL.S := Classical.choose ZcL.X
def ZcL.c : Ctr := fc 33 [true, true, false] ZcL.L ZcL ZcL.S
theorem ZcL.good : Good Try.prog ZcL.c := mkFG (fn := Try.f33) {sh := [[none, some (.int, 3), some (.int, 3), none, none, none, none, some (.pkt, 49), some (.bool, 4), some (.bool, 4), some (.int, 3), some (.st, 29), some (.int, 3)], []], lst := true} ZcL.X (consG ZV.good (consG ZI.good (consG Zm.good (consG Zam.good noG)))) (by kernel_rfl) (by kernel_rfl) (l0 (by kernel_rfl)) (c0 (by kernel_rfl)) fun s K => by kernel_rfl
def ZcM.L : FL := fCons (fSh sCh) (fCons (fSh sSt) (fCons (fSh sInt) (fCons (fSh sInt) (fNil))))
def ZcM : Ch × St × Int × Int × Unit → FR (Ch × Bool) := fun (a0, a1, a2, a3, ()) => ⟨(a0.lt) ∧ True, fun X => Lt (bif !(ZV.S a0) then true else !(ZI.S a1)) fun x1 => And (Imp ((bif x1 then true else !(Zi.S a2 1 90)) = true) (X ((⟨0, (⟨[], [], 0⟩ : Bk), (⟨0, 0, 0, [], [], [], []⟩ : St), [], []⟩ : Ch), false))) (Imp ((bif x1 then true else !(Zi.S a2 1 90)) = false) (Call Zm.X (a0, ()) fun x2 => Call Zan.X (x2, a1, a2, a3, ()) fun x3 => X (x3.1, x3.2))), fun r => (RlQ a0 a1 a2 a3 r.1 r.2) ∧ True, fun r => (.tup [.agg [.int r.1.id, .arr true (.ints r.1.bank.own), .arr true (.ints r.1.bank.notes), .int r.1.bank.locked, .int r.1.st.way, .int r.1.st.ver, .int r.1.st.want, .arr true (.pkts r.1.st.sent), .arr true (.bools r.1.st.live), .arr true (.bools r.1.st.back), .arr true (.ints r.1.st.got), .arr true (.sts r.1.past), .arr true (.ints r.1.knows)], .c (.bool r.2)], [])⟩
theorem ZcM.X : XF ZcM := mkF (zCh, false) fun (a0, a1, a2, a3, ()) hp => by
  obtain ⟨p0, -⟩ := hp
  dsimp only [ZcM]
  refine May.lp (B.or (B.not (Iff.rfl)) (B.not (specSt))) fun x1 e1 => May.iff (B.or (e1) (B.not (in_iff))) (fun h1 => ?_) (fun h1 => ?_)
  refine May.ret ⟨?_, trivial⟩; rotate_left 1
  refine May.call ⟨?_, trivial⟩ fun x2 q2 => have q2 := q2.1; May.call ⟨?_, ?_, trivial⟩ fun x3 q3 => have q3_0 := q3.1; have q3_1 := q3.2.1; have q3_2 := q3.2.2.1; May.ret ⟨?_, trivial⟩
  all_goals try dsimp only
  all_goals first | with_reducible assumption | omega | (exact lt_sm p0; done) | (rw [q2]; exact chOk_in (tlOk p0 h1).1.1 p0; done) | (exact stOk_in (tlOk p0 h1).1.2; done) | (rw [q2] at q3_2; exact rl_spec (tlOk p0 h1) q3_2; done) | (exact rly_f (tlF p0 h1); done)
abbrev ZcM.S := Classical.choose ZcM.X
def ZcM.c : Ctr := fc 38 [true, true, false, false] ZcM.L ZcM ZcM.S
theorem ZcM.good : Good Try.prog ZcM.c := mkFG (fn := Try.f38) {sh := [[none, some (.int, 3), some (.int, 3), none, none, none, none, some (.pkt, 49), some (.bool, 4), some (.bool, 4), some (.int, 3), some (.st, 29), some (.int, 3)], []], lst := true} ZcM.X (consG ZV.good (consG ZI.good (consG Zi.good (consG Zm.good (consG Zan.good noG))))) (by kernel_rfl) (by kernel_rfl) (l0 (by kernel_rfl)) (c0 (by kernel_rfl)) fun s K => by kernel_rfl
end
end Hw
end Go.Proofs.Ytloicplgckomdaa
