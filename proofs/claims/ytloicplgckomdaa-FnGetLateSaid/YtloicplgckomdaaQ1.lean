/- Packets that come, by the reference: made by gen.py. -/
import Derived.Test.YtloicplgckomdaaQ0
set_option linter.unusedVariables false
set_option linter.unusedSimpArgs false
set_option maxRecDepth 100000
set_option maxHeartbeats 400000
namespace Go.Proofs.Ytloicplgckomdaa
namespace Hw
open Go
noncomputable section
attribute [local irreducible] evFn evBody wrap wxor
def ZcA.L : FL := fCons (fSh sCh) (fCons (fSh sSt) (fCons (fSh sPkt) (fNil)))
def ZcA : Ch × St × Pkt × Unit → FR (Ch × Bool) := fun (a0, a1, a2, ()) => ⟨(a0.lt) ∧ True, fun X => Lt (bif !(ZV.S a0) then true else !(ZI.S a1)) fun x1 => And (Imp ((bif x1 then true else !(Zy.S a2)) = true) (X ((⟨0, (⟨[], [], 0⟩ : Bk), (⟨0, 0, 0, [], [], [], []⟩ : St), [], []⟩ : Ch), false))) (Imp ((bif x1 then true else !(Zy.S a2)) = false) (Call Zm.X (a0, ()) fun x2 => Call Zak.X (x2, a1, a2, ()) fun x3 => X (x3.1, x3.2))), fun r => (RgQ a0 a1 a2 r.1 r.2) ∧ True, fun r => (.tup [.agg [.int r.1.id, .arr true (.ints r.1.bank.own), .arr true (.ints r.1.bank.notes), .int r.1.bank.locked, .int r.1.st.way, .int r.1.st.ver, .int r.1.st.want, .arr true (.pkts r.1.st.sent), .arr true (.bools r.1.st.live), .arr true (.bools r.1.st.back), .arr true (.ints r.1.st.got), .arr true (.sts r.1.past), .arr true (.ints r.1.knows)], .c (.bool r.2)], [])⟩
theorem ZcA.X : XF ZcA := mkF (zCh, false) fun (a0, a1, a2, ()) hp => by
  obtain ⟨p0, -⟩ := hp
  dsimp only [ZcA]
  refine May.lp (B.or (B.not (Iff.rfl)) (B.not (specSt))) fun x1 e1 => May.iff (B.or (e1) (B.not (specPkt))) (fun h1 => ?_) (fun h1 => ?_)
  refine May.ret ⟨?_, trivial⟩; rotate_left 1
  refine May.call ⟨?_, trivial⟩ fun x2 q2 => have q2 := q2.1; May.call ⟨?_, ?_, ?_, trivial⟩ fun x3 q3 => have q3_0 := q3.1; have q3_1 := q3.2.1; have q3_2 := q3.2.2.1; May.ret ⟨?_, trivial⟩
  all_goals try dsimp only
  all_goals first | with_reducible assumption | omega | (exact lt_sm p0; done) | (rw [q2]; exact chOk_in (rgOk p0 h1).1 p0; done) | (exact stOk_in (rgOk p0 h1).2.1; done) | (exact pok_in (rgOk p0 h1).2.2; done) | (rw [q2] at q3_2; exact rg_spec (rgOk p0 h1) q3_2; done) | (exact rg_f fun g => h1.elim (fun h => h.elim (fun h => h ((specChL p0).2 g.1)) fun h => h g.2.1) fun h => h g.2.2; done)
abbrev ZcA.S := Classical.choose ZcA.X
def ZcA.c : Ctr := fc 27 [true, true, false] ZcA.L ZcA ZcA.S
theorem ZcA.good : Good Try.prog ZcA.c := mkFG (fn := Try.f27) {sh := [[none, some (.int, 3), some (.int, 3), none, none, none, none, some (.pkt, 49), some (.bool, 4), some (.bool, 4), some (.int, 3), some (.st, 29), some (.int, 3)], []], lst := true} ZcA.X (consG ZV.good (consG ZI.good (consG Zy.good (consG Zm.good (consG Zak.good noG))))) (by kernel_rfl) (by kernel_rfl) (l0 (by kernel_rfl)) (c0 (by kernel_rfl)) fun s K => by kernel_rfl
end
end Hw
end Go.Proofs.Ytloicplgckomdaa
