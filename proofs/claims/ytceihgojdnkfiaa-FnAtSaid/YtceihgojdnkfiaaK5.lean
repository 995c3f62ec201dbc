/- Heights: made by gen.py. -/
import Derived.Test.YtceihgojdnkfiaaK4
set_option linter.unusedVariables false
set_option linter.unusedSimpArgs false
set_option maxRecDepth 100000
set_option maxHeartbeats 400000
namespace Go.Proofs.Ytceihgojdnkfiaa
namespace Hw
open Go
noncomputable section
attribute [local irreducible] evFn evBody wrap wxor
def ZbQ.L : FL := fCons (fSh sCh) (fCons (fSh sInt) (fNil))
def ZbQ : Ch × Int × Unit → FR (St × Bool) := fun (a0, a1, ()) => ⟨(a0.lt) ∧ True, fun X => Lt (bif !(ZY.S a0) then true else decide (a1 < 1)) fun x1 => Lt (bif x1 then true else decide (a1 > (a0.past.length : Int))) fun x2 => And (Imp (x2 = true) (X ((⟨0, 0, 0, [], [], [], []⟩ : St), false))) (Imp (x2 = false) (Lt (wrap (a1 - 1)) fun x3 => And ((0 : Int) ≤ x3 ∧ x3 < (a0.past.length : Int)) (And ((ZaP ((a0.past.getD (x3).toNat zSt), ())).P) (X ((a0.past.getD (x3).toNat zSt), true))))), fun r => (AtQ a0 a1 r.1 r.2) ∧ True, fun r => (.tup [.agg [.int r.1.way, .int r.1.ver, .int r.1.want, .own 0 7 68, .own 1 1 4, .own 2 1 4, .own 3 1 3], .c (.bool r.2)], [.arr (.pkts r.1.sent), .arr (.bools r.1.live), .arr (.bools r.1.back), .arr (.ints r.1.got)])⟩
theorem ZbQ.X : XF ZbQ := mkF (zSt, false) fun (a0, a1, ()) hp => by
  obtain ⟨p0, -⟩ := hp
  dsimp only [ZbQ]
  refine May.lp (B.or (B.not (Iff.rfl)) (B.dec)) fun x1 e1 => May.lp (B.or (e1) (B.dec)) fun x2 e2 => May.iff (e2) (fun h1 => ?_) (fun h1 => ?_)
  refine May.ret ⟨?_, trivial⟩; rotate_left 1
  refine May.lw ⟨?_, ?_⟩ fun x3 e3 => May.chk ?_ fun c1 => May.chk ⟨?_, trivial⟩ fun c2 => May.ret ⟨?_, trivial⟩
  all_goals try dsimp only
  all_goals first | with_reducible assumption | omega | (have := p0.2.2.1.1; omega; done) | (exact past_sm p0 _; done) | (exact atQ_t ⟨(implChL p0).1 (Classical.byContradiction fun g => h1 (.inl (.inl g))), by omega, by omega⟩ (by rw [e3]); done) | (exact atQ_f fun g => (by have := (implChL p0).2 g.1; rcases h1 with (h | h) | h <;> first | exact h this | omega); done)
abbrev ZbQ.S := Classical.choose ZbQ.X
def ZbQ.c : Ctr := fc 26 [true, false] ZbQ.L ZbQ ZbQ.S
theorem ZbQ.good : Good Try.prog ZbQ.c := mkFG (fn := Try.f26) {sh := [[none, none, none, some (.pkt, 68), some (.bool, 4), some (.bool, 4), some (.int, 3)], []]} ZbQ.X (consG ZY.good (consG ZaP.good noG)) (by kernel_rfl) (by kernel_rfl) (l0 (by kernel_rfl)) (c0 (by kernel_rfl)) fun s K => by kernel_rfl
def ZbR.L : FL := fCons (fSh sCh) (fCons (fSh sInt) (fNil))
def ZbR : Ch × Int × Unit → FR (St × Bool) := fun (a0, a1, ()) => ⟨(a0.lt) ∧ True, fun X => Lt (bif !(ZV.S a0) then true else !(Zi.S a1 1 (a0.past.length : Int))) fun x1 => And (Imp (x1 = true) (X ((⟨0, 0, 0, [], [], [], []⟩ : St), false))) (Imp (x1 = false) (Lt (wrap (a1 - 1)) fun x2 => And ((0 : Int) ≤ x2 ∧ x2 < (a0.past.length : Int)) (Call Zk.X ((a0.past.getD (x2).toNat zSt), ()) fun x3 => X (x3, true)))), fun r => (AtQ a0 a1 r.1 r.2) ∧ True, fun r => (.tup [.agg [.int r.1.way, .int r.1.ver, .int r.1.want, .own 0 7 68, .own 1 1 4, .own 2 1 4, .own 3 1 3], .c (.bool r.2)], [.arr (.pkts r.1.sent), .arr (.bools r.1.live), .arr (.bools r.1.back), .arr (.ints r.1.got)])⟩
theorem ZbR.X : XF ZbR := mkF (zSt, false) fun (a0, a1, ()) hp => by
  obtain ⟨p0, -⟩ := hp
  dsimp only [ZbR]
  refine May.lp (B.or (B.not (Iff.rfl)) (B.not (in_iff))) fun x1 e1 => May.iff (e1) (fun h1 => ?_) (fun h1 => ?_)
  refine May.ret ⟨?_, trivial⟩; rotate_left 1
  refine May.lw ⟨?_, ?_⟩ fun x2 e2 => May.chk ?_ fun c1 => May.call ⟨?_, trivial⟩ fun x3 q3 => have q3 := q3.1; May.ret ⟨?_, trivial⟩
  all_goals try dsimp only
  all_goals first | with_reducible assumption | omega | (have := p0.2.2.1.1; omega; done) | (exact past_sm p0 _; done) | (exact atQ_t ⟨(specChL p0).1 (Classical.byContradiction fun g => h1 (.inl g)), by omega, by omega⟩ (by rw [q3, e2]); done) | (exact atQ_f fun g => (by have := (specChL p0).2 g.1; rcases h1 with h | h <;> first | exact h this | omega); done)
abbrev ZbR.S := Classical.choose ZbR.X
def ZbR.c : Ctr := fc 40 [true, false] ZbR.L ZbR ZbR.S
theorem ZbR.good : Good Try.prog ZbR.c := mkFG (fn := Try.f40) {sh := [[none, none, none, some (.pkt, 68), some (.bool, 4), some (.bool, 4), some (.int, 3)], []]} ZbR.X (consG ZV.good (consG Zi.good (consG Zk.good noG))) (by kernel_rfl) (by kernel_rfl) (l0 (by kernel_rfl)) (c0 (by kernel_rfl)) fun s K => by kernel_rfl
end
end Hw
end Go.Proofs.Ytceihgojdnkfiaa
