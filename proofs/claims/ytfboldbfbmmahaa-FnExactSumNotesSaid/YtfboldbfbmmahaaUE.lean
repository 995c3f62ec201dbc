/- The law of notes: made by gen.py. -/
import Derived.Test.YtfboldbfbmmahaaUC
import Derived.Test.YtfboldbfbmmahaaZ4
set_option linter.unusedVariables false
set_option linter.unusedSimpArgs false
set_option maxRecDepth 100000
set_option maxHeartbeats 400000
namespace Go.Proofs.Ytfboldbfbmmahaa
namespace Hw
open Go
noncomputable section
attribute [local irreducible] evFn evBody wrap wxor
def Zd3.L : FL := fCons (fSh sW) (fCons (fSh sInt) (fNil))
def Zd3 : List Ch × Int × Unit → FR (Bool) := fun (a0, a1, ()) => ⟨(chsFact a0) ∧ (chsRng a0) ∧ True, fun X => And (Imp ((decide ((Zdx.S a0 1048576) < 0)) = true) (X true)) (Imp ((decide ((Zdx.S a0 1048576) < 0)) = false) (And (ZdM.P a0) (Call Zdf.X ((ZdM.S a0), a1, ()) fun x1 => And (ZdM.P a0) (Call Zdm.X ((ZdM.S a0), a1, ()) fun x2 => And (Imp ((x2 != x1) = true) (X false)) (Imp ((x2 != x1) = false) (And (ZdM.P a0) (Lt (Zd1.S (ZdM.S a0) (ZdM.S a0)) fun x3 => And (Imp ((!x3) = true) (X false)) (Imp ((!x3) = false) (X true))))))))), fun r => (r = true) ∧ True, fun r => (.v (.c (.bool r)), [])⟩
theorem Zd3.X : XF Zd3 := mkF (false) fun (a0, a1, ()) hp => by
  obtain ⟨p0, p1, -⟩ := hp
  dsimp only [Zd3]
  refine May.iff (B.dec) (fun h1 => ?_) (fun h1 => ?_)
  refine May.ret ⟨?_, trivial⟩; rotate_left 1
  refine May.chk ?_ fun c1 => May.call ⟨?_, ?_, trivial⟩ fun x1 q1 => have q1 := q1.1; May.chk ?_ fun c2 => May.call ⟨?_, ?_, trivial⟩ fun x2 q2 => have q2 := q2.1; May.iff (B.ne) (fun h2 => ?_) (fun h2 => ?_); rotate_left 6
  refine May.ret ⟨?_, trivial⟩; rotate_left 1
  refine May.chk ?_ fun c3 => May.lp (Iff.rfl) fun x3 e3 => May.iff (B.not (e3)) (fun h3 => ?_) (fun h3 => ?_); rotate_left 1
  refine May.ret ⟨?_, trivial⟩; rotate_left 1
  refine May.ret ⟨?_, trivial⟩
  all_goals try dsimp only
  all_goals first | with_reducible assumption | omega | (with_reducible rfl; done) | (exact sz_world p0 (decide_eq_false h1); done) | ((rw [to_world (sz_world p0 (decide_eq_false h1))]; exact p0); done) | ((rw [to_world (sz_world p0 (decide_eq_false h1))]; exact p1); done) | (exact absurd (ntQ_eq q2 q1) h2; done) | (exact absurd (by rw [to_world (sz_world p0 (decide_eq_false h1))]; exact eq_world p0) h3; done)
abbrev Zd3.S := Classical.choose Zd3.X
def Zd3.c : Ctr := fc 5 [true, false] Zd3.L Zd3 Zd3.S
theorem Zd3.good : Good Try.prog Zd3.c := mkFG (fn := Try.f5) {} Zd3.X (consG Zdx.good (consG ZdM.good (consG Zdf.good (consG Zdm.good (consG Zd1.good noG))))) (by kernel_rfl) (by kernel_rfl) (l0 (by kernel_rfl)) (c0 (by kernel_rfl)) fun s K => by kernel_rfl
end
end Hw
end Go.Proofs.Ytfboldbfbmmahaa
