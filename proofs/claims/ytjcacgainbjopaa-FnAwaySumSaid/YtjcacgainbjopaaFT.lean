/- How a packet stands: made by gen.py. -/
import Derived.Test.YtjcacgainbjopaaG0
set_option linter.unusedVariables false
set_option linter.unusedSimpArgs false
set_option maxRecDepth 100000
set_option maxHeartbeats 400000
namespace Go.Proofs.Ytjcacgainbjopaa
namespace Hw
open Go
noncomputable section
attribute [local irreducible] evFn evBody wrap wxor
abbrev StlQ (s : St) (n r : Int) : Prop := (StOk s → 1 ≤ n → n ≤ (s.sent.length : Int) → r = if s.live.getD (n - 1).toNat false = true then 1 else if s.back.getD (n - 1).toNat false = true then 3 else 2) ∧ (¬(StOk s ∧ 1 ≤ n ∧ n ≤ (s.sent.length : Int)) → r = 0)

def Zcw.L : FL := fCons (fSh sSt) (fCons (fSh sInt) (fNil))
def Zcw : St × Int × Unit → FR (Int) := fun (a0, a1, ()) => ⟨True, fun X => Lt (bif !(ZO.S a0) then true else decide (a1 < 1)) fun x1 => Lt (bif x1 then true else decide (a1 > (a0.sent.length : Int))) fun x2 => And (Imp (x2 = true) (X 0)) (Imp (x2 = false) (Lt (wrap (a1 - 1)) fun x3 => And ((0 : Int) ≤ x3 ∧ x3 < (a0.live.length : Int)) (And (Imp ((a0.live.getD (x3).toNat false) = true) (X 1)) (Imp ((a0.live.getD (x3).toNat false) = false) (And ((0 : Int) ≤ x3 ∧ x3 < (a0.back.length : Int)) (And (Imp ((a0.back.getD (x3).toNat false) = true) (X 3)) (Imp ((a0.back.getD (x3).toNat false) = false) (X 2)))))))), fun r => (StlQ a0 a1 r) ∧ True, fun r => (.v (.c (.int r)), [])⟩
theorem Zcw.X : XF Zcw := mkF (0) fun (a0, a1, ()) hp => by
  clear hp
  have hl := fun h => stL (s := a0) h
  dsimp only [Zcw]
  refine May.lp (B.or (B.not (implSt)) (B.dec)) fun x1 e1 => May.lp (B.or (e1) (B.dec)) fun x2 e2 => May.iff (e2) (fun h1 => ?_) (fun h1 => ?_)
  refine May.ret ⟨?_, trivial⟩; rotate_left 1
  refine May.lw ⟨?_, ?_⟩ fun x3 e3 => May.chk ?_ fun c1 => May.iff (Iff.rfl) (fun h2 => ?_) (fun h2 => ?_); rotate_left 3
  refine May.ret ⟨?_, trivial⟩; rotate_left 1
  refine May.chk ?_ fun c2 => May.iff (Iff.rfl) (fun h3 => ?_) (fun h3 => ?_); rotate_left 1
  refine May.ret ⟨?_, trivial⟩; rotate_left 1
  refine May.ret ⟨?_, trivial⟩
  all_goals try dsimp only
  all_goals first | with_reducible assumption | omega | rfl | assumption | (simp only [List.length_append, List.length_cons, List.length_nil, List.length_set, List.length_replicate, Int.natCast_add, Int.natCast_one] at *; omega) | grind
abbrev Zcw.S := Classical.choose Zcw.X
def Zcw.c : Ctr := fc0 44 [true, false] Zcw.L Zcw Zcw.S
theorem Zcw.good : Good Try.prog Zcw.c := mkFG0 (fn := Try.f44) {} Zcw.X (consG ZO.good noG) (by kernel_rfl) (by kernel_rfl) (l0 (by kernel_rfl)) (c0 (by kernel_rfl)) (fun _ => trivial) fun s K => by kernel_rfl
end
end Hw
end Go.Proofs.Ytjcacgainbjopaa
