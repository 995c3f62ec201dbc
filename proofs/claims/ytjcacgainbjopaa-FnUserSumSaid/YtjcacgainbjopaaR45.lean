/- The law FnUserSum: for every input it returns true, and what it was given reads as before. -/
import Derived.Test.YtjcacgainbjopaaRows
import Derived.Test.YtjcacgainbjopaaX28
import Derived.Test.YtjcacgainbjopaaVF
import Derived.WalkKit
import Derived.ProofKit
import Derived.OpenShut
import Derived.ShutString
import Derived.ChangeOld
import Derived.Below
import Derived.SizedLaws
import Derived.Carry
set_option linter.unusedVariables false
set_option linter.unusedSimpArgs false
set_option maxRecDepth 100000
namespace Go.Proofs.Ytjcacgainbjopaa
namespace Hw
open Go Go.ChangeShapes Go.WideShapes Go.ChangeAt Go.RowKit
theorem ownFnUserSum : ownKnob Try.prog.godebug = none := by kernel_rfl
theorem laidOutFnUserSum : laidOutB Try.prog = true := by kernel_rfl
theorem liftedFnUserSum (os : Os) (started : os.Started) (H : Type) (enc : TypeId × Value → H) :
    ReturnsInHanded {} Try.checked os 3 .any (Rows.fnUserSumSpec.pre6 enc Try.prog Try.f3 Rows.fnUserSumRow.domain false) (Rows.fnUserSumSpec.post enc Try.prog Try.f3 false true false false) := by
  refine returnsInHanded_of_change_sized (C := Try.checked) ownFnUserSum started (by kernel_rfl) Try.func3
    (ChangeSpec.witness6 (enc := enc) (C := Try.checked) false ⟨#[], #[.slice none 0 0], []⟩ 8 (by kernel_rfl) (by kernel_rfl) (by kernel_rfl) (by kernel_rfl)) ?_
  intro W base args ds gs before hval0 hW hcnd hsz0 _
  have hval : ∀ (j : Nat) t v, Try.f3.params[j]? = some t → args[j]? = some v → Value.okWide Try.prog W .any base t v := hval0
  have hW' := hW
  obtain ⟨p, q, hA0, hV, rfl, hfz, hnd⟩ := hW
  have hA : DataW.TrodAll enc Try.prog W 0 (fun _ => true) true Try.f3.params.toList args.toList ds p := hA0
  rw [Try.params3] at hA hval
  obtain ⟨v0, vs0, d0, ds0, p0, q0, hargs, rfl, rfl, h0, r0⟩ := trodAll_cons hA
  obtain ⟨rfl, rfl, rfl⟩ := trodAll_nil r0
  obtain rfl : args = #[v0] := by cases args; simp_all
  obtain ⟨rfl, rfl⟩ := trodVars_none hV
  have k0 := h0
  have lt0 : ∀ x ∈ p0, x.block < W.heap.size := by obtain ⟨m, hm⟩ := k0; exact DataW.trod_lt m _ _ _ hm
  obtain ⟨m0, hm0⟩ := h0
  obtain ⟨l0, hl0, hr0⟩ := rd_u8sV (hval 0 22 v0 rfl rfl) hm0
  refine (law_run Zeg.good ((l0, ()) : Zeg.L.α) rfl (fun p h => by cases h; exact ⟨hr0, trivial⟩) (by show (Zeg (l0, ())).e (Zeg.S (l0, ())) = _; rw [show Zeg.S (l0, ()) = true from (qF Zeg.X (l0, ()) ⟨hr0, trivial⟩).1]; rfl) (W := W) (vs := [v0]) ⟨hl0, trivial⟩).mono fun e W' ⟨he, bel⟩ => ?_
  subst he
  exact ⟨_, rfl, _, _, _, [], _, [], hW', trodAll_mk1 (shut_bool Try.underlying4 _), (trodAll_cons_mk (Below.trod laidOutFnUserSum (by kernel_rfl) (of_decide_eq_true (by kernel_rfl)) k0 bel lt0) trodAll_mk0), rfl, bel.frame _, fun h => by cases h⟩
theorem overFnUserSum : Rows.fnUserSumRow.holds Try.pinned (OpenSpec.ofChange Rows.fnUserSumSpec) :=
  OpenClaim.holds_of_wide 3 Try.f3 rfl rfl rfl rfl rfl rfl rfl ⟨rfl, rfl, rfl, rfl, rfl⟩ rfl rfl rfl rfl rfl (by kernel_rfl) Try.func3 (by kernel_rfl)
    (of_decide_eq_true (by kernel_rfl)) (by unfold Func.isWrapper; first | (rw [if_pos (by decide +kernel)]; kernel_rfl) | (rw [if_neg (by decide +kernel)]; exact ⟨rfl, rfl⟩))
    (fun os started H enc _ => liftedFnUserSum os started H enc)
end Hw
theorem fnUserSum_holds : Rows.FnUserSumSaid := Hw.overFnUserSum
#print axioms fnUserSum_holds
end Go.Proofs.Ytjcacgainbjopaa
