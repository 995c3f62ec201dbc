/- The law FnDone: for every input it returns true, and what it was given reads as before. -/
import Derived.Test.YtjcacgainbjopaaRows
import Derived.Test.YtjcacgainbjopaaX28
import Derived.Test.YtjcacgainbjopaaVG
import Derived.WalkKit
import Derived.ProofKit
import Derived.OpenShut
import Derived.ShutString
import Derived.ChangeOld
import Derived.Below
import Derived.SizedLaws
import Derived.Carry
set_option linter.unusedVariables false
set_option linter.unusedSimpArgs false
set_option maxRecDepth 100000
namespace Go.Proofs.Ytjcacgainbjopaa
namespace Hw
open Go Go.ChangeShapes Go.WideShapes Go.ChangeAt Go.RowKit
theorem ownFnDone : ownKnob Try.prog.godebug = none := by kernel_rfl
theorem laidOutFnDone : laidOutB Try.prog = true := by kernel_rfl
theorem liftedFnDone (os : Os) (started : os.Started) (H : Type) (enc : TypeId × Value → H) :
    ReturnsInHanded {} Try.checked os 4 .any (Rows.fnDoneSpec.pre6 enc Try.prog Try.f4 Rows.fnDoneRow.domain false) (Rows.fnDoneSpec.post enc Try.prog Try.f4 false true false false) := by
  refine returnsInHanded_of_change_sized (C := Try.checked) ownFnDone started (by kernel_rfl) Try.func4
    (ChangeSpec.witness6 (enc := enc) (C := Try.checked) false ⟨#[], #[.slice none 0 0], []⟩ 8 (by kernel_rfl) (by kernel_rfl) (by kernel_rfl) (by kernel_rfl)) ?_
  intro W base args ds gs before hval0 hW hcnd hsz0 _
  have hval : ∀ (j : Nat) t v, Try.f4.params[j]? = some t → args[j]? = some v → Value.okWide Try.prog W .any base t v := hval0
  have hW' := hW
  obtain ⟨p, q, hA0, hV, rfl, hfz, hnd⟩ := hW
  have hA : DataW.TrodAll enc Try.prog W 0 (fun _ => true) true Try.f4.params.toList args.toList ds p := hA0
  rw [Try.params4] at hA hval
  obtain ⟨v0, vs0, d0, ds0, p0, q0, hargs, rfl, rfl, h0, r0⟩ := trodAll_cons hA
  obtain ⟨rfl, rfl, rfl⟩ := trodAll_nil r0
  obtain rfl : args = #[v0] := by cases args; simp_all
  obtain ⟨rfl, rfl⟩ := trodVars_none hV
  have k0 := h0
  have lt0 : ∀ x ∈ p0, x.block < W.heap.size := by obtain ⟨m, hm⟩ := k0; exact DataW.trod_lt m _ _ _ hm
  obtain ⟨m0, hm0⟩ := h0
  obtain ⟨l0, hl0, hr0⟩ := rd_u8sV (hval 0 22 v0 rfl rfl) hm0
  refine (law_run Zej.good ((l0, ()) : Zej.L.α) rfl (fun p h => by cases h; exact ⟨hr0, trivial⟩) (by show (Zej (l0, ())).e (Zej.S (l0, ())) = _; rw [show Zej.S (l0, ()) = true from (qF Zej.X (l0, ()) ⟨hr0, trivial⟩).1]; rfl) (W := W) (vs := [v0]) ⟨hl0, trivial⟩).mono fun e W' ⟨he, bel⟩ => ?_
  subst he
  exact ⟨_, rfl, _, _, _, [], _, [], hW', trodAll_mk1 (shut_bool Try.underlying4 _), (trodAll_cons_mk (Below.trod laidOutFnDone (by kernel_rfl) (of_decide_eq_true (by kernel_rfl)) k0 bel lt0) trodAll_mk0), rfl, bel.frame _, fun h => by cases h⟩
theorem overFnDone : Rows.fnDoneRow.holds Try.pinned (OpenSpec.ofChange Rows.fnDoneSpec) :=
  OpenClaim.holds_of_wide 4 Try.f4 rfl rfl rfl rfl rfl rfl rfl ⟨rfl, rfl, rfl, rfl, rfl⟩ rfl rfl rfl rfl rfl (by kernel_rfl) Try.func4 (by kernel_rfl)
    (of_decide_eq_true (by kernel_rfl)) (by unfold Func.isWrapper; first | (rw [if_pos (by decide +kernel)]; kernel_rfl) | (rw [if_neg (by decide +kernel)]; exact ⟨rfl, rfl⟩))
    (fun os started H enc _ => liftedFnDone os started H enc)
end Hw
theorem fnDone_holds : Rows.FnDoneSaid := Hw.overFnDone
#print axioms fnDone_holds
end Go.Proofs.Ytjcacgainbjopaa
