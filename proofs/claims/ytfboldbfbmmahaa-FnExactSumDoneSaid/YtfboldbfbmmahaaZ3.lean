/- The law SumDone: for every input the program's answer is the reference's. -/
import Derived.Test.YtfboldbfbmmahaaRows
import Derived.Test.YtfboldbfbmmahaaY7
import Derived.WalkKit
import Derived.ProofKit
import Derived.OpenShut
import Derived.ShutString
import Derived.ChangeOld
import Derived.Below
import Derived.SizedLaws
import Derived.Carry
set_option linter.unusedVariables false
set_option linter.unusedSimpArgs false
set_option maxRecDepth 100000
namespace Go.Proofs.Ytfboldbfbmmahaa
namespace Hw
open Go Go.ChangeShapes Go.WideShapes Go.ChangeAt Go.RowKit
theorem own : ownKnob Try.prog.godebug = none := by kernel_rfl
theorem laidOut : laidOutB Try.prog = true := by kernel_rfl
theorem sumDone_true {l : List Ch} (hf : chsFact l) (hr : chsRng l) : laws_FnExactSumDone.S l = true := by
  unfold laws_FnExactSumDone.S
  cases h : decide (laws_szWorld.S l 1048576 < 0) with
  | true => rfl
  | false =>
    rw [to_world (sz_world hf h), sumDone hf hr, eq_world hf]
    simp
theorem okWide_agg {P : Program} {w : World} {r : Reach} {base : Nat} {t : TypeId} {v : Value} {fs : Array Field} (ht : P.underlying t = some (.struct fs)) (h : Value.okWide P w r base t v) : ∃ cs, v = .agg cs := by
  unfold Value.okWide at h
  rw [ht] at h
  obtain ⟨cs, h, _⟩ := h
  exact ⟨cs, h⟩
theorem lworldU : ∃ fs, Try.prog.underlying 24 = some (.struct fs) := (isStr_of (t := 24) (L := [(22, 0, 1)]) (by kernel_rfl)).elim fun fs h => ⟨fs, h.1⟩
theorem lifted (os : Os) (started : os.Started) (H : Type) (enc : TypeId × Value → H) :
    ReturnsInHanded {} Try.checked os 3 .any (Rows.fnExactSumDoneSpec.pre6 enc Try.prog Try.f3 Rows.fnExactSumDoneRow.domain false) (Rows.fnExactSumDoneSpec.post enc Try.prog Try.f3 false true false false) := by
  refine returnsInHanded_of_change_sized (C := Try.checked) own started (by kernel_rfl) Try.func3
    (ChangeSpec.witness6 (enc := enc) (C := Try.checked) false ⟨#[], #[.agg #[.slice none 0 0]], []⟩ 8 (by kernel_rfl) (by kernel_rfl) (by kernel_rfl) (by kernel_rfl)) ?_
  intro W base args ds gs before hval0 hW hcnd hsz0 _
  have hval : ∀ (j : Nat) t v, Try.f3.params[j]? = some t → args[j]? = some v → Value.okWide Try.prog W .any base t v := hval0
  have hW' := hW
  obtain ⟨p, q, hA0, hV, rfl, hfz, hnd⟩ := hW
  have hA : DataW.TrodAll enc Try.prog W 0 (fun _ => true) true Try.f3.params.toList args.toList ds p := hA0
  rw [Try.params3] at hA hval
  obtain ⟨v0, vs0, d0, ds0, p0, q0, hargs, rfl, rfl, h0, r0⟩ := trodAll_cons hA
  obtain ⟨rfl, rfl, rfl⟩ := trodAll_nil r0
  obtain rfl : args = #[v0] := by cases args; simp_all
  obtain ⟨rfl, rfl⟩ := trodVars_none hV
  obtain ⟨fs, hu⟩ := lworldU
  obtain ⟨cs0, hv0⟩ := okWide_agg hu (hval 0 24 v0 rfl rfl)
  have k0 := h0
  have lt0 : ∀ x ∈ p0, x.block < W.heap.size := by obtain ⟨m, hm⟩ := k0; exact DataW.trod_lt m _ _ _ hm
  obtain ⟨m, hm⟩ := h0
  obtain ⟨l, hl, hr⟩ := rd_lworldV hv0 hm
  have hf : chsFact l := sW.hf l (C0 W) v0 hl
  refine (law_run laws_FnExactSumDone.good ((l, ()) : laws_FnExactSumDone.L.α) rfl (fun p h => by cases h) (by show laws_FnExactSumDone.enc (laws_FnExactSumDone.S l) = _; rw [sumDone_true hf hr]; rfl) (W := W) (vs := [v0]) ⟨hl, trivial⟩).mono fun e W' ⟨he, bel⟩ => ?_
  subst he
  exact ⟨_, rfl, _, _, _, [], _, [], hW', trodAll_mk1 (shut_bool Try.underlying4 _), (trodAll_cons_mk (Below.trod laidOut (by kernel_rfl) (of_decide_eq_true (by kernel_rfl)) k0 bel lt0) trodAll_mk0), rfl, bel.frame _, fun h => by cases h⟩
theorem over : Rows.fnExactSumDoneRow.holds Try.pinned (OpenSpec.ofChange Rows.fnExactSumDoneSpec) :=
  OpenClaim.holds_of_wide 3 Try.f3 rfl rfl rfl rfl rfl rfl rfl ⟨rfl, rfl, rfl, rfl, rfl⟩ rfl rfl rfl rfl rfl (by kernel_rfl) Try.func3 (by kernel_rfl)
    (of_decide_eq_true (by kernel_rfl)) (by unfold Func.isWrapper; first | (rw [if_pos (by decide +kernel)]; kernel_rfl) | (rw [if_neg (by decide +kernel)]; exact ⟨rfl, rfl⟩))
    (fun os started H enc _ => lifted os started H enc)
end Hw
/-- The statement, under a short name. -/
theorem sumDone_holds : Rows.FnExactSumDoneSaid := Hw.over
#print axioms sumDone_holds
end Go.Proofs.Ytfboldbfbmmahaa
