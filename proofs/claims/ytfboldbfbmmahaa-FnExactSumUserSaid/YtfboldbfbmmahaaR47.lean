/- The law FnExactSumUser: for every input it returns true, and what it was given reads as before. -/
import Derived.Test.YtfboldbfbmmahaaRows
import Derived.Test.YtfboldbfbmmahaaXQ
import Derived.WalkKit
import Derived.ProofKit
import Derived.OpenShut
import Derived.ShutString
import Derived.ChangeOld
import Derived.Below
import Derived.SizedLaws
import Derived.Carry
set_option linter.unusedVariables false
set_option linter.unusedSimpArgs false
set_option maxRecDepth 100000
namespace Go.Proofs.Ytfboldbfbmmahaa
namespace Hw
open Go Go.ChangeShapes Go.WideShapes Go.ChangeAt Go.RowKit
theorem ownFnExactSumUser : ownKnob Try.prog.godebug = none := by kernel_rfl
theorem laidOutFnExactSumUser : laidOutB Try.prog = true := by kernel_rfl
theorem okWide_aggFnExactSumUser {P : Program} {w : World} {r : Reach} {base : Nat} {t : TypeId} {v : Value} {fs : Array Field} (ht : P.underlying t = some (.struct fs)) (h : Value.okWide P w r base t v) : ∃ cs, v = .agg cs := by
  unfold Value.okWide at h
  rw [ht] at h
  obtain ⟨cs, h, _⟩ := h
  exact ⟨cs, h⟩
theorem lworldUFnExactSumUser : ∃ fs, Try.prog.underlying 24 = some (.struct fs) := (isStr_of (t := 24) (L := [(22, 0, 1)]) (by kernel_rfl)).elim fun fs h => ⟨fs, h.1⟩
theorem wAt_arg {W : World} {l : List Ch} {v : Value} (h : fvR (C0 W) (.agg [.arr false (.chs l)]) v) : WAt W (inW W) l v := by
  obtain ⟨vs, rfl, hs, hc⟩ := h
  refine wAt_of (C := C0 W) ⟨vs, rfl, hs, fun j y hj => ?_⟩ (fun b h => h)
  cases j with
  | zero =>
    simp only [List.getElem?_cons_zero, Option.some.injEq] at hj
    subst hj
    obtain ⟨x, h8, h9⟩ := hc 0 _ rfl
    exact ⟨x, h8, h9⟩
  | succ j => simp at hj
theorem rd_intVFnExactSumUser {H : Type} {enc : TypeId × Value → H} {w : World} {base : Nat} {spare : Nat → Bool} {held : Bool} {fuel : Nat} {x : DataW H × List MemPlace} {r : Reach} {b : Nat} {v : Value} (hv : Value.okWide Try.prog w r b 3 v) (h : DataW.trod enc Try.prog w base spare held fuel 3 v.cells.toList = some x) : ∃ n, fvR (C0 w) (.c (.int n)) v ∧ inI n := by
  obtain ⟨n, h1, _, hw⟩ := DataW.trod_int i64U h
  have hv : v = .int .i64 n := by
    unfold Value.okWide at hv
    rw [i64U] at hv
    simp only at hv
    unfold Cell.okWide at hv
    cases v with
    | agg cs => simp [Cell.ok, i64U] at hv
    | _ => exact (List.cons.inj h1).1
  subst hv
  refine ⟨n, rfl, ?_⟩
  have h2 : (decide (IntKind.i64.min ≤ n) && decide (n ≤ IntKind.i64.max)) = true := hw
  rw [Bool.and_eq_true, decide_eq_true_eq, decide_eq_true_eq, show IntKind.i64.min = -9223372036854775808 by decide, show IntKind.i64.max = 9223372036854775807 by decide] at h2
  exact h2
theorem liftedFnExactSumUser (os : Os) (started : os.Started) (H : Type) (enc : TypeId × Value → H) :
    ReturnsInHanded {} Try.checked os 6 .any (Rows.fnExactSumUserSpec.pre6 enc Try.prog Try.f6 Rows.fnExactSumUserRow.domain false) (Rows.fnExactSumUserSpec.post enc Try.prog Try.f6 false true false false) := by
  refine returnsInHanded_of_change_sized (C := Try.checked) ownFnExactSumUser started (by kernel_rfl) Try.func6
    (ChangeSpec.witness6 (enc := enc) (C := Try.checked) false ⟨#[], #[.agg #[.slice none 0 0], .int .i64 0], []⟩ 8 (by kernel_rfl) (by kernel_rfl) (by kernel_rfl) (by kernel_rfl)) ?_
  intro W base args ds gs before hval0 hW hcnd hsz0 _
  have hval : ∀ (j : Nat) t v, Try.f6.params[j]? = some t → args[j]? = some v → Value.okWide Try.prog W .any base t v := hval0
  have hW' := hW
  obtain ⟨p, q, hA0, hV, rfl, hfz, hnd⟩ := hW
  have hA : DataW.TrodAll enc Try.prog W 0 (fun _ => true) true Try.f6.params.toList args.toList ds p := hA0
  rw [Try.params6] at hA hval
  obtain ⟨v0, vs0, d0, ds0, p0, q0, hargs, rfl, rfl, h0, r0⟩ := trodAll_cons hA
  obtain ⟨v1, vs1, d1, ds1, p1, q1, ha1, rfl, rfl, h1, r1⟩ := trodAll_cons r0
  obtain ⟨rfl, rfl, rfl⟩ := trodAll_nil r1
  subst ha1
  obtain rfl : args = #[v0, v1] := by cases args; simp_all
  obtain ⟨rfl, rfl⟩ := trodVars_none hV
  have k0 := h0
  have lt0 : ∀ x ∈ p0, x.block < W.heap.size := by obtain ⟨m, hm⟩ := k0; exact DataW.trod_lt m _ _ _ hm
  obtain ⟨m0, hm0⟩ := h0
  obtain ⟨fs0, hu0⟩ := lworldUFnExactSumUser
  obtain ⟨cs0, hv0⟩ := okWide_aggFnExactSumUser hu0 (hval 0 24 v0 rfl rfl)
  obtain ⟨l0, hl0, hr0⟩ := rd_lworldV hv0 hm0
  have hf0 : chsFact l0 := sW.hf l0 (C0 W) v0 hl0
  have k1 := h1
  have lt1 : ∀ x ∈ p1, x.block < W.heap.size := by obtain ⟨m, hm⟩ := k1; exact DataW.trod_lt m _ _ _ hm
  obtain ⟨m1, hm1⟩ := h1
  obtain ⟨l1, hl1, hr1⟩ := rd_intVFnExactSumUser (hval 1 3 v1 rfl rfl) hm1
  have hA' := wAt_arg hl0
  obtain ⟨x, rfl⟩ : ∃ x, v0 = .agg #[x] := hA'.2.imp fun _ h => h.1
  have hl1 : v1 = .int .i64 l1 := hl1
  subst hl1
  refine (callsIn_wide.1 (user_in (inW W) x l1 W l0 hA' hf0 hr0)).mono fun e W' ⟨he, bel⟩ => ?_
  subst he
  exact ⟨_, rfl, _, _, _, [], _, [], hW', trodAll_mk1 (shut_bool Try.underlying4 _), (trodAll_cons_mk (Below.trod laidOutFnExactSumUser (by kernel_rfl) (of_decide_eq_true (by kernel_rfl)) k0 bel lt0) (trodAll_cons_mk (Below.trod laidOutFnExactSumUser (by kernel_rfl) (of_decide_eq_true (by kernel_rfl)) k1 bel lt1) trodAll_mk0)), rfl, bel.frame _, fun h => by cases h⟩
theorem overFnExactSumUser : Rows.fnExactSumUserRow.holds Try.pinned (OpenSpec.ofChange Rows.fnExactSumUserSpec) :=
  OpenClaim.holds_of_wide 6 Try.f6 rfl rfl rfl rfl rfl rfl rfl ⟨rfl, rfl, rfl, rfl, rfl⟩ rfl rfl rfl rfl rfl (by kernel_rfl) Try.func6 (by kernel_rfl)
    (of_decide_eq_true (by kernel_rfl)) (by unfold Func.isWrapper; first | (rw [if_pos (by decide +kernel)]; kernel_rfl) | (rw [if_neg (by decide +kernel)]; exact ⟨rfl, rfl⟩))
    (fun os started H enc _ => liftedFnExactSumUser os started H enc)
end Hw
theorem fnExactSumUser_holds : Rows.FnExactSumUserSaid := Hw.overFnExactSumUser
#print axioms fnExactSumUser_holds
end Go.Proofs.Ytfboldbfbmmahaa
