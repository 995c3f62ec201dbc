/- A byte slice as an argument of a law. -/
import Derived.Test.YtjcacgainbjopaaX25
set_option linter.unusedVariables false
set_option maxRecDepth 100000
set_option linter.unusedSimpArgs false
namespace Go.Proofs.Ytjcacgainbjopaa
namespace Hw
open Go
section
variable {H : Type} {enc : TypeId × Value → H} {w : World} {base : Nat} {spare : Nat → Bool} {held : Bool} {fuel : Nat} {t : TypeId} {cs : List Value} {x : DataW H × List MemPlace}
theorem rd_u8R {d : Nat} (ht : Try.prog.underlying t = some (.int .u8)) (h : DataW.trod enc Try.prog w base spare held fuel t cs = some x) : ∃ n, elRel w d [.u8 n] cs ∧ (0 ≤ n ∧ n ≤ 255) := by
  obtain ⟨n, rfl, _, hw⟩ := DataW.trod_int ht h
  refine ⟨n, elRel_one rfl, ?_⟩
  have h2 : (decide (IntKind.u8.min ≤ n) && decide (n ≤ IntKind.u8.max)) = true := hw
  rw [Bool.and_eq_true, decide_eq_true_eq, decide_eq_true_eq, show IntKind.u8.min = 0 by decide, show IntKind.u8.max = 255 by decide] at h2
  exact h2
theorem rd_u8sR (d : Nat) (h : DataW.trod enc Try.prog w base spare held fuel 22 cs = some x) : ∃ v l, cs = [v] ∧ arrR w (inW w) (d + 1) (.u8s l) v ∧ ∀ k, k < l.length → 0 ≤ l.getD k 0 ∧ l.getD k 0 ≤ 255 :=
  rd_slice kU8s .u8 (0 : Int) (fun _ => rfl) (fun _ _ => rfl) u8sU (fun _ => by kernel_rfl) (pos_of (n := 1) (by decide) (by kernel_rfl)) (fun _ _ _ h => rd_u8R u8U h) h
theorem rd_u8sV {r : Reach} {b : Nat} {v : Value} (hv : Value.okWide Try.prog w r b 22 v) (h : DataW.trod enc Try.prog w base spare held fuel 22 v.cells.toList = some x) : ∃ l, fvR (C0 w) (.c (.arr true (.u8s l))) v ∧ ∀ k, 0 ≤ l.getD k 0 ∧ l.getD k 0 ≤ 255 := by
  obtain ⟨u, l, h1, h2, h3⟩ := rd_u8sR 3 h
  have hv : v = u := by
    unfold Value.okWide at hv
    rw [u8sU] at hv
    simp only at hv
    unfold Cell.okWide at hv
    cases v with
    | agg cs => simp [Cell.ok, u8sU] at hv
    | _ => simpa [Value.cells] using h1
  subst hv
  refine ⟨l, h2, fun k => ?_⟩
  rcases Nat.lt_or_ge k l.length with h | h
  · exact h3 k h
  · rw [List.getD_eq_getElem?_getD, List.getElem?_eq_none h]
    simp
end
end Hw
end Go.Proofs.Ytjcacgainbjopaa
