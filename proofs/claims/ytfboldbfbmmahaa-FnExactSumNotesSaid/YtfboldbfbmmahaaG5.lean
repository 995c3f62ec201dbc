/- States, without draws: made by gen.py. -/
import Derived.Test.YtfboldbfbmmahaaE3
set_option linter.unusedVariables false
set_option linter.unusedSimpArgs false
set_option maxRecDepth 100000
set_option maxHeartbeats 400000
namespace Go.Proofs.Ytfboldbfbmmahaa
namespace Hw
open Go
noncomputable section
attribute [local irreducible] evFn evBody wrap wxor
theorem stK5 {s : St} (h : StOk s) {i : Int} (h0 : 0 ≤ i) (h1 : i < (s.sent.length : Int)) : PktOk (s.sent.getD i.toNat zPkt) ∧ (s.sent.getD i.toNat zPkt).seq = i + 1 ∧ (s.live.getD i.toNat false = true → s.back.getD i.toNat false = false) ∧ (s.sent.getD i.toNat zPkt).ver ≤ s.ver := by
  have := h.2.2.2.2.2.2.1 i.toNat (by omega)
  refine ⟨this.1, by have := this.2.1; omega, this.2.2.1, this.2.2.2⟩
theorem getD_set5 {α : Type} {l : List α} {i k : Nat} {x d : α} (hi : i < l.length) : (l.set i x).getD k d = if k = i then x else l.getD k d := by
  simp only [List.getD_eq_getElem?_getD, List.getElem?_set]
  by_cases h : k = i
  · subst h; simp [hi]
  · rw [if_neg (fun e => h e.symm), if_neg h]

end
end Hw
end Go.Proofs.Ytfboldbfbmmahaa
