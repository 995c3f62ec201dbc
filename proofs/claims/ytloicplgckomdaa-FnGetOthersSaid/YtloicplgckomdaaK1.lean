/- Chains: made by gen.py. -/
import Derived.Test.YtloicplgckomdaaE13
set_option linter.unusedVariables false
set_option linter.unusedSimpArgs false
set_option maxRecDepth 100000
set_option maxHeartbeats 400000
namespace Go.Proofs.Ytloicplgckomdaa
namespace Hw
open Go
noncomputable section
attribute [local irreducible] evFn evBody wrap wxor
theorem st_sm {s : St} (h : s.lt) : s.sm := by
  unfold St.lt at h
  unfold St.sm
  omega
theorem lt_sm {c : Ch} (h : c.lt) : c.sm := by
  obtain ⟨⟨b1, b2, b3⟩, s, ⟨p1, p2⟩, k⟩ := h
  exact ⟨⟨by omega, by omega⟩, st_sm s, ⟨by omega, fun k => st_sm (p2 k)⟩, by omega⟩
theorem implChL {c : Ch} (h : c.lt) : ZY.S c = true ↔ ChOk c := implCh (by have := h.2.2.2; omega)
theorem chSame {c : Ch} (h : c.lt) : ZY.S c = ZV.S c := Bool.eq_iff_iff.2 ((implChL h).trans (specChL h).symm)
theorem knows_lt {c : Ch} (h : c.lt) {l : List Int} (hl : l.length ≤ 1000000) : Ch.lt ⟨c.id, c.bank, c.st, c.past, l⟩ := ⟨h.1, h.2.1, h.2.2.1, hl⟩

end
end Hw
end Go.Proofs.Ytloicplgckomdaa
