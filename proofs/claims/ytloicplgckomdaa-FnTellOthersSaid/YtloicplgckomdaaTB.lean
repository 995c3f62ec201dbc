/- Coins that were given back: made by gen.py. -/
import Derived.Test.YtloicplgckomdaaM2
import Derived.Test.YtloicplgckomdaaE13
import Derived.Test.YtloicplgckomdaaG0
set_option linter.unusedVariables false
set_option linter.unusedSimpArgs false
set_option maxRecDepth 100000
set_option maxHeartbeats 400000
namespace Go.Proofs.Ytloicplgckomdaa
namespace Hw
open Go
noncomputable section
attribute [local irreducible] evFn evBody wrap wxor
theorem parts_set {l : List Int} {f v : Int} (h : Parts l) (hf : 1 ≤ f ∧ f ≤ 3) (hv : 0 ≤ v ∧ v ≤ 30) : Parts (l.set (f - 1).toNat v) := by
  refine ⟨by rw [List.length_set]; exact h.1, fun k hk => ?_⟩
  rw [List.length_set] at hk
  rw [List.getD_eq_getElem?_getD, List.getElem?_set]
  split
  · rw [if_pos (by omega)]
    exact hv
  · rw [← List.getD_eq_getElem?_getD]
    exact h.2 k hk
theorem tot_set {l : List Int} {f v : Int} (h : l.length = 3) (hf : 1 ≤ f ∧ f ≤ 3) : tot (l.set (f - 1).toNat v) = tot l - l.getD (f - 1).toNat 0 + v := by
  obtain ⟨a, b, c, rfl⟩ : ∃ a b c, l = [a, b, c] := by
    match l, h with
    | [a, b, c], _ => exact ⟨a, b, c, rfl⟩
  have : f = 1 ∨ f = 2 ∨ f = 3 := by omega
  rcases this with rfl | rfl | rfl
  · show v + b + c = a + b + c - a + v
    omega
  · show a + v + c = a + b + c - b + v
    omega
  · show a + b + v = a + b + c - c + v
    omega
theorem get_tot {l : List Int} {f : Int} (h : Parts l) (hf : 1 ≤ f ∧ f ≤ 3) : 0 ≤ l.getD (f - 1).toNat 0 ∧ l.getD (f - 1).toNat 0 ≤ tot l := by
  have h3 := h.three
  have : f = 1 ∨ f = 2 ∨ f = 3 := by omega
  unfold tot
  rcases this with rfl | rfl | rfl
  · show 0 ≤ l.getD 0 0 ∧ l.getD 0 0 ≤ _
    omega
  · show 0 ≤ l.getD 1 0 ∧ l.getD 1 0 ≤ _
    omega
  · show 0 ≤ l.getD 2 0 ∧ l.getD 2 0 ≤ _
    omega
theorem bkback_ok {b : Bk} {k f s : Int} (h : MayBack b k f s) : BkOk (backB b k f s) := by
  obtain ⟨⟨h1, h2, h3, h4, h5⟩, hk, hf, hs, m1, m2⟩ := h
  have g1 := get_tot h1 hf
  have g2 := get_tot h2 hf
  unfold backB
  split
  · have := m1 (by assumption)
    refine ⟨parts_set h1 hf (by omega), h2, by show 0 ≤ b.locked - s; omega, ?_, h5⟩
    show tot (b.own.set _ _) + (b.locked - s) = 30
    rw [tot_set h1.1 hf]
    omega
  · have := m2 (by omega)
    refine ⟨h1, parts_set h2 hf (by omega), h3, h4, ?_⟩
    show tot (b.notes.set _ _) ≤ 30
    rw [tot_set h2.1 hf]
    omega
theorem bk_lt {b : Bk} (h : BkOk b) : b.own.length ≤ 1000000 ∧ b.notes.length ≤ 1000000 ∧ inI b.locked := by
  obtain ⟨h1, h2, h3, h4, h5⟩ := h
  have := h1.three
  have g1 := h1.1
  have g2 := h2.1
  refine ⟨by omega, by omega, ?_⟩
  unfold inI
  unfold tot at h4
  omega
theorem st_lt {s : St} (h : StOk s) : s.lt := sin_lt (stOk_in h)
theorem ch_lt {c : Ch} (h : ChOk c) (hk : c.knows.length ≤ 1000000) : c.lt := by
  refine ⟨bk_lt h.2.1, st_lt h.2.2.1, ⟨by have := h.2.2.2.1; omega, fun k => ?_⟩, hk⟩
  rcases Nat.lt_or_ge k c.past.length with g | g
  · exact st_lt (h.2.2.2.2.1 k g)
  · rw [getD_ge g]
    exact zst_lt'
theorem set_getD {α : Type} {l : List α} {i : Nat} {v d : α} (hi : i < l.length) (h : l.getD i d = v) : l.set i v = l := by
  subst h
  rw [List.getD_eq_getElem?_getD, List.getElem?_eq_getElem hi]
  exact List.set_getElem_self hi

end
end Hw
end Go.Proofs.Ytloicplgckomdaa
