/- Laws of states, 3: made by gen.py. -/
import Derived.Test.YtmhighcagpbmeaaF3
set_option linter.unusedVariables false
set_option linter.unusedSimpArgs false
set_option maxRecDepth 100000
set_option maxHeartbeats 400000
namespace Go.Proofs.Ytmhighcagpbmeaa
namespace Hw
open Go
attribute [local irreducible] evFn evBody wrap wxor
theorem setQ_eq {s : St} {n a b : Int} (h : SetQ s n a) (h' : SetQ s n b) : a = b := by
  by_cases hs : StOk s ∧ 1 ≤ n ∧ n ≤ (s.sent.length : Int)
  · exact (h.1 hs.1 hs.2.1 hs.2.2).trans (h'.1 hs.1 hs.2.1 hs.2.2).symm
  · exact (h.2 hs).trans (h'.2 hs).symm
theorem set_out {s : St} {n a : Int} (h : SetQ s n a) (hn : n < 1 ∨ n > (s.sent.length : Int)) : a = 0 := h.2 fun h' => by omega
theorem setB {s : St} {n x : Int} (ho : StOk s) (h3 : ¬(n < 1 ∨ n > (s.sent.length : Int))) (e : -9223372036854775808 ≤ n - 1 ∧ n - 1 ≤ 9223372036854775807 → x = n - 1) : 0 ≤ x ∧ x < (s.back.length : Int) := by
  have := stL ho
  have := e (by omega)
  omega
theorem set_at {s : St} {n x r : Int} {l : List Int} (ho : StOk s) (h3 : ¬(n < 1 ∨ n > (s.sent.length : Int))) (e : -9223372036854775808 ≤ n - 1 ∧ n - 1 ≤ 9223372036854775807 → x = n - 1) (q : SetQ s n r) (hl : StOk s → l = lives s.live s.live.length) :
    (r = if s.live.getD x.toNat false = true then 1 else if s.back.getD x.toNat false = true then 3 else 2) ∧ (Among l n l.length ↔ s.live.getD x.toNat false = true) ∧ (s.live.getD x.toNat false = true → s.back.getD x.toNat false = false) := by
  have := stL ho
  have hx := e (by omega)
  rw [hl ho, hx]
  exact ⟨q.1 ho (by omega) (by omega), lives_in (by omega) (by omega), (stK ho (i := n - 1) (by omega) (by omega)).2.2.1⟩
theorem set_live {s : St} {n x r : Int} {l : List Int} (ho : StOk s) (h3 : ¬(n < 1 ∨ n > (s.sent.length : Int))) (e : -9223372036854775808 ≤ n - 1 ∧ n - 1 ≤ 9223372036854775807 → x = n - 1) (q : SetQ s n r) (hl : StOk s → l = lives s.live s.live.length) (ha : Among l n l.length) : r = 1 ∧ ¬ s.back.getD x.toNat false = true := by
  obtain ⟨h1, h2, h4⟩ := set_at ho h3 e q hl
  have h5 := h2.1 ha
  rw [if_pos h5] at h1
  exact ⟨h1, by rw [h4 h5]; simp⟩
theorem set_rest {s : St} {n x r : Int} {l : List Int} {u v : Bool} (ho : StOk s) (h3 : ¬(n < 1 ∨ n > (s.sent.length : Int))) (e : -9223372036854775808 ≤ n - 1 ∧ n - 1 ≤ 9223372036854775807 → x = n - 1) (q : SetQ s n r) (hl : StOk s → l = lives s.live s.live.length) (ha : ¬ Among l n l.length)
    (hu : u = true ↔ r = 3 ∧ s.back.getD x.toNat false = true) (hv : v = true ↔ r = 2 ∧ ¬ s.back.getD x.toNat false = true) : (bif u then true else v) = true := by
  obtain ⟨h1, h2, h4⟩ := set_at ho h3 e q hl
  rw [if_neg (fun h => ha (h2.2 h))] at h1
  by_cases h5 : s.back.getD x.toNat false = true
  · rw [if_pos h5] at h1
    rw [hu.2 ⟨h1, h5⟩, cond_true]
  · rw [if_neg h5] at h1
    rw [hv.2 ⟨h1, h5⟩]
    cases u <;> rfl
theorem hasOf {a b : Bool} (h : ¬(¬a = b ∨ ¬a = true)) : a = true := Classical.byContradiction fun h' => h (.inr h')
theorem has_eq {a b : Bool} {p : Prop} (h : a = true ↔ p) (h' : b = true ↔ p) : a = b := Bool.eq_iff_iff.2 (h.trans h'.symm)
theorem hasRng {s : St} {p : Pkt} (h : HasP s p) : 1 ≤ p.seq ∧ p.seq ≤ (s.sent.length : Int) ∧ s.sent.length ≤ 8 ∧ 0 ≤ p.to ∧ p.to ≤ 3 ∧ 1 ≤ p.sum ∧ p.sum ≤ 9 ∧ 1 ≤ p.ver ∧ p.ver ≤ 9 := by
  have h1 := (stK h.1 (i := p.seq - 1) (by omega) (by omega)).1
  rw [h.2.2.1] at h1
  have := stL h.1
  unfold PktOk at h1
  omega
theorem seq_fin {s : St} {p : Pkt} {a6 a8 b12 : Int} {b3 b9 b10 b11 : Bool} {k1 k2 k3 k4 k5 k6 : Int} (ho : StOk s) (q3 : b3 = true ↔ HasP s p) (e6 : a6 = (s.sent.length : Int) + 1) (e8 : 1 ≤ p.ver → p.ver ≤ 9 → ¬ a8 = p.ver)
    (q9 : b9 = true ↔ HasP s ⟨a6, k1, k2, k3, k4, k5, k6⟩) (q10 : b10 = true ↔ HasP s ⟨p.seq, p.kind, p.frm, p.to, p.sum, p.til, a8⟩) (e11 : b11 = true ↔ (¬b9 = true ∧ (¬b3 = true ∨ ¬b10 = true)) ∧ b12 = 0) (q12 : SetQ s a6 b12) : b11 = true := by
  have h1 : ¬ b9 = true := fun h => by have := ((q9.1 h).2.1).2; dsimp only at this; omega
  have h2 : ¬b3 = true ∨ ¬b10 = true := by
    by_cases h : b3 = true
    · refine .inr fun h' => ?_
      have g := q3.1 h
      have g' := (q10.1 h').2.2.1
      have gr := hasRng g
      dsimp only at g'
      rw [g.2.2.1] at g'
      exact e8 gr.2.2.2.2.2.2.2.1 gr.2.2.2.2.2.2.2.2 (congrArg Pkt.ver g').symm
    · exact .inl h
  exact e11.2 ⟨⟨h1, h2⟩, q12.2 fun h => by omega⟩
theorem has_fin {s : St} {p : Pkt} {a5 a9 a11 a14 a19 : Int} {b12 b13 b17 b20 b22 : Bool} {l : List Int} (h : HasP s p) (e5 : ¬ a5 = p.sum) (e9 : ¬ a9 = p.to) (e14 : -9223372036854775808 ≤ a11 - 1 ∧ a11 - 1 ≤ 9223372036854775807 → a14 = a11 - 1)
    (q12 : b12 = true ↔ HasP s ⟨p.seq, p.kind, p.frm, p.to, a5, p.til, p.ver⟩) (q13 : b13 = true ↔ HasP s ⟨p.seq, p.kind, p.frm, a9, p.sum, p.til, p.ver⟩) (q17 : b17 = true ↔ HasP s ⟨a11, p.kind, p.frm, p.to, p.sum, p.til, p.ver⟩)
    (e19 : -9223372036854775808 ≤ p.seq - 1 ∧ p.seq - 1 ≤ 9223372036854775807 → a19 = p.seq - 1)
    (e20 : b20 = true ↔ ((¬b12 = true ∧ ¬b13 = true) ∧ (a11 ≤ (s.sent.length : Int) ∧ s.sent.getD a14.toNat zPkt = ⟨a11, p.kind, p.frm, p.to, p.sum, p.til, p.ver⟩ ∨ ¬b17 = true)) ∧ s.sent.getD a19.toNat zPkt = p)
    (hl : StOk s → l = lives s.live s.live.length) (q22 : b22 = true ↔ Among l p.seq l.length) : (bif b20 then b22 else false) = true := by
  have gr := hasRng h
  have gl := stL h.1
  have h12 : ¬ b12 = true := fun h' => by
    have g' := (q12.1 h').2.2.1
    dsimp only at g'
    rw [h.2.2.1] at g'
    exact e5 (congrArg Pkt.sum g').symm
  have h13 : ¬ b13 = true := fun h' => by
    have g' := (q13.1 h').2.2.1
    dsimp only at g'
    rw [h.2.2.1] at g'
    exact e9 (congrArg Pkt.to g').symm
  have h17 : a11 ≤ (s.sent.length : Int) ∧ s.sent.getD a14.toNat zPkt = ⟨a11, p.kind, p.frm, p.to, p.sum, p.til, p.ver⟩ ∨ ¬b17 = true := by
    by_cases h' : b17 = true
    · have g := q17.1 h'
      have g1 := g.2.1
      have g2 := g.2.2.1
      dsimp only at g1 g2
      rw [← e14 (by omega)] at g2
      exact .inl ⟨g1.2, g2⟩
    · exact .inr h'
  have h20 : s.sent.getD a19.toNat zPkt = p := by rw [e19 (by omega)]; exact h.2.2.1
  rw [e20.2 ⟨⟨⟨h12, h13⟩, h17⟩, h20⟩, cond_true]
  refine q22.2 ?_
  rw [hl h.1]
  exact (lives_in (by omega) (by omega)).2 h.2.2.2
theorem ver9 {v : Int} (h : 1 ≤ v) (h' : v ≤ 9) : ¬ wrap (v.tmod 9 + 1) = v := by
  rw [Int.tmod_eq_emod_of_nonneg (by omega), wrap_id (by omega) (by omega)]
  omega

end Hw
end Go.Proofs.Ytmhighcagpbmeaa
