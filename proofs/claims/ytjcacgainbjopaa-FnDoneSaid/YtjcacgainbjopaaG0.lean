/- States: made by gen.py. -/
import Derived.Test.YtjcacgainbjopaaE7
set_option linter.unusedVariables false
set_option linter.unusedSimpArgs false
set_option maxRecDepth 100000
set_option maxHeartbeats 400000
namespace Go.Proofs.Ytjcacgainbjopaa
namespace Hw
open Go
attribute [local irreducible] evFn evBody wrap wxor
theorem sameSt {s : St} : ZO.S s = ZI.S s := by
  have h1 := @implSt s
  have h2 := @specSt s
  cases h : ZO.S s <;> cases h' : ZI.S s <;> simp_all
theorem stWant {s : St} (h : StOk s) : (s.way = 4 → s.want = s.ver + 1) ∧ (¬ s.way = 4 → s.want = 0) ∧ 1 ≤ s.ver ∧ s.ver ≤ 9 := by
  obtain ⟨h1, h2, _, _, _, _, _, _, h9⟩ := h
  split at h9 <;> omega
theorem stNot10 {s : St} : ¬ StOk ⟨s.way, s.ver, 10, s.sent, s.live, s.back, s.got⟩ := fun h => by
  obtain ⟨h1, h2, _, _, _, _, _, _, h9⟩ := h
  dsimp only at h9
  split at h9 <;> omega
theorem stK {s : St} (h : StOk s) {i : Int} (h0 : 0 ≤ i) (h1 : i < (s.sent.length : Int)) : PktOk (s.sent.getD i.toNat zPkt) ∧ (s.sent.getD i.toNat zPkt).seq = i + 1 ∧ (s.live.getD i.toNat false = true → s.back.getD i.toNat false = false) ∧ (s.sent.getD i.toNat zPkt).ver ≤ s.ver := by
  have := h.2.2.2.2.2.2.1 i.toNat (by omega)
  refine ⟨this.1, by have := this.2.1; omega, this.2.2.1, this.2.2.2⟩
theorem getD_set {α : Type} {l : List α} {i k : Nat} {x d : α} (hi : i < l.length) : (l.set i x).getD k d = if k = i then x else l.getD k d := by
  simp only [List.getD_eq_getElem?_getD, List.getElem?_set]
  by_cases h : k = i
  · subst h; simp [hi]
  · rw [if_neg (fun e => h e.symm), if_neg h]
theorem stGot3 {s : St} {i : Int} (h : StOk s) (h0 : 0 ≤ i) (h1 : i < 8) : ¬ StOk ⟨s.way, s.ver, s.want, s.sent, s.live, s.back, ([] ++ s.got).set i.toNat 3⟩ := fun h' => by
  have hl := h.2.2.2.2.2.1
  have := h'.2.2.2.2.2.2.2.1 i.toNat (by simp only [List.length_set, List.nil_append]; omega)
  simp only [List.nil_append] at this
  rw [getD_set (by omega), if_pos rfl] at this
  omega
theorem stGot1 {s : St} {i : Int} (h : StOk s) (h0 : 0 ≤ i) (h1 : i < 8) : StOk ⟨s.way, s.ver, s.want, s.sent, s.live, s.back, ([] ++ s.got).set i.toNat 1⟩ := by
  obtain ⟨a1, a2, a3, a4, a5, a6, a7, a8, a9⟩ := h
  refine ⟨a1, a2, a3, a4, a5, by simp only [List.length_set, List.nil_append]; exact a6, a7, fun k hk => ?_, a9⟩
  simp only [List.length_set, List.nil_append] at hk ⊢
  rw [getD_set (by omega)]
  split
  · omega
  · exact a8 k hk
theorem stBoth {s : St} (h : StOk s) (h0 : ¬ (s.sent.length : Int) = 0) : ¬ StOk ⟨s.way, s.ver, s.want, s.sent, ([] ++ s.live).set 0 true, ([] ++ s.back).set 0 true, s.got⟩ := fun h' => by
  have l1 := h.2.2.2.1
  have l2 := h.2.2.2.2.1
  have := (h'.2.2.2.2.2.2.1 0 (by show 0 < s.sent.length; omega)).2.2.1
  simp only [List.nil_append] at this
  rw [getD_set (by omega), getD_set (by omega)] at this
  exact absurd (this (if_pos rfl)) (by simp)
theorem stNew : StOk ⟨0, 1, 0, [], [], [], List.replicate 8 0⟩ := by
  refine ⟨by decide, by decide, by decide, rfl, rfl, rfl, fun k hk => absurd hk (Nat.not_lt_zero k), fun k hk => ?_, by decide⟩
  have : k < 8 := hk
  match k, this with
  | 0, _ => decide
  | 1, _ => decide
  | 2, _ => decide
  | 3, _ => decide
  | 4, _ => decide
  | 5, _ => decide
  | 6, _ => decide
  | 7, _ => decide
theorem getD_taked {α : Type} {l : List α} {n k : Nat} {d : α} (h : k < n) : ((l.take n).drop 0).getD k d = l.getD k d := by
  rw [List.drop_zero]
  simp only [List.getD_eq_getElem?_getD, List.getElem?_take, if_pos h]
theorem stLess {s : St} {i : Int} (h : StOk s) (h0 : 0 ≤ i) (h1 : i ≤ (s.sent.length : Int)) : StOk ⟨s.way, s.ver, s.want, (s.sent.take i.toNat).drop 0, (s.live.take i.toNat).drop 0, (s.back.take i.toNat).drop 0, s.got⟩ := by
  obtain ⟨a1, a2, a3, a4, a5, a6, a7, a8, a9⟩ := h
  have e1 : ((s.sent.take i.toNat).drop 0).length = i.toNat := by rw [List.drop_zero, List.length_take]; omega
  have e2 : ((s.live.take i.toNat).drop 0).length = i.toNat := by rw [List.drop_zero, List.length_take]; omega
  have e3 : ((s.back.take i.toNat).drop 0).length = i.toNat := by rw [List.drop_zero, List.length_take]; omega
  refine ⟨a1, a2, by show ((s.sent.take i.toNat).drop 0).length ≤ 8; omega, e2.trans e1.symm, e3.trans e1.symm, a6, fun k hk => ?_, a8, a9⟩
  have hk' : k < i.toNat := by rw [← e1]; exact hk
  show PktOk (((s.sent.take i.toNat).drop 0).getD k zPkt) ∧ (((s.sent.take i.toNat).drop 0).getD k zPkt).seq = k + 1 ∧ (((s.live.take i.toNat).drop 0).getD k false = true → ((s.back.take i.toNat).drop 0).getD k false = false) ∧ (((s.sent.take i.toNat).drop 0).getD k zPkt).ver ≤ s.ver
  rw [getD_taked hk', getD_taked hk', getD_taked hk']
  exact a7 k (by omega)
theorem stTwice {s : St} (h : StOk s) (h0 : ¬ (s.sent.length : Int) = 0) : ¬ StOk ⟨s.way, s.ver, s.want, [] ++ s.sent ++ [s.sent.getD 0 zPkt], [] ++ s.live ++ [false], [] ++ s.back ++ [false], s.got⟩ := fun h' => by
  have h1 := (h.2.2.2.2.2.2.1 0 (by omega)).2.1
  have h2 := (h'.2.2.2.2.2.2.1 s.sent.length (by show s.sent.length < (s.sent ++ [s.sent.getD 0 zPkt]).length; simp)).2.1
  have h3 : (([] ++ s.sent ++ [s.sent.getD 0 zPkt]).getD s.sent.length zPkt) = s.sent.getD 0 zPkt := getD_at (by simp)
  dsimp only at h2
  rw [h3] at h2
  omega
abbrev GotQ (s : St) (n r : Int) : Prop := (StOk s → 1 ≤ n → n ≤ 8 → r = s.got.getD (n - 1).toNat 0) ∧ (¬(StOk s ∧ 1 ≤ n ∧ n ≤ 8) → r = 0)
theorem got_rng {s : St} (h : StOk s) {n : Int} (h0 : 1 ≤ n) (h1 : n ≤ 8) : 0 ≤ s.got.getD (n - 1).toNat 0 ∧ s.got.getD (n - 1).toNat 0 ≤ 2 := h.2.2.2.2.2.2.2.1 _ (by have := h.2.2.2.2.2.1; omega)
def lives (l : List Bool) : Nat → List Int
  | 0 => []
  | k + 1 => lives l k ++ (if l.getD k false = true then [(k : Int) + 1] else [])
theorem lives_t {l : List Bool} {i j : Int} (hj : j = i + 1) (h0 : 0 ≤ i) (h : l.getD i.toNat false = true) : lives l i.toNat ++ [i + 1] = lives l j.toNat := by
  have : j.toNat = i.toNat + 1 := by omega
  rw [this, lives, if_pos h, show ((i.toNat : Int)) = i by omega]
theorem lives_f {l : List Bool} {i j : Int} (hj : j = i + 1) (h0 : 0 ≤ i) (h : ¬ l.getD i.toNat false = true) : lives l i.toNat = lives l j.toNat := by
  have : j.toNat = i.toNat + 1 := by omega
  rw [this, lives, if_neg h, List.append_nil]
theorem lives_len {l : List Bool} : ∀ k, (lives l k).length ≤ k
  | 0 => Nat.le_refl 0
  | k + 1 => by
    have := lives_len (l := l) k
    rw [lives]
    split <;> simp only [List.length_append, List.length_cons, List.length_nil] <;> omega
theorem lives_pre {l : List Bool} {k : Nat} : ∀ {n : Nat}, k ≤ n → ∃ m, lives l n = lives l k ++ m := by
  intro n h
  induction n with
  | zero => exact ⟨[], by rw [show k = 0 by omega]; rfl⟩
  | succ n ih =>
    rcases Nat.lt_or_ge n k with h' | h'
    · exact ⟨[], by rw [show k = n + 1 by omega, List.append_nil]⟩
    · obtain ⟨m, hm⟩ := ih h'
      exact ⟨_, by rw [lives, hm, List.append_assoc]⟩
theorem lives_get {l : List Bool} {i : Int} {n : Nat} (h0 : 0 ≤ i) (hi : i < (n : Int)) (h : l.getD i.toNat false = true) : (lives l i.toNat).length < (lives l n).length ∧ (lives l n).getD (lives l i.toNat).length 0 = i + 1 := by
  obtain ⟨m, hm⟩ := lives_pre (l := l) (k := i.toNat + 1) (n := n) (by omega)
  rw [lives, if_pos h, List.append_assoc] at hm
  rw [hm]
  refine ⟨by simp only [List.length_append, List.length_cons, List.length_nil]; omega, ?_⟩
  simp only [List.getD_eq_getElem?_getD]
  rw [List.getElem?_append_right (Nat.le_refl _), Nat.sub_self]
  simp
  omega
theorem ints_eq {a b : List Int} (hl : a.length = b.length) (h : ∀ k, k < a.length → a.getD k 0 = b.getD k 0) : a = b := by
  refine List.ext_getElem hl fun k h1 h2 => ?_
  have := h k h1
  simpa [List.getD_eq_getElem?_getD, List.getElem?_eq_getElem h1, List.getElem?_eq_getElem h2] using this
abbrev HasP (s : St) (p : Pkt) : Prop := StOk s ∧ (1 ≤ p.seq ∧ p.seq ≤ (s.sent.length : Int)) ∧ s.sent.getD (p.seq - 1).toNat zPkt = p ∧ s.live.getD (p.seq - 1).toNat false = true
theorem stL {s : St} (h : StOk s) : s.sent.length ≤ 8 ∧ s.live.length = s.sent.length ∧ s.back.length = s.sent.length ∧ s.got.length = 8 := ⟨h.2.2.1, h.2.2.2.1, h.2.2.2.2.1, h.2.2.2.2.2.1⟩
theorem ints_ne {a b : List Int} {i : Int} (h : ¬ a.getD i.toNat 0 = b.getD i.toNat 0) : ¬ a = b := fun e => h (by rw [e])
theorem ints_eq' {a b : List Int} {i : Int} (hl : (a.length : Int) = (b.length : Int)) (hi : ¬ i < (a.length : Int)) (h : ∀ k : Nat, (k : Int) < i → a.getD k 0 = b.getD k 0) : a = b := ints_eq (by omega) fun k hk => h k (by omega)
theorem step_eq {a b : List Int} {i j : Int} (hj : j = i + 1) (h0 : 0 ≤ i) (h : ∀ k : Nat, (k : Int) < i → a.getD k 0 = b.getD k 0) (he : a.getD i.toNat 0 = b.getD i.toNat 0) : ∀ k : Nat, (k : Int) < j → a.getD k 0 = b.getD k 0 := fun k hk => by
  rcases Int.lt_or_le k i with h1 | h1
  · exact h k h1
  · rw [show k = i.toNat by omega]
    exact he
theorem has_at {s : St} {i : Int} (h : StOk s) (h0 : 0 ≤ i) (h1 : i < (s.sent.length : Int)) : HasP s (s.sent.getD i.toNat zPkt) ↔ s.live.getD i.toNat false = true := by
  have e := (stK h h0 h1).2.1
  unfold HasP
  rw [e, show (i + 1 - 1).toNat = i.toNat by omega]
  exact ⟨fun h => h.2.2.2, fun h' => ⟨h, ⟨by omega, by omega⟩, rfl, h'⟩⟩
theorem lives_nil {l : List Bool} {i : Int} (h0 : i = 0) : ([] : List Int) = lives l i.toNat := by subst h0; rfl
theorem stL4 {s : St} (h : StOk s) : s.got.length = 8 := h.2.2.2.2.2.1
theorem okOf {s : St} {p : Prop} (h : ¬(¬p ∨ ¬StOk s)) : StOk s := Classical.byContradiction fun h' => h (.inr h')
theorem gotQ_eq {s : St} {n a b : Int} (h : GotQ s n a) (h' : GotQ s n b) : a = b := by
  by_cases hs : StOk s ∧ 1 ≤ n ∧ n ≤ 8
  · exact (h.1 hs.1 hs.2.1 hs.2.2).trans (h'.1 hs.1 hs.2.1 hs.2.2).symm
  · exact (h.2 hs).trans (h'.2 hs).symm
theorem gotA {s : St} {n x : Int} (ho : StOk s) (h3 : ¬(n < 1 ∨ n > 8)) (e : x = n - 1) : 0 ≤ x ∧ x < (s.got.length : Int) := by
  have := stL4 ho
  omega
theorem got_out {s : St} {n a : Int} (h : GotQ s n a) (hn : n < 1 ∨ n > 8) : a = 0 := h.2 fun h' => by omega
theorem got_in {s : St} {n a x : Int} (h : GotQ s n a) (ho : StOk s) (hn : ¬(n < 1 ∨ n > 8)) (e : x = n - 1) : a = s.got.getD x.toNat 0 := by
  subst e
  exact h.1 ho (by omega) (by omega)
theorem live_same {s : St} {a b : List Int} (h1 : StOk s → a = lives s.live s.live.length) (h2 : ¬ StOk s → a = []) (h3 : StOk s → b = lives s.live s.live.length) (h4 : ¬ StOk s → b = []) : a = b := by
  by_cases hs : StOk s
  · rw [h1 hs, h3 hs]
  · rw [h2 hs, h4 hs]
theorem live_le {s : St} {a : List Int} (h1 : StOk s → a = lives s.live s.live.length) (h2 : ¬ StOk s → a = []) : a.length ≤ 8 := by
  by_cases hs : StOk s
  · have := lives_len (l := s.live) s.live.length
    have := stL hs
    rw [h1 hs]
    omega
  · rw [h2 hs]
    exact Nat.zero_le 8


end Hw
end Go.Proofs.Ytjcacgainbjopaa
