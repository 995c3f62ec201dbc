/- Plain laws: worlds, SumDone. -/
import Derived.Test.YtfboldbfbmmahaaZ0
set_option linter.unusedVariables false
set_option linter.unusedSimpArgs false
set_option maxRecDepth 100000
namespace Go.Proofs.Ytfboldbfbmmahaa
namespace Hw
open Go
/-! ### 1. Worlds -/
/-- Numbers that are one of an int. -/
def Ch.rng (c : Ch) : Prop := inI c.bank.locked
def chsRng (l : List Ch) : Prop := ∀ k, k < l.length → (l.getD k zCh).rng
def EndOk (l : List Ch) (k : Nat) : Prop := ChOk (l.getD k zCh) ∧ (l.getD k zCh).id = k + 1 ∧ (0 < (l.getD k zCh).knows.length → (l.getD k zCh).knows.getD ((l.getD k zCh).knows.length - 1) 0 ≤ ((l.getD (1 - k) zCh).past.length : Int))
def WOk (l : List Ch) : Prop := l.length = 2 ∧ ∀ k, k < 2 → EndOk l k
theorem toNat_sub (k : Nat) (hk : k < 2) : (1 - (k : Int)).toNat = 1 - k := by omega
theorem specW {l : List Ch} (hf : chsFact l) (hr : chsRng l) : spec_WorldOk.S l = true ↔ WOk l := by
  by_cases hl : l.length = 2
  · have e : (Nat.beq (spec_WorldOk_l4.R l false 0).1 0 = true ∧ (spec_WorldOk_l4.R l false 0).2.1 = false ∧ ¬ ∀ k, k < 2 → EndOk l k) ∨ (Nat.beq (spec_WorldOk_l4.R l false 0).1 0 = false ∧ ∀ k, k < 2 → EndOk l k) := by
      rcases spec_WorldOk_l4.law l false () 2 rfl (by decide) with ⟨h1, h2⟩ | ⟨k, r, hk, h1, -, h2⟩
      · rw [h2]
        refine .inr ⟨rfl, fun k hk => ?_⟩
        have h3 := h1 k hk
        have hk' : ((l.getD k zCh).knows.length : Int) ≤ 9223372036854775807 := (chs_get hf k).2.2.2
        have hc := specCh (chs_get hf k) (hr k (by omega))
        simp only [spec_WorldOk_l4.E, E_none, reduceCtorEq, and_false, false_or, and_true] at h3
        rw [wrap_id (n := (k : Int) + 1) (by omega) (by omega), wrap_id (n := 1 - (k : Int)) (by omega) (by omega), wrap_id (n := ((l.getD k zCh).knows.length : Int) - 1) (by omega) (by omega), toNat_sub k hk,
          show (((l.getD k zCh).knows.length : Int) - 1).toNat = (l.getD k zCh).knows.length - 1 by omega] at h3
        unfold EndOk
        generalize (l.getD k zCh).knows.getD ((l.getD k zCh).knows.length - 1) 0 = q at *
        grind
      · rw [h2]
        have hk' : ((l.getD k zCh).knows.length : Int) ≤ 9223372036854775807 := (chs_get hf k).2.2.2
        have hc := specCh (chs_get hf k) (hr k (by omega))
        simp only [spec_WorldOk_l4.E, E_some, reduceCtorEq, and_false, or_false, Option.some.injEq] at h1
        obtain ⟨h3, rfl⟩ := h1
        refine .inl ⟨rfl, rfl, fun h => ?_⟩
        have h4 := h k hk
        unfold EndOk at h4
        rw [wrap_id (n := (k : Int) + 1) (by omega) (by omega), wrap_id (n := 1 - (k : Int)) (by omega) (by omega), wrap_id (n := ((l.getD k zCh).knows.length : Int) - 1) (by omega) (by omega), toNat_sub k hk,
          show (((l.getD k zCh).knows.length : Int) - 1).toNat = (l.getD k zCh).knows.length - 1 by omega] at h3
        generalize (l.getD k zCh).knows.getD ((l.getD k zCh).knows.length - 1) 0 = q at *
        grind
    unfold spec_WorldOk.S WOk
    rw [show ((l.length : Int) != 2) = false by simp [hl]]
    rw [cond_false, loopB e]
    simp [hl]
  · unfold spec_WorldOk.S WOk
    rw [show ((l.length : Int) != 2) = true by simp; omega]
    simp [hl]
theorem implW {l : List Ch} (hf : chsFact l) : impl_WorldOk.S l = true ↔ WOk l := by
  by_cases hl : l.length = 2
  · have e : (Nat.beq (impl_WorldOk_l4.R l false l (l.length : Int) 0).1 0 = true ∧ (impl_WorldOk_l4.R l false l (l.length : Int) 0).2.1 = false ∧ ¬ ∀ k, k < 2 → EndOk l k) ∨ (Nat.beq (impl_WorldOk_l4.R l false l (l.length : Int) 0).1 0 = false ∧ ∀ k, k < 2 → EndOk l k) := by
      rcases impl_WorldOk_l4.law l false l (l.length : Int) () 2 (by rw [hl]) (by decide) with ⟨h1, h2⟩ | ⟨k, r, hk, h1, -, h2⟩
      · rw [h2]
        refine .inr ⟨rfl, fun k hk => ?_⟩
        have h3 := h1 k hk
        have hk' : ((l.getD k zCh).knows.length : Int) ≤ 9223372036854775807 := (chs_get hf k).2.2.2
        have hc := implCh hk'
        simp only [impl_WorldOk_l4.E, E_none, reduceCtorEq, and_false, false_or, and_true] at h3
        rw [wrap_id (n := (k : Int) + 1) (by omega) (by omega), wrap_id (n := 1 - (k : Int)) (by omega) (by omega), wrap_id (n := ((l.getD k zCh).knows.length : Int) - 1) (by omega) (by omega), toNat_sub k hk,
          show (((l.getD k zCh).knows.length : Int) - 1).toNat = (l.getD k zCh).knows.length - 1 by omega] at h3
        unfold EndOk
        generalize (l.getD k zCh).knows.getD ((l.getD k zCh).knows.length - 1) 0 = q at *
        grind
      · rw [h2]
        have hk' : ((l.getD k zCh).knows.length : Int) ≤ 9223372036854775807 := (chs_get hf k).2.2.2
        have hc := implCh hk'
        simp only [impl_WorldOk_l4.E, E_some, reduceCtorEq, and_false, or_false, Option.some.injEq] at h1
        rw [wrap_id (n := (k : Int) + 1) (by omega) (by omega), wrap_id (n := 1 - (k : Int)) (by omega) (by omega), wrap_id (n := ((l.getD k zCh).knows.length : Int) - 1) (by omega) (by omega), toNat_sub k hk,
          show (((l.getD k zCh).knows.length : Int) - 1).toNat = (l.getD k zCh).knows.length - 1 by omega] at h1
        have hr : r = (0, (false, ((k : Int), ()))) := by grind
        subst hr
        refine .inl ⟨rfl, rfl, fun h => ?_⟩
        have h4 := h k hk
        unfold EndOk at h4
        generalize (l.getD k zCh).knows.getD ((l.getD k zCh).knows.length - 1) 0 = q at *
        grind
    unfold impl_WorldOk.S WOk
    rw [show ((l.length : Int) != 2) = false by simp [hl]]
    rw [cond_false, loopB e]
    simp [hl]
  · unfold impl_WorldOk.S WOk
    rw [show ((l.length : Int) != 2) = true by simp; omega]
    simp [hl]

/-! ### 2. What is not settled -/
def Idle (s : St) : Prop := ∀ k, k < s.live.length → s.live.getD k false = false
theorem liveCount {s : St} (hl : s.live.length ≤ 8) : 0 ≤ spec_l3Live.S s ∧ spec_l3Live.S s ≤ 8 ∧ (spec_l3Live.S s = 0 ↔ Idle s) := by
  have hacc : ∀ k, k ≤ s.live.length → 0 ≤ spec_l3Live_l3.acc s 0 k ∧ spec_l3Live_l3.acc s 0 k ≤ k ∧ (spec_l3Live_l3.acc s 0 k = 0 ↔ ∀ j, j < k → s.live.getD j false = false) := by
    intro k
    induction k with
    | zero => intro _; exact ⟨Int.le_refl 0, Int.le_refl 0, ⟨fun _ j hj => by omega, fun _ => rfl⟩⟩
    | succ k ih =>
      intro hk
      obtain ⟨h1, h2, h3⟩ := ih (by omega)
      simp only [spec_l3Live_l3.acc, spec_l3Live_l3.A]
      cases hb : s.live.getD k false with
      | true =>
        rw [cond_true, wrap_id (by omega) (by omega)]
        refine ⟨by omega, by omega, ⟨fun h => by omega, fun h => ?_⟩⟩
        have := h k (by omega)
        rw [hb] at this
        cases this
      | false =>
        rw [cond_false]
        refine ⟨h1, by omega, h3.trans ⟨fun h j hj => ?_, fun h j hj => h j (by omega)⟩⟩
        rcases Nat.lt_or_ge j k with h' | h'
        · exact h j h'
        · obtain rfl : j = k := by omega
          exact hb
  unfold spec_l3Live.S
  rcases spec_l3Live_l3.law s (0 : Int) s.live.length rfl (by omega) with ⟨h1, h2⟩ | ⟨k, r, hk, h1, -, h2⟩
  · rw [h2]
    obtain ⟨a1, a2, a3⟩ := hacc s.live.length (Nat.le_refl _)
    exact ⟨a1, by show spec_l3Live_l3.acc s 0 s.live.length ≤ 8; omega, a3⟩
  · simp [spec_l3Live_l3.E] at h1
theorem idle {s : St} (hl : (s.live.length : Int) ≤ 9223372036854775807) : impl_wayIdle.S s = true ↔ Idle s := by
  have e : (Nat.beq (impl_wayIdle_l2.R false s.live (s.live.length : Int) 0).1 0 = true ∧ (impl_wayIdle_l2.R false s.live (s.live.length : Int) 0).2.1 = false ∧ ¬ Idle s) ∨ (Nat.beq (impl_wayIdle_l2.R false s.live (s.live.length : Int) 0).1 0 = false ∧ Idle s) := by
    rcases impl_wayIdle_l2.law false s.live (s.live.length : Int) () s.live.length rfl hl with ⟨h1, h2⟩ | ⟨k, r, hk, h1, -, h2⟩
    · rw [h2]
      refine .inr ⟨rfl, fun k hk => ?_⟩
      have h3 := h1 k hk
      simp only [impl_wayIdle_l2.E, E_none, reduceCtorEq, and_false, false_or, and_true] at h3
      exact h3
    · rw [h2]
      simp only [impl_wayIdle_l2.E, E_some, reduceCtorEq, and_false, or_false, Option.some.injEq] at h1
      obtain ⟨h3, rfl⟩ := h1
      refine .inl ⟨rfl, rfl, fun h => ?_⟩
      have := h k hk
      rw [h3] at this
      cases this
  unfold impl_wayIdle.S
  rw [loopB e]
  simp
theorem sumDone {l : List Ch} (hf : chsFact l) (hr : chsRng l) : impl_SumDone.S l = spec_SumDone.S l := by
  rw [Bool.eq_iff_iff]
  have e1 := implW hf
  have e2 := specW hf hr
  by_cases hw : WOk l
  · have hl := hw.1
    obtain ⟨c0, _⟩ := hw.2 0 (by decide)
    obtain ⟨c1, _⟩ := hw.2 1 (by decide)
    have s0 := c0.2.2.1
    have s1 := c1.2.2.1
    have n0 : (l.getD 0 zCh).st.live.length ≤ 8 := by unfold StOk at s0; omega
    have n1 : (l.getD 1 zCh).st.live.length ≤ 8 := by unfold StOk at s1; omega
    obtain ⟨a1, a2, a3⟩ := liveCount n0
    obtain ⟨b1, b2, b3⟩ := liveCount n1
    have i0 := idle (s := (l.getD 0 zCh).st) (by omega)
    have i1 := idle (s := (l.getD 1 zCh).st) (by omega)
    have e : (Nat.beq (impl_SumDone_l4.R false l (l.length : Int) 0).1 0 = true ∧ (impl_SumDone_l4.R false l (l.length : Int) 0).2.1 = false ∧ ¬ (Idle (l.getD 0 zCh).st ∧ Idle (l.getD 1 zCh).st)) ∨ (Nat.beq (impl_SumDone_l4.R false l (l.length : Int) 0).1 0 = false ∧ (Idle (l.getD 0 zCh).st ∧ Idle (l.getD 1 zCh).st)) := by
      rcases impl_SumDone_l4.law false l (l.length : Int) () 2 (by rw [hl]) (by decide) with ⟨h1, h2⟩ | ⟨k, r, hk, h1, -, h2⟩
      · rw [h2]
        have h3 := h1 0 (by decide)
        have h4 := h1 1 (by decide)
        simp only [impl_SumDone_l4.E, E_none, reduceCtorEq, and_false, false_or, and_true, Bool.not_eq_false'] at h3 h4
        exact .inr ⟨rfl, i0.1 h3, i1.1 h4⟩
      · rw [h2]
        simp only [impl_SumDone_l4.E, E_some, reduceCtorEq, and_false, or_false, Option.some.injEq] at h1
        obtain ⟨h3, rfl⟩ := h1
        refine .inl ⟨rfl, rfl, fun h => ?_⟩
        have : k = 0 ∨ k = 1 := by omega
        rcases this with rfl | rfl
        · rw [i0.2 h.1] at h3; cases h3
        · rw [i1.2 h.2] at h3; cases h3
    unfold impl_SumDone.S spec_SumDone.S
    rw [e1.2 hw, e2.2 hw, wrap_id (by omega) (by omega)]
    simp only [Bool.not_true, cond_false, cond_true]
    rw [loopB e]
    simp only [and_true, beq_iff_eq]
    rw [← a3, ← b3]
    omega
  · unfold impl_SumDone.S spec_SumDone.S
    have h1 : impl_WorldOk.S l = false := by
      cases h : impl_WorldOk.S l with
      | false => rfl
      | true => exact absurd (e1.1 h) hw
    have h2 : spec_WorldOk.S l = false := by
      cases h : spec_WorldOk.S l with
      | false => rfl
      | true => exact absurd (e2.1 h) hw
    rw [h1, h2]
    simp

/-! ### 3. Sizes -/
theorem sz_row {n : Nat} {left : Int} (hn : (n : Int) ≤ 9223372036854775807) (hl : left ≤ 1048576) (h0 : 0 ≤ left) (h : 0 ≤ (bif decide ((wrap (left - (n : Int))) < 0) then (-1 : Int) else (wrap (left - (n : Int))))) :
    (n : Int) ≤ left ∧ (bif decide ((wrap (left - (n : Int))) < 0) then (-1 : Int) else (wrap (left - (n : Int)))) = left - n := by
  rw [wrap_id (by omega) (by omega)] at *
  grind
theorem sz_ints {l : List Int} {left : Int} (hn : (l.length : Int) ≤ 9223372036854775807) (hl : left ≤ 1048576) (h0 : 0 ≤ left) (h : 0 ≤ laws_szIntS.S l left) : l.length ≤ 1048576 ∧ laws_szIntS.S l left ≤ left := by
  obtain ⟨h1, h2⟩ := sz_row hn hl h0 h
  exact ⟨by omega, by unfold laws_szIntS.S; rw [h2]; omega⟩
theorem sz_pkts {l : List Pkt} {left : Int} (hn : (l.length : Int) ≤ 9223372036854775807) (hl : left ≤ 1048576) (h0 : 0 ≤ left) (h : 0 ≤ laws_szPacketS.S l left) : l.length ≤ 1048576 ∧ laws_szPacketS.S l left ≤ left := by
  obtain ⟨h1, h2⟩ := sz_row hn hl h0 h
  exact ⟨by omega, by unfold laws_szPacketS.S; rw [h2]; omega⟩
theorem sz_bools {l : List Bool} {left : Int} (hn : (l.length : Int) ≤ 9223372036854775807) (hl : left ≤ 1048576) (h0 : 0 ≤ left) (h : 0 ≤ laws_szBoolS.S l left) : l.length ≤ 1048576 ∧ laws_szBoolS.S l left ≤ left := by
  obtain ⟨h1, h2⟩ := sz_row hn hl h0 h
  exact ⟨by omega, by unfold laws_szBoolS.S; rw [h2]; omega⟩
theorem bif_nn {g : Bool} {x : Int} (h : 0 ≤ (bif g then (-1 : Int) else x)) : g = false ∧ 0 ≤ x ∧ (bif g then (-1 : Int) else x) = x := by
  cases g with
  | true => simp at h
  | false => exact ⟨rfl, h, rfl⟩
theorem sz_bk {b : Bk} {left : Int} (hn : b.fact) (hl : left ≤ 1048576) (h0 : 0 ≤ left) (h : 0 ≤ laws_szBank.S b left) : b.sm ∧ laws_szBank.S b left ≤ left := by
  unfold laws_szBank.S at *
  obtain ⟨g1, h1, e1⟩ := bif_nn h
  rw [e1]
  obtain ⟨g2, h2, e2⟩ := bif_nn h1
  rw [e2]
  rw [decide_eq_false_iff_not, Int.not_lt] at g1
  obtain ⟨k1, k2⟩ := sz_ints hn.1 hl h0 g1
  obtain ⟨k3, k4⟩ := sz_ints hn.2 (by omega) g1 h2
  exact ⟨⟨by omega, by omega⟩, by omega⟩
theorem sz_st {s : St} {left : Int} (hn : s.fact) (hl : left ≤ 1048576) (h0 : 0 ≤ left) (h : 0 ≤ laws_szState.S s left) : s.sm ∧ laws_szState.S s left ≤ left := by
  unfold laws_szState.S at *
  obtain ⟨g1, h1, e1⟩ := bif_nn h
  rw [e1]
  obtain ⟨g2, h2, e2⟩ := bif_nn h1
  rw [e2]
  obtain ⟨g3, h3, e3⟩ := bif_nn h2
  rw [e3]
  obtain ⟨g4, h4, e4⟩ := bif_nn h3
  rw [e4]
  rw [decide_eq_false_iff_not, Int.not_lt] at g1 g2 g3
  obtain ⟨k1, j1⟩ := sz_pkts hn.1 hl h0 g1
  obtain ⟨k2, j2⟩ := sz_bools hn.2.1 (by omega) g1 g2
  obtain ⟨k3, j3⟩ := sz_bools hn.2.2.1 (by omega) g2 g3
  obtain ⟨k4, j4⟩ := sz_ints hn.2.2.2 (by omega) g3 h4
  exact ⟨⟨by omega, by omega, by omega, by omega⟩, by omega⟩
end Hw
end Go.Proofs.Ytfboldbfbmmahaa
