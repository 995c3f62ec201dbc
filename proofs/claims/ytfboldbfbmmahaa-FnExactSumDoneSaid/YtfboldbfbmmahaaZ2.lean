/- Plain laws: sizes, copies, equality. -/
import Derived.Test.YtfboldbfbmmahaaZ1
set_option linter.unusedVariables false
set_option linter.unusedSimpArgs false
set_option maxRecDepth 100000
namespace Go.Proofs.Ytfboldbfbmmahaa
namespace Hw
open Go
theorem sz_sts {l : List St} {left : Int} (hn : stsFact l) (hl : left ≤ 1048576) (h0 : 0 ≤ left) (h : 0 ≤ laws_szStateS.S l left) : stsSm l ∧ laws_szStateS.S l left ≤ left := by
  have hlen : (l.length : Int) ≤ 9223372036854775807 := hn.1
  unfold laws_szStateS.S at *
  obtain ⟨g1, h1, e1⟩ := bif_nn h
  rw [e1]
  rw [decide_eq_false_iff_not, Int.not_lt] at g1
  rw [wrap_id (n := left - (l.length : Int)) (by omega) (by omega)] at *
  rcases laws_szStateS_l5.law l 0 (left - (l.length : Int)) l.length rfl hlen with ⟨q1, q2⟩ | ⟨k, r, hk, q1, -, q2⟩
  · have key : ∀ k, k ≤ l.length → laws_szStateS_l5.acc l 0 (left - (l.length : Int)) k ≤ left ∧ 0 ≤ laws_szStateS_l5.acc l 0 (left - (l.length : Int)) k ∧ ∀ j, j < k → (l.getD j zSt).sm := by
      intro k
      induction k with
      | zero => intro _; exact ⟨by show left - (l.length : Int) ≤ left; omega, g1, fun j hj => by omega⟩
      | succ k ih =>
        intro hk
        obtain ⟨i1, i2, i3⟩ := ih (by omega)
        have q3 := q1 k (by omega)
        simp only [laws_szStateS_l5.E, E_none, reduceCtorEq, and_false, false_or, and_true, decide_eq_false_iff_not, Int.not_lt] at q3
        obtain ⟨j1, j2⟩ := sz_st (sts_get hn k) (by omega) i2 q3
        have e : laws_szStateS_l5.acc l 0 (left - (l.length : Int)) (k + 1) = laws_szState.S (l.getD k zSt) (laws_szStateS_l5.acc l 0 (left - (l.length : Int)) k) := by
          simp only [laws_szStateS_l5.acc, laws_szStateS_l5.A]
          rw [show decide (laws_szState.S (l.getD k zSt) (laws_szStateS_l5.acc l 0 (left - (l.length : Int)) k) < 0) = false by rw [decide_eq_false_iff_not, Int.not_lt]; exact q3, cond_false]
        rw [e]
        refine ⟨by omega, q3, fun j hj => ?_⟩
        rcases Nat.lt_or_ge j k with h' | h'
        · exact i3 j h'
        · obtain rfl : j = k := by omega
          exact j1
    obtain ⟨i1, i2, i3⟩ := key l.length (Nat.le_refl _)
    refine ⟨⟨by omega, fun k => ?_⟩, ?_⟩
    · rcases Nat.lt_or_ge k l.length with h' | h'
      · exact i3 k h'
      · rw [List.getD_eq_getElem?_getD, List.getElem?_eq_none h']
        simp [zSt, St.sm, Ch.sm, Bk.sm, stsSm, zSt, zBk]
    · rw [q2]
      exact i1
  · rw [q2] at h1
    simp only [laws_szStateS_l5.E, E_some, reduceCtorEq, and_false, or_false, Option.some.injEq] at q1
    obtain ⟨q3, rfl⟩ := q1
    exact absurd h1 (by show ¬ (0 : Int) ≤ -1; decide)
theorem sz_ch {c : Ch} {left : Int} (hn : c.fact) (hl : left ≤ 1048576) (h0 : 0 ≤ left) (h : 0 ≤ laws_szChain.S c left) : c.sm ∧ laws_szChain.S c left ≤ left := by
  unfold laws_szChain.S at *
  obtain ⟨g1, h1, e1⟩ := bif_nn h
  rw [e1]
  obtain ⟨g2, h2, e2⟩ := bif_nn h1
  rw [e2]
  obtain ⟨g3, h3, e3⟩ := bif_nn h2
  rw [e3]
  obtain ⟨g4, h4, e4⟩ := bif_nn h3
  rw [e4]
  rw [decide_eq_false_iff_not, Int.not_lt] at g1 g2 g3
  obtain ⟨k1, j1⟩ := sz_bk hn.1 hl h0 g1
  obtain ⟨k2, j2⟩ := sz_st hn.2.1 (by omega) g1 g2
  obtain ⟨k3, j3⟩ := sz_sts hn.2.2.1 (by omega) g2 g3
  obtain ⟨k4, j4⟩ := sz_ints hn.2.2.2 (by omega) g3 h4
  exact ⟨⟨k1, k2, k3, by omega⟩, by omega⟩
theorem sz_chs {l : List Ch} {left : Int} (hn : chsFact l) (hl : left ≤ 1048576) (h0 : 0 ≤ left) (h : 0 ≤ laws_szChainS.S l left) : chsSm l ∧ laws_szChainS.S l left ≤ left := by
  have hlen : (l.length : Int) ≤ 9223372036854775807 := hn.1
  unfold laws_szChainS.S at *
  obtain ⟨g1, h1, e1⟩ := bif_nn h
  rw [e1]
  rw [decide_eq_false_iff_not, Int.not_lt] at g1
  rw [wrap_id (n := left - (l.length : Int)) (by omega) (by omega)] at *
  rcases laws_szChainS_l5.law l 0 (left - (l.length : Int)) l.length rfl hlen with ⟨q1, q2⟩ | ⟨k, r, hk, q1, -, q2⟩
  · have key : ∀ k, k ≤ l.length → laws_szChainS_l5.acc l 0 (left - (l.length : Int)) k ≤ left ∧ 0 ≤ laws_szChainS_l5.acc l 0 (left - (l.length : Int)) k ∧ ∀ j, j < k → (l.getD j zCh).sm := by
      intro k
      induction k with
      | zero => intro _; exact ⟨by show left - (l.length : Int) ≤ left; omega, g1, fun j hj => by omega⟩
      | succ k ih =>
        intro hk
        obtain ⟨i1, i2, i3⟩ := ih (by omega)
        have q3 := q1 k (by omega)
        simp only [laws_szChainS_l5.E, E_none, reduceCtorEq, and_false, false_or, and_true, decide_eq_false_iff_not, Int.not_lt] at q3
        obtain ⟨j1, j2⟩ := sz_ch (chs_get hn k) (by omega) i2 q3
        have e : laws_szChainS_l5.acc l 0 (left - (l.length : Int)) (k + 1) = laws_szChain.S (l.getD k zCh) (laws_szChainS_l5.acc l 0 (left - (l.length : Int)) k) := by
          simp only [laws_szChainS_l5.acc, laws_szChainS_l5.A]
          rw [show decide (laws_szChain.S (l.getD k zCh) (laws_szChainS_l5.acc l 0 (left - (l.length : Int)) k) < 0) = false by rw [decide_eq_false_iff_not, Int.not_lt]; exact q3, cond_false]
        rw [e]
        refine ⟨by omega, q3, fun j hj => ?_⟩
        rcases Nat.lt_or_ge j k with h' | h'
        · exact i3 j h'
        · obtain rfl : j = k := by omega
          exact j1
    obtain ⟨i1, i2, i3⟩ := key l.length (Nat.le_refl _)
    refine ⟨⟨by omega, fun k => ?_⟩, ?_⟩
    · rcases Nat.lt_or_ge k l.length with h' | h'
      · exact i3 k h'
      · rw [List.getD_eq_getElem?_getD, List.getElem?_eq_none h']
        simp [zCh, St.sm, Ch.sm, Bk.sm, stsSm, zSt, zBk]
    · rw [q2]
      exact i1
  · rw [q2] at h1
    simp only [laws_szChainS_l5.E, E_some, reduceCtorEq, and_false, or_false, Option.some.injEq] at q1
    obtain ⟨q3, rfl⟩ := q1
    exact absurd h1 (by show ¬ (0 : Int) ≤ -1; decide)
theorem sz_world {l : List Ch} (hn : chsFact l) (h : decide (laws_szWorld.S l 1048576 < 0) = false) : chsSm l := by
  rw [decide_eq_false_iff_not, Int.not_lt] at h
  unfold laws_szWorld.S at h
  obtain ⟨g1, h1, e1⟩ := bif_nn h
  exact (sz_chs hn (by decide) (by decide) h1).1
theorem to_ints {l : List Int} (h : l.length ≤ 4294967296) : laws_toIntS.S l = l := by
  unfold laws_toIntS.S
  rcases laws_toIntS_l3.law l (List.replicate ((l.length : Int)).toNat (0 : Int)) l.length rfl (by omega) with ⟨q1, q2⟩ | ⟨k, r, hk, q1, -, q2⟩
  · rw [q2]
    refine fill_eq (z := (0 : Int)) (acc := laws_toIntS_l3.acc l (List.replicate ((l.length : Int)).toNat (0 : Int))) (by show (List.replicate ((l.length : Int)).toNat (0 : Int)).length = l.length; simp) fun k => ?_
    show (laws_toIntS_l3.acc l _ k).set k (l.getD k (0 : Int)) = _
    rfl
  · simp [laws_toIntS_l3.E] at q1
theorem to_bools {l : List Bool} (h : l.length ≤ 4294967296) : laws_toBoolS.S l = l := by
  unfold laws_toBoolS.S
  rcases laws_toBoolS_l3.law l (List.replicate ((l.length : Int)).toNat false) l.length rfl (by omega) with ⟨q1, q2⟩ | ⟨k, r, hk, q1, -, q2⟩
  · rw [q2]
    refine fill_eq (z := false) (acc := laws_toBoolS_l3.acc l (List.replicate ((l.length : Int)).toNat false)) (by show (List.replicate ((l.length : Int)).toNat false).length = l.length; simp) fun k => ?_
    show (laws_toBoolS_l3.acc l _ k).set k (l.getD k false) = _
    rfl
  · simp [laws_toBoolS_l3.E] at q1
theorem to_pkts {l : List Pkt} (h : l.length ≤ 4294967296) : laws_toPacketS.S l = l := by
  unfold laws_toPacketS.S
  rcases laws_toPacketS_l3.law l (List.replicate ((l.length : Int)).toNat zPkt) l.length rfl (by omega) with ⟨q1, q2⟩ | ⟨k, r, hk, q1, -, q2⟩
  · rw [q2]
    refine fill_eq (z := zPkt) (acc := laws_toPacketS_l3.acc l (List.replicate ((l.length : Int)).toNat zPkt)) (by show (List.replicate ((l.length : Int)).toNat zPkt).length = l.length; simp) fun k => ?_
    show (laws_toPacketS_l3.acc l _ k).set k (l.getD k zPkt) = _
    rfl
  · simp [laws_toPacketS_l3.E] at q1
theorem to_bk {b : Bk} (h : b.sm) : laws_toBank.S b = b := by
  unfold laws_toBank.S
  rw [to_ints h.1, to_ints h.2]
theorem to_st {s : St} (h : s.sm) : laws_toState.S s = s := by
  unfold laws_toState.S
  rw [to_pkts h.1, to_bools h.2.1, to_bools h.2.2.1, to_ints h.2.2.2]
theorem to_sts {l : List St} (h : stsSm l) : laws_toStateS.S l = l := by
  unfold laws_toStateS.S
  rcases laws_toStateS_l3.law l (List.replicate ((l.length : Int)).toNat zSt) l.length rfl (by have := h.1; omega) with ⟨q1, q2⟩ | ⟨k, r, hk, q1, -, q2⟩
  · rw [q2]
    refine fill_eq (z := zSt) (acc := laws_toStateS_l3.acc l (List.replicate ((l.length : Int)).toNat zSt)) (by show (List.replicate ((l.length : Int)).toNat zSt).length = l.length; simp) fun k => ?_
    show (laws_toStateS_l3.acc l _ k).set k (laws_toState.S (l.getD k zSt)) = _
    rw [to_st (h.2 k)]
  · simp [laws_toStateS_l3.E] at q1
theorem to_ch {c : Ch} (h : c.sm) : laws_toChain.S c = c := by
  unfold laws_toChain.S
  rw [to_bk h.1, to_st h.2.1, to_sts h.2.2.1, to_ints h.2.2.2]
theorem to_chs {l : List Ch} (h : chsSm l) : laws_toChainS.S l = l := by
  unfold laws_toChainS.S
  rcases laws_toChainS_l3.law l (List.replicate ((l.length : Int)).toNat zCh) l.length rfl (by have := h.1; omega) with ⟨q1, q2⟩ | ⟨k, r, hk, q1, -, q2⟩
  · rw [q2]
    refine fill_eq (z := zCh) (acc := laws_toChainS_l3.acc l (List.replicate ((l.length : Int)).toNat zCh)) (by show (List.replicate ((l.length : Int)).toNat zCh).length = l.length; simp) fun k => ?_
    show (laws_toChainS_l3.acc l _ k).set k (laws_toChain.S (l.getD k zCh)) = _
    rw [to_ch (h.2 k)]
  · simp [laws_toChainS_l3.E] at q1
theorem to_world {l : List Ch} (h : chsSm l) : laws_toWorld.S l = l := to_chs h
theorem eq_ints {l : List Int} (h : (l.length : Int) ≤ 9223372036854775807) : laws_eqIntS.S l l = true := by
  unfold laws_eqIntS.S
  rcases laws_eqIntS_l4.law l l false () l.length rfl h with ⟨q1, q2⟩ | ⟨k, r, hk, q1, -, q2⟩
  · rw [q2]
    simp [laws_eqIntS_l4.fin, show Nat.beq 1 0 = false from rfl]
  · simp [laws_eqIntS_l4.E] at q1
theorem eq_bools {l : List Bool} (h : (l.length : Int) ≤ 9223372036854775807) : laws_eqBoolS.S l l = true := by
  unfold laws_eqBoolS.S
  rcases laws_eqBoolS_l4.law l l false () l.length rfl h with ⟨q1, q2⟩ | ⟨k, r, hk, q1, -, q2⟩
  · rw [q2]
    simp [laws_eqBoolS_l4.fin, show Nat.beq 1 0 = false from rfl]
  · simp [laws_eqBoolS_l4.E] at q1
theorem eq_pkt {p : Pkt} : laws_eqPacket.S p p = true := by simp [laws_eqPacket.S]
theorem eq_pkts {l : List Pkt} (h : (l.length : Int) ≤ 9223372036854775807) : laws_eqPacketS.S l l = true := by
  unfold laws_eqPacketS.S
  rcases laws_eqPacketS_l4.law l l false () l.length rfl h with ⟨q1, q2⟩ | ⟨k, r, hk, q1, -, q2⟩
  · rw [q2]
    simp [laws_eqPacketS_l4.fin, show Nat.beq 1 0 = false from rfl]
  · simp [laws_eqPacketS_l4.E, eq_pkt] at q1
theorem eq_bk {b : Bk} (h : b.fact) : laws_eqBank.S b b = true := by simp [laws_eqBank.S, eq_ints h.1, eq_ints h.2]
theorem eq_st {s : St} (h : s.fact) : laws_eqState.S s s = true := by simp [laws_eqState.S, eq_pkts h.1, eq_bools h.2.1, eq_bools h.2.2.1, eq_ints h.2.2.2]
theorem eq_st' {l : List St} (h : stsFact l) (k : Nat) : laws_eqState.S (l.getD k zSt) (l.getD k zSt) = true := eq_st (sts_get h k)
theorem eq_sts {l : List St} (h : stsFact l) : laws_eqStateS.S l l = true := by
  unfold laws_eqStateS.S
  rcases laws_eqStateS_l4.law l l false () l.length rfl h.1 with ⟨q1, q2⟩ | ⟨k, r, hk, q1, -, q2⟩
  · rw [q2]
    simp [laws_eqStateS_l4.fin, show Nat.beq 1 0 = false from rfl]
  · rw [laws_eqStateS_l4.E, eq_st' h k] at q1
    cases q1
theorem eq_ch {c : Ch} (h : c.fact) : laws_eqChain.S c c = true := by simp [laws_eqChain.S, eq_bk h.1, eq_st h.2.1, eq_sts h.2.2.1, eq_ints h.2.2.2]
theorem eq_chs {l : List Ch} (h : chsFact l) : laws_eqChainS.S l l = true := by
  unfold laws_eqChainS.S
  rcases laws_eqChainS_l4.law l l false () l.length rfl h.1 with ⟨q1, q2⟩ | ⟨k, r, hk, q1, -, q2⟩
  · rw [q2]
    simp [laws_eqChainS_l4.fin, show Nat.beq 1 0 = false from rfl]
  · rw [laws_eqChainS_l4.E, eq_ch (chs_get h k)] at q1
    cases q1
theorem eq_world {l : List Ch} (h : chsFact l) : laws_eqWorld.S l l = true := by simp [laws_eqWorld.S, eq_chs h]
end Hw
end Go.Proofs.Ytfboldbfbmmahaa
