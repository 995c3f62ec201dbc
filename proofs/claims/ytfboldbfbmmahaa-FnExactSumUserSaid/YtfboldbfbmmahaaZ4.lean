/- Plain laws: sizes, copies, equality. -/
import Derived.Test.YtfboldbfbmmahaaZ0
import Derived.Test.YtfboldbfbmmahaaY6
import Derived.Test.YtfboldbfbmmahaaX26
set_option linter.unusedVariables false
set_option linter.unusedSimpArgs false
set_option maxRecDepth 100000
namespace Go.Proofs.Ytfboldbfbmmahaa
namespace Hw
open Go
theorem sz_row {n : Nat} {left : Int} (hn : (n : Int) ≤ 9223372036854775807) (hl : left ≤ 1048576) (h0 : 0 ≤ left) (h : 0 ≤ (bif decide ((wrap (left - (n : Int))) < 0) then (-1 : Int) else (wrap (left - (n : Int))))) :
    (n : Int) ≤ left ∧ (bif decide ((wrap (left - (n : Int))) < 0) then (-1 : Int) else (wrap (left - (n : Int)))) = left - n := by
  rw [wrap_id (by omega) (by omega)] at *
  grind
theorem sz_ints {l : List Int} {left : Int} (hn : (l.length : Int) ≤ 9223372036854775807) (hl : left ≤ 1048576) (h0 : 0 ≤ left) (h : 0 ≤ Zdn.S l left) : l.length ≤ 1048576 ∧ Zdn.S l left ≤ left := by
  obtain ⟨h1, h2⟩ := sz_row hn hl h0 h
  exact ⟨by omega, by unfold Zdn.S; rw [h2]; omega⟩
theorem sz_pkts {l : List Pkt} {left : Int} (hn : (l.length : Int) ≤ 9223372036854775807) (hl : left ≤ 1048576) (h0 : 0 ≤ left) (h : 0 ≤ Zdp.S l left) : l.length ≤ 1048576 ∧ Zdp.S l left ≤ left := by
  obtain ⟨h1, h2⟩ := sz_row hn hl h0 h
  exact ⟨by omega, by unfold Zdp.S; rw [h2]; omega⟩
theorem sz_bools {l : List Bool} {left : Int} (hn : (l.length : Int) ≤ 9223372036854775807) (hl : left ≤ 1048576) (h0 : 0 ≤ left) (h : 0 ≤ Zdq.S l left) : l.length ≤ 1048576 ∧ Zdq.S l left ≤ left := by
  obtain ⟨h1, h2⟩ := sz_row hn hl h0 h
  exact ⟨by omega, by unfold Zdq.S; rw [h2]; omega⟩
theorem bif_nn {g : Bool} {x : Int} (h : 0 ≤ (bif g then (-1 : Int) else x)) : g = false ∧ 0 ≤ x ∧ (bif g then (-1 : Int) else x) = x := by
  cases g with
  | true => simp at h
  | false => exact ⟨rfl, h, rfl⟩
theorem sz_bk {b : Bk} {left : Int} (hn : b.fact) (hl : left ≤ 1048576) (h0 : 0 ≤ left) (h : 0 ≤ Zdo.S b left) : b.sm ∧ Zdo.S b left ≤ left := by
  unfold Zdo.S at *
  obtain ⟨g1, h1, e1⟩ := bif_nn h
  rw [e1]
  obtain ⟨g2, h2, e2⟩ := bif_nn h1
  rw [e2]
  rw [decide_eq_false_iff_not, Int.not_lt] at g1
  obtain ⟨k1, k2⟩ := sz_ints hn.1 hl h0 g1
  obtain ⟨k3, k4⟩ := sz_ints hn.2 (by omega) g1 h2
  exact ⟨⟨by omega, by omega⟩, by omega⟩
theorem sz_st {s : St} {left : Int} (hn : s.fact) (hl : left ≤ 1048576) (h0 : 0 ≤ left) (h : 0 ≤ Zdr.S s left) : s.sm ∧ Zdr.S s left ≤ left := by
  unfold Zdr.S at *
  obtain ⟨g1, h1, e1⟩ := bif_nn h
  rw [e1]
  obtain ⟨g2, h2, e2⟩ := bif_nn h1
  rw [e2]
  obtain ⟨g3, h3, e3⟩ := bif_nn h2
  rw [e3]
  obtain ⟨g4, h4, e4⟩ := bif_nn h3
  rw [e4]
  rw [decide_eq_false_iff_not, Int.not_lt] at g1 g2 g3
  obtain ⟨k1, j1⟩ := sz_pkts hn.1 hl h0 g1
  obtain ⟨k2, j2⟩ := sz_bools hn.2.1 (by omega) g1 g2
  obtain ⟨k3, j3⟩ := sz_bools hn.2.2.1 (by omega) g2 g3
  obtain ⟨k4, j4⟩ := sz_ints hn.2.2.2 (by omega) g3 h4
  exact ⟨⟨by omega, by omega, by omega, by omega⟩, by omega⟩
theorem sz_sts {l : List St} {left : Int} (hn : stsFact l) (hl : left ≤ 1048576) (h0 : 0 ≤ left) (h : 0 ≤ Zdt.S l left) : stsSm l ∧ Zdt.S l left ≤ left := by
  have hlen : (l.length : Int) ≤ 9223372036854775807 := hn.1
  unfold Zdt.S at *
  obtain ⟨g1, h1, e1⟩ := bif_nn h
  rw [e1]
  rw [decide_eq_false_iff_not, Int.not_lt] at g1
  rw [wrap_id (n := left - (l.length : Int)) (by omega) (by omega)] at *
  rcases Zds.law l 0 (left - (l.length : Int)) l.length rfl hlen with ⟨q1, q2⟩ | ⟨k, r, hk, q1, -, q2⟩
  · have key : ∀ k, k ≤ l.length → Zds.acc l 0 (left - (l.length : Int)) k ≤ left ∧ 0 ≤ Zds.acc l 0 (left - (l.length : Int)) k ∧ ∀ j, j < k → (l.getD j zSt).sm := by
      intro k
      induction k with
      | zero => intro _; exact ⟨by show left - (l.length : Int) ≤ left; omega, g1, fun j hj => by omega⟩
      | succ k ih =>
        intro hk
        obtain ⟨i1, i2, i3⟩ := ih (by omega)
        have q3 := q1 k (by omega)
        simp only [Zds.E, E_none, reduceCtorEq, and_false, false_or, and_true, decide_eq_false_iff_not, Int.not_lt] at q3
        obtain ⟨j1, j2⟩ := sz_st (sts_get hn k) (by omega) i2 q3
        have e : Zds.acc l 0 (left - (l.length : Int)) (k + 1) = Zdr.S (l.getD k zSt) (Zds.acc l 0 (left - (l.length : Int)) k) := by
          simp only [Zds.acc, Zds.A]
          rw [show decide (Zdr.S (l.getD k zSt) (Zds.acc l 0 (left - (l.length : Int)) k) < 0) = false by rw [decide_eq_false_iff_not, Int.not_lt]; exact q3, cond_false]
        rw [e]
        refine ⟨by omega, q3, fun j hj => ?_⟩
        rcases Nat.lt_or_ge j k with h' | h'
        · exact i3 j h'
        · obtain rfl : j = k := by omega
          exact j1
    obtain ⟨i1, i2, i3⟩ := key l.length (Nat.le_refl _)
    refine ⟨⟨by omega, fun k => ?_⟩, ?_⟩
    · rcases Nat.lt_or_ge k l.length with h' | h'
      · exact i3 k h'
      · rw [List.getD_eq_getElem?_getD, List.getElem?_eq_none h']
        simp [zSt, St.sm, Ch.sm, Bk.sm, stsSm, zSt, zBk]
    · rw [q2]
      exact i1
  · rw [q2] at h1
    simp only [Zds.E, E_some, reduceCtorEq, and_false, or_false, Option.some.injEq] at q1
    obtain ⟨q3, rfl⟩ := q1
    exact absurd h1 (by show ¬ (0 : Int) ≤ -1; decide)
theorem sz_ch {c : Ch} {left : Int} (hn : c.fact) (hl : left ≤ 1048576) (h0 : 0 ≤ left) (h : 0 ≤ Zdu.S c left) : c.sm ∧ Zdu.S c left ≤ left := by
  unfold Zdu.S at *
  obtain ⟨g1, h1, e1⟩ := bif_nn h
  rw [e1]
  obtain ⟨g2, h2, e2⟩ := bif_nn h1
  rw [e2]
  obtain ⟨g3, h3, e3⟩ := bif_nn h2
  rw [e3]
  obtain ⟨g4, h4, e4⟩ := bif_nn h3
  rw [e4]
  rw [decide_eq_false_iff_not, Int.not_lt] at g1 g2 g3
  obtain ⟨k1, j1⟩ := sz_bk hn.1 hl h0 g1
  obtain ⟨k2, j2⟩ := sz_st hn.2.1 (by omega) g1 g2
  obtain ⟨k3, j3⟩ := sz_sts hn.2.2.1 (by omega) g2 g3
  obtain ⟨k4, j4⟩ := sz_ints hn.2.2.2 (by omega) g3 h4
  exact ⟨⟨k1, k2, k3, by omega⟩, by omega⟩
theorem sz_chs {l : List Ch} {left : Int} (hn : chsFact l) (hl : left ≤ 1048576) (h0 : 0 ≤ left) (h : 0 ≤ Zdw.S l left) : chsSm l ∧ Zdw.S l left ≤ left := by
  have hlen : (l.length : Int) ≤ 9223372036854775807 := hn.1
  unfold Zdw.S at *
  obtain ⟨g1, h1, e1⟩ := bif_nn h
  rw [e1]
  rw [decide_eq_false_iff_not, Int.not_lt] at g1
  rw [wrap_id (n := left - (l.length : Int)) (by omega) (by omega)] at *
  rcases Zdv.law l 0 (left - (l.length : Int)) l.length rfl hlen with ⟨q1, q2⟩ | ⟨k, r, hk, q1, -, q2⟩
  · have key : ∀ k, k ≤ l.length → Zdv.acc l 0 (left - (l.length : Int)) k ≤ left ∧ 0 ≤ Zdv.acc l 0 (left - (l.length : Int)) k ∧ ∀ j, j < k → (l.getD j zCh).sm := by
      intro k
      induction k with
      | zero => intro _; exact ⟨by show left - (l.length : Int) ≤ left; omega, g1, fun j hj => by omega⟩
      | succ k ih =>
        intro hk
        obtain ⟨i1, i2, i3⟩ := ih (by omega)
        have q3 := q1 k (by omega)
        simp only [Zdv.E, E_none, reduceCtorEq, and_false, false_or, and_true, decide_eq_false_iff_not, Int.not_lt] at q3
        obtain ⟨j1, j2⟩ := sz_ch (chs_get hn k) (by omega) i2 q3
        have e : Zdv.acc l 0 (left - (l.length : Int)) (k + 1) = Zdu.S (l.getD k zCh) (Zdv.acc l 0 (left - (l.length : Int)) k) := by
          simp only [Zdv.acc, Zdv.A]
          rw [show decide (Zdu.S (l.getD k zCh) (Zdv.acc l 0 (left - (l.length : Int)) k) < 0) = false by rw [decide_eq_false_iff_not, Int.not_lt]; exact q3, cond_false]
        rw [e]
        refine ⟨by omega, q3, fun j hj => ?_⟩
        rcases Nat.lt_or_ge j k with h' | h'
        · exact i3 j h'
        · obtain rfl : j = k := by omega
          exact j1
    obtain ⟨i1, i2, i3⟩ := key l.length (Nat.le_refl _)
    refine ⟨⟨by omega, fun k => ?_⟩, ?_⟩
    · rcases Nat.lt_or_ge k l.length with h' | h'
      · exact i3 k h'
      · rw [List.getD_eq_getElem?_getD, List.getElem?_eq_none h']
        simp [zCh, St.sm, Ch.sm, Bk.sm, stsSm, zSt, zBk]
    · rw [q2]
      exact i1
  · rw [q2] at h1
    simp only [Zdv.E, E_some, reduceCtorEq, and_false, or_false, Option.some.injEq] at q1
    obtain ⟨q3, rfl⟩ := q1
    exact absurd h1 (by show ¬ (0 : Int) ≤ -1; decide)
theorem sz_world {l : List Ch} (hn : chsFact l) (h : decide (Zdx.S l 1048576 < 0) = false) : chsSm l := by
  rw [decide_eq_false_iff_not, Int.not_lt] at h
  unfold Zdx.S at h
  obtain ⟨g1, h1, e1⟩ := bif_nn h
  exact (sz_chs hn (by decide) (by decide) h1).1
theorem to_ints {l : List Int} (h : l.length ≤ 4294967296) : Zdz.S l = l := by
  unfold Zdz.S
  rcases Zdy.law l (List.replicate ((l.length : Int)).toNat (0 : Int)) l.length rfl (by omega) with ⟨q1, q2⟩ | ⟨k, r, hk, q1, -, q2⟩
  · rw [q2]
    refine fill_eq (z := (0 : Int)) (acc := Zdy.acc l (List.replicate ((l.length : Int)).toNat (0 : Int))) (by show (List.replicate ((l.length : Int)).toNat (0 : Int)).length = l.length; simp) fun k => ?_
    show (Zdy.acc l _ k).set k (l.getD k (0 : Int)) = _
    rfl
  · simp [Zdy.E] at q1
theorem to_bools {l : List Bool} (h : l.length ≤ 4294967296) : ZdF.S l = l := by
  unfold ZdF.S
  rcases ZdE.law l (List.replicate ((l.length : Int)).toNat false) l.length rfl (by omega) with ⟨q1, q2⟩ | ⟨k, r, hk, q1, -, q2⟩
  · rw [q2]
    refine fill_eq (z := false) (acc := ZdE.acc l (List.replicate ((l.length : Int)).toNat false)) (by show (List.replicate ((l.length : Int)).toNat false).length = l.length; simp) fun k => ?_
    show (ZdE.acc l _ k).set k (l.getD k false) = _
    rfl
  · simp [ZdE.E] at q1
theorem to_pkts {l : List Pkt} (h : l.length ≤ 4294967296) : ZdD.S l = l := by
  unfold ZdD.S
  rcases ZdC.law l (List.replicate ((l.length : Int)).toNat zPkt) l.length rfl (by omega) with ⟨q1, q2⟩ | ⟨k, r, hk, q1, -, q2⟩
  · rw [q2]
    refine fill_eq (z := zPkt) (acc := ZdC.acc l (List.replicate ((l.length : Int)).toNat zPkt)) (by show (List.replicate ((l.length : Int)).toNat zPkt).length = l.length; simp) fun k => ?_
    show (ZdC.acc l _ k).set k (l.getD k zPkt) = _
    rfl
  · simp [ZdC.E] at q1
theorem to_bk {b : Bk} (h : b.sm) : ZdA.S b = b := by
  unfold ZdA.S
  rw [to_ints h.1, to_ints h.2]
theorem to_st {s : St} (h : s.sm) : ZdG.S s = s := by
  unfold ZdG.S
  rw [to_pkts h.1, to_bools h.2.1, to_bools h.2.2.1, to_ints h.2.2.2]
theorem to_sts {l : List St} (h : stsSm l) : ZdI.S l = l := by
  unfold ZdI.S
  rcases ZdH.law l (List.replicate ((l.length : Int)).toNat zSt) l.length rfl (by have := h.1; omega) with ⟨q1, q2⟩ | ⟨k, r, hk, q1, -, q2⟩
  · rw [q2]
    refine fill_eq (z := zSt) (acc := ZdH.acc l (List.replicate ((l.length : Int)).toNat zSt)) (by show (List.replicate ((l.length : Int)).toNat zSt).length = l.length; simp) fun k => ?_
    show (ZdH.acc l _ k).set k (ZdG.S (l.getD k zSt)) = _
    rw [to_st (h.2 k)]
  · simp [ZdH.E] at q1
theorem to_ch {c : Ch} (h : c.sm) : ZdJ.S c = c := by
  unfold ZdJ.S
  rw [to_bk h.1, to_st h.2.1, to_sts h.2.2.1, to_ints h.2.2.2]
theorem to_chs {l : List Ch} (h : chsSm l) : ZdL.S l = l := by
  unfold ZdL.S
  rcases ZdK.law l (List.replicate ((l.length : Int)).toNat zCh) l.length rfl (by have := h.1; omega) with ⟨q1, q2⟩ | ⟨k, r, hk, q1, -, q2⟩
  · rw [q2]
    refine fill_eq (z := zCh) (acc := ZdK.acc l (List.replicate ((l.length : Int)).toNat zCh)) (by show (List.replicate ((l.length : Int)).toNat zCh).length = l.length; simp) fun k => ?_
    show (ZdK.acc l _ k).set k (ZdJ.S (l.getD k zCh)) = _
    rw [to_ch (h.2 k)]
  · simp [ZdK.E] at q1
theorem to_world {l : List Ch} (h : chsSm l) : ZdM.S l = l := to_chs h
theorem eq_ints {l : List Int} (h : (l.length : Int) ≤ 9223372036854775807) : ZdO.S l l = true := by
  unfold ZdO.S
  rcases ZdN.law l l false () l.length rfl h with ⟨q1, q2⟩ | ⟨k, r, hk, q1, -, q2⟩
  · rw [q2]
    simp [ZdN.fin, show Nat.beq 1 0 = false from rfl]
  · simp [ZdN.E] at q1
theorem eq_bools {l : List Bool} (h : (l.length : Int) ≤ 9223372036854775807) : ZdU.S l l = true := by
  unfold ZdU.S
  rcases ZdT.law l l false () l.length rfl h with ⟨q1, q2⟩ | ⟨k, r, hk, q1, -, q2⟩
  · rw [q2]
    simp [ZdT.fin, show Nat.beq 1 0 = false from rfl]
  · simp [ZdT.E] at q1
theorem eq_pkt {p : Pkt} : ZdQ.S p p = true := by simp [ZdQ.S]
theorem eq_pkts {l : List Pkt} (h : (l.length : Int) ≤ 9223372036854775807) : ZdS.S l l = true := by
  unfold ZdS.S
  rcases ZdR.law l l false () l.length rfl h with ⟨q1, q2⟩ | ⟨k, r, hk, q1, -, q2⟩
  · rw [q2]
    simp [ZdR.fin, show Nat.beq 1 0 = false from rfl]
  · simp [ZdR.E, eq_pkt] at q1
theorem eq_bk {b : Bk} (h : b.fact) : ZdP.S b b = true := by simp [ZdP.S, eq_ints h.1, eq_ints h.2]
theorem eq_st {s : St} (h : s.fact) : ZdV.S s s = true := by simp [ZdV.S, eq_pkts h.1, eq_bools h.2.1, eq_bools h.2.2.1, eq_ints h.2.2.2]
theorem eq_st' {l : List St} (h : stsFact l) (k : Nat) : ZdV.S (l.getD k zSt) (l.getD k zSt) = true := eq_st (sts_get h k)
theorem eq_sts {l : List St} (h : stsFact l) : ZdX.S l l = true := by
  unfold ZdX.S
  rcases ZdW.law l l false () l.length rfl h.1 with ⟨q1, q2⟩ | ⟨k, r, hk, q1, -, q2⟩
  · rw [q2]
    simp [ZdW.fin, show Nat.beq 1 0 = false from rfl]
  · rw [ZdW.E, eq_st' h k] at q1
    cases q1
theorem eq_ch {c : Ch} (h : c.fact) : ZdY.S c c = true := by simp [ZdY.S, eq_bk h.1, eq_st h.2.1, eq_sts h.2.2.1, eq_ints h.2.2.2]
theorem eq_chs {l : List Ch} (h : chsFact l) : Zd0.S l l = true := by
  unfold Zd0.S
  rcases ZdZ.law l l false () l.length rfl h.1 with ⟨q1, q2⟩ | ⟨k, r, hk, q1, -, q2⟩
  · rw [q2]
    simp [ZdZ.fin, show Nat.beq 1 0 = false from rfl]
  · rw [ZdZ.E, eq_ch (chs_get h k)] at q1
    cases q1
theorem eq_world {l : List Ch} (h : chsFact l) : Zd1.S l l = true := by simp [Zd1.S, eq_chs h]
end Hw
end Go.Proofs.Ytfboldbfbmmahaa
