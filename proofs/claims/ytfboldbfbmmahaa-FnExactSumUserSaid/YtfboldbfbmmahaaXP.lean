/- How much a law writes over, and what it writes over: plain laws. -/
import Derived.Test.YtfboldbfbmmahaaXO
import Derived.Test.YtfboldbfbmmahaaXN
set_option linter.unusedVariables false
set_option linter.unusedSimpArgs false
set_option maxRecDepth 100000
namespace Go.Proofs.Ytfboldbfbmmahaa
namespace Hw
open Go
theorem cz_ints {l : List Int} {left : Int} (hn : (l.length : Int) ≤ 9223372036854775807) (hl : left ≤ 1048576) (h0 : 0 ≤ left) (h : 0 ≤ Zdn.S l left) : (l.length : Int) = left - Zdn.S l left := by
  obtain ⟨h1, h2⟩ := sz_row hn hl h0 h
  unfold Zdn.S; rw [h2]; omega
theorem cz_pkts {l : List Pkt} {left : Int} (hn : (l.length : Int) ≤ 9223372036854775807) (hl : left ≤ 1048576) (h0 : 0 ≤ left) (h : 0 ≤ Zdp.S l left) : (l.length : Int) = left - Zdp.S l left := by
  obtain ⟨h1, h2⟩ := sz_row hn hl h0 h
  unfold Zdp.S; rw [h2]; omega
theorem cz_bools {l : List Bool} {left : Int} (hn : (l.length : Int) ≤ 9223372036854775807) (hl : left ≤ 1048576) (h0 : 0 ≤ left) (h : 0 ≤ Zdq.S l left) : (l.length : Int) = left - Zdq.S l left := by
  obtain ⟨h1, h2⟩ := sz_row hn hl h0 h
  unfold Zdq.S; rw [h2]; omega
theorem cz_bk {b : Bk} {left : Int} (hn : b.fact) (hl : left ≤ 1048576) (h0 : 0 ≤ left) (h : 0 ≤ Zdo.S b left) : (b.own.length : Int) + b.notes.length = left - Zdo.S b left := by
  unfold Zdo.S at *
  obtain ⟨g1, h1, e1⟩ := bif_nn h
  rw [e1]
  obtain ⟨g2, h2, e2⟩ := bif_nn h1
  rw [e2]
  rw [decide_eq_false_iff_not, Int.not_lt] at g1
  have k1 := cz_ints hn.1 hl h0 g1
  have k3 := cz_ints hn.2 (by omega) g1 h2
  omega
theorem cz_st {s : St} {left : Int} (hn : s.fact) (hl : left ≤ 1048576) (h0 : 0 ≤ left) (h : 0 ≤ Zdr.S s left) : (s.sent.length : Int) + s.live.length + s.back.length + s.got.length = left - Zdr.S s left := by
  unfold Zdr.S at *
  obtain ⟨g1, h1, e1⟩ := bif_nn h
  rw [e1]
  obtain ⟨g2, h2, e2⟩ := bif_nn h1
  rw [e2]
  obtain ⟨g3, h3, e3⟩ := bif_nn h2
  rw [e3]
  obtain ⟨g4, h4, e4⟩ := bif_nn h3
  rw [e4]
  rw [decide_eq_false_iff_not, Int.not_lt] at g1 g2 g3
  have k1 := cz_pkts hn.1 hl h0 g1
  have k2 := cz_bools hn.2.1 (by omega) g1 g2
  have k3 := cz_bools hn.2.2.1 (by omega) g2 g3
  have k4 := cz_ints hn.2.2.2 (by omega) g3 h4
  omega
theorem cz_sts {l : List St} {left : Int} (hn : stsFact l) (hl : left ≤ 1048576) (h0 : 0 ≤ left) (h : 0 ≤ Zdt.S l left) : (stsN l l.length : Int) ≤ 7 * (left - Zdt.S l left) ∧ Zdt.S l left ≤ left := by
  have hlen : (l.length : Int) ≤ 9223372036854775807 := hn.1
  unfold Zdt.S at *
  obtain ⟨g1, h1, e1⟩ := bif_nn h
  rw [e1]
  rw [decide_eq_false_iff_not, Int.not_lt] at g1
  rw [wrap_id (n := left - (l.length : Int)) (by omega) (by omega)] at *
  rcases Zds.law l 0 (left - (l.length : Int)) l.length rfl hlen with ⟨q1, q2⟩ | ⟨k, r, hk, q1, -, q2⟩
  · have key : ∀ k, k ≤ l.length → Zds.acc l 0 (left - (l.length : Int)) k ≤ left - (l.length : Int) ∧ 0 ≤ Zds.acc l 0 (left - (l.length : Int)) k ∧ (stsN l k : Int) ≤ 3 * k + 7 * (left - (l.length : Int) - Zds.acc l 0 (left - (l.length : Int)) k) := by
      intro k
      induction k with
      | zero => intro _; exact ⟨Int.le_refl _, g1, by show (0 : Int) ≤ 3 * 0 + 7 * (left - (l.length : Int) - (left - (l.length : Int))); omega⟩
      | succ k ih =>
        intro hk
        obtain ⟨i1, i2, i3⟩ := ih (by omega)
        have q3 := q1 k (by omega)
        simp only [Zds.E, E_none, reduceCtorEq, and_false, false_or, and_true, decide_eq_false_iff_not, Int.not_lt] at q3
        obtain ⟨j1, j2⟩ := sz_st (sts_get hn k) (by omega) i2 q3
        have j3 := cz_st (sts_get hn k) (by omega) i2 q3
        have e : Zds.acc l 0 (left - (l.length : Int)) (k + 1) = Zdr.S (l.getD k zSt) (Zds.acc l 0 (left - (l.length : Int)) k) := by
          simp only [Zds.acc, Zds.A]
          rw [show decide (Zdr.S (l.getD k zSt) (Zds.acc l 0 (left - (l.length : Int)) k) < 0) = false by rw [decide_eq_false_iff_not, Int.not_lt]; exact q3, cond_false]
        rw [e]
        refine ⟨by omega, q3, ?_⟩
        have e2 : stsN l (k + 1) = stsN l k + stN (l.getD k zSt) := rfl
        have e3 : stN (l.getD k zSt) = 3 + 7 * (l.getD k zSt).sent.length + (l.getD k zSt).live.length + (l.getD k zSt).back.length + (l.getD k zSt).got.length := rfl
        omega
    obtain ⟨i1, i2, i3⟩ := key l.length (Nat.le_refl _)
    rw [q2]
    have e4 : (Zds.acc l 0 (left - (l.length : Int)) l.length) = (Zds.acc l 0 (left - (l.length : Int)) l.length) := rfl
    constructor
    · show (stsN l l.length : Int) ≤ 7 * (left - Zds.acc l 0 (left - (l.length : Int)) l.length)
      omega
    · show Zds.acc l 0 (left - (l.length : Int)) l.length ≤ left
      omega
  · rw [q2] at h1
    simp only [Zds.E, E_some, reduceCtorEq, and_false, or_false, Option.some.injEq] at q1
    obtain ⟨q3, rfl⟩ := q1
    exact absurd h1 (by show ¬ (0 : Int) ≤ -1; decide)
theorem cz_ch {c : Ch} {left : Int} (hn : c.fact) (hl : left ≤ 1048576) (h0 : 0 ≤ left) (h : 0 ≤ Zdu.S c left) : (chN c : Int) ≤ 5 + 7 * (left - Zdu.S c left) := by
  unfold Zdu.S at *
  obtain ⟨g1, h1, e1⟩ := bif_nn h
  rw [e1]
  obtain ⟨g2, h2, e2⟩ := bif_nn h1
  rw [e2]
  obtain ⟨g3, h3, e3⟩ := bif_nn h2
  rw [e3]
  obtain ⟨g4, h4, e4⟩ := bif_nn h3
  rw [e4]
  rw [decide_eq_false_iff_not, Int.not_lt] at g1 g2 g3
  obtain ⟨-, j1⟩ := sz_bk hn.1 hl h0 g1
  have k1 := cz_bk hn.1 hl h0 g1
  obtain ⟨-, j2⟩ := sz_st hn.2.1 (by omega) g1 g2
  have k2 := cz_st hn.2.1 (by omega) g1 g2
  obtain ⟨k3, j3⟩ := cz_sts hn.2.2.1 (by omega) g2 g3
  have k4 := cz_ints hn.2.2.2 (by omega) g3 h4
  unfold chN
  omega
theorem cz_chs {l : List Ch} {left : Int} (hn : chsFact l) (hl : left ≤ 1048576) (h0 : 0 ≤ left) (h : 0 ≤ Zdw.S l left) : (chsN l l.length : Int) ≤ 7 * (left - Zdw.S l left) := by
  have hlen : (l.length : Int) ≤ 9223372036854775807 := hn.1
  unfold Zdw.S at *
  obtain ⟨g1, h1, e1⟩ := bif_nn h
  rw [e1]
  rw [decide_eq_false_iff_not, Int.not_lt] at g1
  rw [wrap_id (n := left - (l.length : Int)) (by omega) (by omega)] at *
  rcases Zdv.law l 0 (left - (l.length : Int)) l.length rfl hlen with ⟨q1, q2⟩ | ⟨k, r, hk, q1, -, q2⟩
  · have key : ∀ k, k ≤ l.length → Zdv.acc l 0 (left - (l.length : Int)) k ≤ left - (l.length : Int) ∧ 0 ≤ Zdv.acc l 0 (left - (l.length : Int)) k ∧ (chsN l k : Int) ≤ 5 * k + 7 * (left - (l.length : Int) - Zdv.acc l 0 (left - (l.length : Int)) k) := by
      intro k
      induction k with
      | zero => intro _; exact ⟨Int.le_refl _, g1, by show (0 : Int) ≤ 5 * 0 + 7 * (left - (l.length : Int) - (left - (l.length : Int))); omega⟩
      | succ k ih =>
        intro hk
        obtain ⟨i1, i2, i3⟩ := ih (by omega)
        have q3 := q1 k (by omega)
        simp only [Zdv.E, E_none, reduceCtorEq, and_false, false_or, and_true, decide_eq_false_iff_not, Int.not_lt] at q3
        obtain ⟨j1, j2⟩ := sz_ch (chs_get hn k) (by omega) i2 q3
        have j3 := cz_ch (chs_get hn k) (by omega) i2 q3
        have e : Zdv.acc l 0 (left - (l.length : Int)) (k + 1) = Zdu.S (l.getD k zCh) (Zdv.acc l 0 (left - (l.length : Int)) k) := by
          simp only [Zdv.acc, Zdv.A]
          rw [show decide (Zdu.S (l.getD k zCh) (Zdv.acc l 0 (left - (l.length : Int)) k) < 0) = false by rw [decide_eq_false_iff_not, Int.not_lt]; exact q3, cond_false]
        rw [e]
        refine ⟨by omega, q3, ?_⟩
        have e2 : chsN l (k + 1) = chsN l k + chN (l.getD k zCh) := rfl
        omega
    obtain ⟨i1, i2, i3⟩ := key l.length (Nat.le_refl _)
    rw [q2]
    show (chsN l l.length : Int) ≤ 7 * (left - Zdv.acc l 0 (left - (l.length : Int)) l.length)
    omega
  · rw [q2] at h1
    simp only [Zdv.E, E_some, reduceCtorEq, and_false, or_false, Option.some.injEq] at q1
    obtain ⟨q3, rfl⟩ := q1
    exact absurd h1 (by show ¬ (0 : Int) ≤ -1; decide)
theorem cz_world {l : List Ch} (hn : chsFact l) (h : decide (Zdx.S l 1048576 < 0) = false) : (chsN l l.length : Int) ≤ 7340032 := by
  rw [decide_eq_false_iff_not, Int.not_lt] at h
  unfold Zdx.S at h
  obtain ⟨g1, h1, e1⟩ := bif_nn h
  have := cz_chs hn (by decide) (by decide) h1
  omega
theorem spot_none' {w : World} {ad : Addr} {u : Value} (h : w.cell? ad = some u) : ad.spot = none := by
  unfold World.cell? at h
  cases hs : ad.spot with
  | none => rfl
  | some x =>
    rw [hs] at h
    split at h
    · simp at h
    · cases h
theorem add_none' (b off n : Nat) : (⟨b, off, none⟩ : Addr).add n = ⟨b, off + n, none⟩ := by unfold Addr.add; split <;> simp_all
theorem rowW_of {w : World} {S : Nat → Prop} {d : Nat} {a : Arr} {v : Value} {n z : Nat} {P : Nat → Nat → Value → Prop} (h : arrR w S (d + 1) a v) (hn : n = a.len) (hz : z = a.esz) (h1 : 0 < z)
    (hP : ∀ k, k < a.len → ∀ j, j < z → ∃ x, ((a.get k).cells true)[j]? = some x ∧ ∀ u, elC (arrR w S d) x u → P k j u) : RowW w S v n z P := by
  subst hn
  subst hz
  obtain ⟨A, c, rfl, h2, h3, h4⟩ := h
  refine ⟨A, c, rfl, h3, fun h0 => ?_⟩
  obtain ⟨ad, rfl, h5, h6⟩ := h4 0 h0
  obtain ⟨x, hx, -⟩ := hP 0 h0 0 h1
  obtain ⟨u, h7, -⟩ := h6 0 x hx
  have hs := spot_none' h7
  have hs' : ad.spot = none := by
    have e : ad.add (0 * a.esz + 0) = ad := by unfold Addr.add; simp
    rwa [e] at hs
  obtain ⟨b, off, sp⟩ := ad
  have hs' : sp = none := hs'
  subst hs'
  refine ⟨b, off, rfl, h5, fun k hk j hj => ?_⟩
  obtain ⟨ad', e', h8, h9⟩ := h4 k hk
  cases e'
  obtain ⟨y, hy, hP'⟩ := hP k hk j hj
  obtain ⟨u, h10, h11⟩ := h9 j y hy
  rw [add_none'] at h10
  exact ⟨u, h10, hP' u h11⟩
section
variable {w : World} {S : Nat → Prop} {d : Nat} {v : Value}
theorem intsW_of {l : List Int} (h : arrR w S (d + 1) (.ints l) v) : IntsW w S l.length v := rowW_of h rfl rfl (by decide) fun k hk j hj => by
  obtain rfl : j = 0 := by omega
  exact ⟨_, rfl, fun u hu => ⟨_, hu⟩⟩
theorem boolsW_of {l : List Bool} (h : arrR w S (d + 1) (.bools l) v) : BoolsW w S l.length v := rowW_of h rfl rfl (by decide) fun k hk j hj => by
  obtain rfl : j = 0 := by omega
  exact ⟨_, rfl, fun u hu => ⟨_, hu⟩⟩
theorem pktsW_of {l : List Pkt} (h : arrR w S (d + 1) (.pkts l) v) : PktsW w S l.length v := rowW_of h rfl rfl (by decide) fun k hk j hj => by
  match j, hj with
  | 0, _ => exact ⟨_, rfl, fun u hu => ⟨_, hu⟩⟩
  | 1, _ => exact ⟨_, rfl, fun u hu => ⟨_, hu⟩⟩
  | 2, _ => exact ⟨_, rfl, fun u hu => ⟨_, hu⟩⟩
  | 3, _ => exact ⟨_, rfl, fun u hu => ⟨_, hu⟩⟩
  | 4, _ => exact ⟨_, rfl, fun u hu => ⟨_, hu⟩⟩
  | 5, _ => exact ⟨_, rfl, fun u hu => ⟨_, hu⟩⟩
  | 6, _ => exact ⟨_, rfl, fun u hu => ⟨_, hu⟩⟩
theorem stsW_of {l : List St} (h : arrR w S (d + 2) (.sts l) v) : StsW w S l v := rowW_of h rfl rfl (by decide) fun k hk j hj => by
  match j, hj with
  | 0, _ => exact ⟨_, rfl, fun u hu => ⟨_, hu⟩⟩
  | 1, _ => exact ⟨_, rfl, fun u hu => ⟨_, hu⟩⟩
  | 2, _ => exact ⟨_, rfl, fun u hu => ⟨_, hu⟩⟩
  | 3, _ => exact ⟨_, rfl, fun u hu => pktsW_of (d := d) hu⟩
  | 4, _ => exact ⟨_, rfl, fun u hu => boolsW_of (d := d) hu⟩
  | 5, _ => exact ⟨_, rfl, fun u hu => boolsW_of (d := d) hu⟩
  | 6, _ => exact ⟨_, rfl, fun u hu => intsW_of (d := d) hu⟩
theorem chsW_of {l : List Ch} (h : arrR w S (d + 3) (.chs l) v) : ChsW w S l v := rowW_of h rfl rfl (by decide) fun k hk j hj => by
  match j, hj with
  | 0, _ => exact ⟨_, rfl, fun u hu => ⟨_, hu⟩⟩
  | 1, _ => exact ⟨_, rfl, fun u hu => intsW_of (d := d + 1) hu⟩
  | 2, _ => exact ⟨_, rfl, fun u hu => intsW_of (d := d + 1) hu⟩
  | 3, _ => exact ⟨_, rfl, fun u hu => ⟨_, hu⟩⟩
  | 4, _ => exact ⟨_, rfl, fun u hu => ⟨_, hu⟩⟩
  | 5, _ => exact ⟨_, rfl, fun u hu => ⟨_, hu⟩⟩
  | 6, _ => exact ⟨_, rfl, fun u hu => ⟨_, hu⟩⟩
  | 7, _ => exact ⟨_, rfl, fun u hu => pktsW_of (d := d + 1) hu⟩
  | 8, _ => exact ⟨_, rfl, fun u hu => boolsW_of (d := d + 1) hu⟩
  | 9, _ => exact ⟨_, rfl, fun u hu => boolsW_of (d := d + 1) hu⟩
  | 10, _ => exact ⟨_, rfl, fun u hu => intsW_of (d := d + 1) hu⟩
  | 11, _ => exact ⟨_, rfl, fun u hu => stsW_of (d := d) hu⟩
  | 12, _ => exact ⟨_, rfl, fun u hu => intsW_of (d := d + 1) hu⟩
end
section
variable {n : Nat} {W : World} {F : Nat → Prop} {l : List Ch} {v : Value} {a : List Int}
theorem mkW (hn : 3 ≤ n) (hv : WAt W F l v) (hu : UnfR F W) (hf : chsFact l) (h : decide (Zdx.S l 1048576 < 0) = false) : CallsIn Fence.wide n Try.prog 24 #[v, .int .i64 1] W fun e W' => (∃ k : Int, 0 ≤ k ∧ k ≤ 9000000 ∧ e = .returned (.int .i64 k)) ∧ Mk F W W' := by
  obtain ⟨-, x, rfl, hx⟩ := hv
  have hs := sz_world hf h
  have hc := cz_world hf h
  refine (markWorld_in Fence.wide n trivial trivial trivial trivial trivial trivial rfl hn F l x 1 W hu (chsW_of (d := 1) hx) (by decide) (by omega) (fun j hj => ⟨(hs.2 j).2.1.1, fun i hi => ((hs.2 j).2.2.1.2 i).1⟩)).mono ?_
  rintro e W' ⟨rfl, hm⟩
  exact ⟨⟨_, by omega, by omega, rfl⟩, hm⟩
theorem mkI (hv : LAt W F a v) (hu : UnfR F W) (hl : a.length ≤ 1000) : CallsIn Fence.wide n Try.prog 25 #[v, .int .i64 1] W fun e W' => e = .returned (.int .i64 (1 + a.length)) ∧ Mk F W W' ∧ ∃ A c, v = .slice A a.length c ∧ (0 < a.length → ∃ b off, A = some ⟨b, off, none⟩ ∧ F b ∧ ∀ t, t < a.length → W'.cell? ⟨b, off + t, none⟩ = some (.int .i64 (1 + t))) := by
  have hi := intsW_of (d := 3) hv.2
  refine (markInts_in Fence.wide n trivial rfl F a.length v 1 W hu hi (by decide) (by omega)).mono ?_
  rintro e W' ⟨rfl, hm, hc⟩
  obtain ⟨A, c, rfl, -, h2⟩ := hi
  refine ⟨rfl, hm, A, c, rfl, fun h0 => ?_⟩
  obtain ⟨b, off, rfl, h3, -⟩ := h2 h0
  exact ⟨b, off, rfl, h3, hc b off c rfl⟩
end
end Hw
end Go.Proofs.Ytfboldbfbmmahaa
