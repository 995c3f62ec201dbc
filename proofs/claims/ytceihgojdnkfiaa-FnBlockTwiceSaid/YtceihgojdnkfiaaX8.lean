/- The operations one by one. Part 6: append; literals of slices and structs. -/
import Derived.Test.YtceihgojdnkfiaaX7
set_option linter.unusedVariables false
set_option linter.unusedSimpArgs false
namespace Go.Proofs.Ytceihgojdnkfiaa
namespace Hw
open Go

theorem app_spec {a b c : Arr} (h : a.app b = some c) : c.len = a.len + b.len ∧ c.esz = a.esz ∧ b.esz = a.esz ∧ (∀ j, j < a.len → c.get j = a.get j) ∧ ∀ j, j < b.len → c.get (a.len + j) = b.get j := by
  cases a <;> cases b <;> simp only [Arr.app, Option.some.injEq, reduceCtorEq] at h
  all_goals
    subst h
    refine ⟨by simp [Arr.len], rfl, rfl, fun j hj => ?_, fun j hj => ?_⟩
    · simp only [Arr.len] at hj
      simp [Arr.get, List.getD_eq_getElem?_getD, List.getElem?_append_left hj]
    · simp only [Arr.len] at hj ⊢
      simp [Arr.get, List.getD_eq_getElem?_getD, List.getElem?_append_right]
theorem nil_spec (k : EK) : (Arr.nil k).len = 0 ∧ (Arr.nil k).esz = k.size := by cases k <;> exact ⟨rfl, rfl⟩
def rowL (C : Cx) (a : Arr) (us : List Value) : Prop := us.length = a.len * a.esz ∧ ∀ k : Nat, k < a.len → ∀ (j : Nat) (x : Cell), ((a.get k).cells true)[j]? = some x → ∃ u, us[k * a.esz + j]? = some u ∧ elC (arrR C.w C.frz 3) x u
theorem elC_one {R : Arr → Value → Prop} (hR : ∀ a v, R a v → v.oneCell' = true) {x : Cell} {u : Value} (h : elC R x u) : u.oneCell' = true := by
  cases x <;> simp only [elC] at h <;> first | (subst h; rfl) | (subst h; unfold fnVal; split <;> rfl) | exact hR _ _ h
theorem arrR_one {w : World} {S : Nat → Prop} {d : Nat} {a : Arr} {v : Value} (h : arrR w S d a v) : v.oneCell' = true := by
  cases d with
  | zero => exact h.elim
  | succ d => obtain ⟨A, c, rfl, _⟩ := h; rfl
theorem rowL_one {C : Cx} {a : Arr} {us : List Value} (hs : 0 < a.esz) (h : rowL C a us) : ∀ u ∈ us, u.oneCell' = true := by
  intro u hu
  obtain ⟨q, hq, rfl⟩ := List.mem_iff_getElem.1 hu
  have hk : q / a.esz < a.len := by rw [Nat.div_lt_iff_lt_mul hs, ← h.1]; exact hq
  have hj : q % a.esz < ((a.get (q / a.esz)).cells true).length := by rw [cells_len]; exact Nat.mod_lt _ hs
  obtain ⟨u, h1, h2⟩ := h.2 _ hk _ _ (List.getElem?_eq_getElem hj)
  have e : q / a.esz * a.esz + q % a.esz = q := by rw [Nat.mul_comm]; exact Nat.div_add_mod _ _
  rw [e, List.getElem?_eq_getElem hq, Option.some.injEq] at h1
  rw [h1]
  exact elC_one (fun _ _ h => arrR_one h) h2
theorem esz_pos (a : Arr) : 0 < a.esz := a.ek.size_pos
theorem rowL_app {C : Cx} {a b c : Arr} {us vs : List Value} (h : a.app b = some c) (ha : rowL C a us) (hb : rowL C b vs) : rowL C c (us ++ vs) := by
  obtain ⟨s1, s2, s3, s4, s5⟩ := app_spec h
  refine ⟨by rw [List.length_append, ha.1, hb.1, s1, s2, s3, Nat.add_mul], fun k hk j x hj => ?_⟩
  rw [s1] at hk
  have hjl : j < a.esz := by have := (List.getElem?_eq_some_iff.1 hj).1; rw [cells_len, s2] at this; exact this
  by_cases hka : k < a.len
  · rw [s4 k hka] at hj
    obtain ⟨u, h1, h2⟩ := ha.2 k hka j x hj
    refine ⟨u, ?_, h2⟩
    have := row_fit hka (Nat.le_refl (a.len * a.esz))
    rw [s2, List.getElem?_append_left (by rw [ha.1]; omega)]
    exact h1
  · obtain ⟨q, rfl⟩ : ∃ q, k = a.len + q := ⟨k - a.len, by omega⟩
    have hq : q < b.len := by omega
    rw [s5 q hq] at hj
    obtain ⟨u, h1, h2⟩ := hb.2 q hq j x hj
    refine ⟨u, ?_, h2⟩
    rw [s2, List.getElem?_append_right (by rw [ha.1, Nat.add_mul]; omega), ha.1, Nat.add_mul]
    rw [s3] at h1
    rw [show a.len * a.esz + q * a.esz + j - a.len * a.esz = q * a.esz + j by omega]
    exact h1
theorem list_of_cells (w : World) (ad : Addr) (n : Nat) (h : ∀ q, q < n → ∃ u, w.cell? (ad.add q) = some u) : ∃ us : List Value, us.length = n ∧ ∀ q u, us[q]? = some u ↔ q < n ∧ w.cell? (ad.add q) = some u := by
  refine ⟨(List.range n).map fun q => (w.cell? (ad.add q)).getD undef, by simp, fun q u => ?_⟩
  by_cases hq : q < n
  · obtain ⟨u', h1⟩ := h q hq
    rw [List.getElem?_map, List.getElem?_range hq]
    simp [h1, hq]
  · rw [List.getElem?_eq_none (by simp; omega)]
    simp [hq]
theorem src_ok {C : Cx} {H : Hp} {k : EK} {x : Cell} {v : Value} {b : Arr} {rd : List Nat} (hI : Inv C H) (hx : cellR C x v) (h : asSrc k H x = some (b, rd)) :
    ∃ A c news, v = .slice A b.len c ∧ rowL C b news ∧ (b.len : Int) ≤ big ∧ ((A = none ∧ news = []) ∨ ∃ ad, A = some ad ∧ ∀ j u, news[j]? = some u → C.w.cell? (ad.add j) = some u) := by
  have gen : ∀ (A : Option Addr) (hr : ∀ k : Nat, k < b.len → ∃ ad, A = some ad ∧ ∀ (j : Nat) (x : Cell), ((b.get k).cells true)[j]? = some x → ∃ u, C.w.cell? (ad.add (k * b.esz + j)) = some u ∧ elC (arrR C.w C.frz 3) x u),
      ∃ news, rowL C b news ∧ ((A = none ∧ news = []) ∨ ∃ ad, A = some ad ∧ ∀ j u, news[j]? = some u → C.w.cell? (ad.add j) = some u) := by
    intro A hr
    cases A with
    | none =>
      have h0 : b.len = 0 := by
        rcases Nat.eq_zero_or_pos b.len with h0 | h0
        · exact h0
        · obtain ⟨ad, h1, _⟩ := hr 0 h0; cases h1
      exact ⟨[], ⟨by simp [h0], fun k hk => by omega⟩, .inl ⟨rfl, rfl⟩⟩
    | some ad =>
      obtain ⟨us, h1, h2⟩ := list_of_cells C.w ad (b.len * b.esz) (fun q hq => by
        have hs := esz_pos b
        have hk : q / b.esz < b.len := by rw [Nat.div_lt_iff_lt_mul hs]; exact hq
        have hj : q % b.esz < ((b.get (q / b.esz)).cells true).length := by rw [cells_len]; exact Nat.mod_lt _ hs
        obtain ⟨ad', e, h3⟩ := hr _ hk
        cases e
        obtain ⟨u, h4, _⟩ := h3 _ _ (List.getElem?_eq_getElem hj)
        have e : q / b.esz * b.esz + q % b.esz = q := by rw [Nat.mul_comm]; exact Nat.div_add_mod _ _
        rw [e] at h4
        exact ⟨u, h4⟩)
      refine ⟨us, ⟨h1, fun k hk j x hj => ?_⟩, .inr ⟨ad, rfl, fun j u hu => ((h2 j u).1 hu).2⟩⟩
      obtain ⟨ad', e, h3⟩ := hr k hk
      cases e
      obtain ⟨u, h4, h5⟩ := h3 j x hj
      have hjl : j < b.esz := by have := (List.getElem?_eq_some_iff.1 hj).1; rw [cells_len] at this; exact this
      exact ⟨u, (h2 _ u).2 ⟨by have := row_fit hk (Nat.le_refl (b.len * b.esz)); omega, h4⟩, h5⟩
  unfold asSrc at h
  split at h
  · rename_i z b'
    cases hz : (z || b'.flat) with
    | false => rw [hz] at h; cases h
    | true =>
      rw [hz] at h
      simp only [cond_true, Option.some.injEq, Prod.mk.injEq] at h
      obtain ⟨rfl, rfl⟩ := h
      obtain ⟨A, c, rfl, h1, h2, h3⟩ := hx
      obtain ⟨news, h4, h5⟩ := gen A (fun k hk => by
        obtain ⟨ad, e, _, h4⟩ := h3 k hk
        refine ⟨ad, e, fun j x hj => ?_⟩
        obtain ⟨u, h5, h6⟩ := h4 j x hj
        refine ⟨u, h5, ?_⟩
        cases z with
        | true => exact h6
        | false =>
          refine elC_imp h6 fun y a he _ => ?_
          subst he
          have := cells_rk (List.mem_of_getElem? hj)
          cases b' <;> simp [Arr.rk, Arr.flat] at this hz)
      exact ⟨A, c, news, rfl, h4, h2, h5⟩
  · simp only [Option.some.injEq, Prod.mk.injEq] at h
    obtain ⟨rfl, rfl⟩ := h
    simp only [cellR] at hx
    subst hx
    have hn := nil_spec k
    exact ⟨none, 0, [], by rw [hn.1], ⟨by rw [hn.1]; simp, fun j hj => by rw [hn.1] at hj; omega⟩, by rw [hn.1]; decide, .inl ⟨rfl, rfl⟩⟩
  · rename_i j sz e
    cases hH : H j with
    | dead => rw [hH] at h; cases h
    | raw m cs => rw [hH] at h; cases h
    | arr b' =>
      rw [hH] at h
      simp only at h
      cases hz : Nat.beq sz b'.esz with
      | false => rw [hz] at h; cases h
      | true =>
        rw [hz] at h
        simp only [cond_true, Option.some.injEq, Prod.mk.injEq] at h
        obtain ⟨rfl, rfl⟩ := h
        have ho := hI.own j
        rw [hH] at ho
        rcases ho with ⟨h0, h0'⟩ | ⟨g, vs, e', h1, h2, h3, h4, h5, h5', h6⟩
        · rcases hx with ⟨_, rfl⟩ | ⟨g', n, c, vs', h7, _⟩
          · exact ⟨none, 0, [], by rw [h0], ⟨by rw [h0]; simp, fun j hj => by rw [h0] at hj; omega⟩, by rw [h0]; decide, .inl ⟨rfl, rfl⟩⟩
          · rw [h0'] at h7; cases h7
        rcases hx with ⟨h7, _⟩ | ⟨g', n, c, vs', h7, rfl, h8, h9, h10⟩
        · rw [h1] at h7; cases h7
        rw [h1] at h7
        cases h7
        obtain ⟨news, h11, h12⟩ := gen (some ⟨g, 0, none⟩) (fun k hk => ⟨_, rfl, fun j x hj => by
          obtain ⟨u, h11, h12⟩ := h6 k hk j x hj
          refine ⟨u, ?_, h12⟩
          have ha : (⟨g, 0, none⟩ : Addr).add (k * b'.esz + j) = ⟨g, k * b'.esz + j, none⟩ := by unfold Addr.add; split <;> simp_all
          rw [ha]
          simp [World.cell?, h4, h11]⟩)
        exact ⟨_, c, news, rfl, h11, h5', h12⟩
  · cases h


def Cx.draw (C : Cx) : Cx := ⟨C.w.drew, C.frz, C.vis, C.ρ⟩
section
variable {P : Program} {C : Cx} {H : Hp} {n : Nat}
theorem draw_ext (T : Nat → Prop) : Ext T C C.draw := ⟨rfl, rfl, rfl, Nat.le_refl _, fun _ _ _ => rfl, fun b vs e h => ⟨vs, h, rfl⟩, fun _ h => h, fun _ h => .inl h, rfl, fun _ _ h => h⟩
theorem draw_inv (h : Inv C H) : Inv C.draw H := ⟨fun i => OwnAt_ext (draw_ext fun _ => False) ⟨fun _ _ h => h, fun _ _ h => h, h.frz, h.vis⟩ (h.own i) fun _ _ _ h => h, h.inj, h.frz, h.vis⟩
theorem rowL_ext {C' : Cx} {T : Nat → Prop} (h : Ext T C C') (o : Off T C) {a : Arr} {us : List Value} (hr : rowL C a us) : rowL C' a us :=
  ⟨hr.1, fun k hk j x hj => by
    obtain ⟨u, h1, h2⟩ := hr.2 k hk j x hj
    exact ⟨u, h1, elC_imp h2 fun _ b _ h3 => arrR_ext (h.S true) (h.same o true) 3 b u h3⟩⟩
theorem off_none (hI : Inv C H) : Off (fun _ => False) C := ⟨fun _ _ h => h, fun _ _ h => h, hI.frz, hI.vis⟩
theorem add_arr (hI : Inv C H) (hn : C.ρ n = none) {vs : Array Value} {e : TypeId} {a : Arr} {us : List Value} (hr : rowL C a us) (hp : ∀ (j : Nat) (u : Value), us[j]? = some u → vs[j]? = some u) (hl : us.length ≤ vs.size) (hb : (a.len : Int) ≤ big) :
    OwnAt (C.add n vs e a.len) n (.arr a) :=
  .inr ⟨_, vs, e, add_own, (add_fresh hI).1, (add_fresh hI).2, heap_add_new, by rw [← hr.1]; exact hl, hb, fun k hk j x hj => by
    obtain ⟨u, h1, h2⟩ := (rowL_ext (add_ext _ hn) (off_none hI) hr).2 k hk j x hj
    exact ⟨u, hp _ _ h1, h2⟩⟩
theorem swap_inv {i : Nat} {nb : Blk} (hI : Inv C (upd H i .dead)) (hn : C.ρ n = none) {b m : Nat} (hb : ∀ j k, (upd H i .dead j).live → C.ρ j = some (some b, k) → False)
    (ho : OwnAt ⟨C.w, C.frz, C.vis, upd C.ρ n (some (some b, m))⟩ n nb) (hne : i ≠ n) : Inv ⟨C.w, C.frz, C.vis, upd C.ρ n (some (some b, m))⟩ (upd (upd H i .dead) n nb) where
  own := fun j => by
    by_cases hj : j = n
    · subst hj; rw [upd_self]; exact ho
    · rw [upd_ne hj]
      refine OwnAt_ext (T := fun _ => False) (C := C) (C' := ⟨C.w, C.frz, C.vis, upd C.ρ n (some (some b, m))⟩) ⟨rfl, rfl, rfl, Nat.le_refl _, fun _ _ _ => rfl, fun b vs e h => ⟨vs, h, rfl⟩, fun _ h => h, fun _ h => .inl h, rfl, fun k p hp => ?_⟩ (off_none hI) (hI.own j) (fun _ _ _ h => h)
      by_cases hk : k = n
      · subst hk; rw [hn] at hp; cases hp
      · show upd C.ρ n _ k = _
        rw [upd_ne hk]; exact hp
  inj := fun j k c x y hj hk hrj hrk => by
    have old : ∀ j x, j ≠ n → (upd (upd H i .dead) n nb j).live → upd C.ρ n (some (some b, m)) j = some (some c, x) → (upd H i .dead j).live ∧ C.ρ j = some (some c, x) := by
      intro j x hne hl hr
      rw [upd_ne hne] at hl hr
      exact ⟨hl, hr⟩
    have new : ∀ x, upd C.ρ n (some (some b, m)) n = some (some c, x) → c = b := by
      intro x hr
      rw [upd_self] at hr
      cases hr
      rfl
    by_cases h1 : j = n
    · by_cases h2 : k = n
      · rw [h1, h2]
      · subst h1
        obtain ⟨a1, a2⟩ := old k y h2 hk hrk
        rw [new _ hrj] at a2
        exact (hb k y a1 a2).elim
    · by_cases h2 : k = n
      · subst h2
        obtain ⟨a1, a2⟩ := old j x h1 hj hrj
        rw [new _ hrk] at a2
        exact (hb j x a1 a2).elim
      · obtain ⟨a1, a2⟩ := old j x h1 hj hrj
        obtain ⟨b1, b2⟩ := old k y h2 hk hrk
        exact hI.inj j k c x y a1 b1 a2 b2
  frz := hI.frz
  vis := hI.vis
theorem dead_inv (hI : Inv C H) (i : Nat) : Inv C (upd H i .dead) where
  own := fun j => by
    by_cases hj : j = i
    · subst hj; rw [upd_self]; trivial
    · rw [upd_ne hj]; exact hI.own j
  inj := fun j k b x y hj hk => by
    have key : ∀ j, (upd H i .dead j).live → (H j).live := by
      intro j h
      by_cases hj : j = i
      · subst hj; rw [upd_self] at h; exact h.elim
      · rw [upd_ne hj] at h; exact h
    exact hI.inj j k b x y (key j hj) (key k hk)
  frz := hI.frz
  vis := hI.vis
end
end Hw
end Go.Proofs.Ytceihgojdnkfiaa
