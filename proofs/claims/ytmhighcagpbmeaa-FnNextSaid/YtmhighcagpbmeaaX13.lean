/- Calls: what the called says of the blocks handed over, in the caller's own numbers. -/
import Derived.Test.YtmhighcagpbmeaaX12
set_option linter.unusedVariables false
set_option linter.unusedSimpArgs false
namespace Go.Proofs.Ytmhighcagpbmeaa
namespace Hw
open Go

theorem cellR_ren {C D : Cx} {x : Cell} {v : Value} {f : Nat → Nat} (hw : D.w = C.w) (hf : ∀ b, C.frz b → D.frz b) (hv : x.safe = true ∨ ∀ b, C.vis b → D.vis b)
    (hρ : ∀ i ∈ x.ids, ∀ p, C.ρ i = some p → D.ρ (f i) = some p) (h : cellR C x v) : cellR D (x.ren f) v := by
  have hS : ∀ z : Bool, (z = true ∨ ∀ b, C.vis b → D.vis b) → ∀ b, C.S z b → D.S z b := by
    intro z hz b hb
    cases z with
    | true => exact hf b hb
    | false =>
      rcases hz with hz | hz
      · cases hz
      · exact hz b hb
  cases x with
  | arr z a => exact arrR_ext (hS z hv) (fun _ _ => by rw [hw]) 4 a v h
  | own i sz e =>
    rcases h with ⟨h1, h2⟩ | ⟨b, n, c, vs, h1, h2, h3, h4, h5⟩
    · exact .inl ⟨hρ i (by simp [Cell.ids]) _ h1, h2⟩
    exact .inr ⟨b, n, c, vs, hρ i (by simp [Cell.ids]) _ h1, h2, h3, by rw [hw]; exact h4, h5⟩
  | ptr i k =>
    obtain ⟨b, n, h1, h2⟩ := h
    exact ⟨b, n, hρ i (by simp [Cell.ids]) _ h1, h2⟩
  | ep i sz k o =>
    obtain ⟨b, n, h1, h2⟩ := h
    exact ⟨b, n, hρ i (by simp [Cell.ids]) _ h1, h2⟩
  | rp z e k =>
    obtain ⟨ad, h1, h2, h3⟩ := h
    refine ⟨ad, h1, hS z hv _ h2, fun j y hj => ?_⟩
    obtain ⟨u, h4, h5⟩ := h3 j y hj
    refine ⟨u, by rw [hw]; exact h4, elC_imp h5 fun _ b _ h6 => arrR_ext (hS z hv) (fun _ _ => by rw [hw]) 3 b u h6⟩
  | tail i sz e k =>
    obtain ⟨b, n, c, vs, h1, h2, h3, h4, h5, h6⟩ := h
    exact ⟨b, n, c, vs, hρ i (by simp [Cell.ids]) _ h1, h2, h3, h4, by rw [hw]; exact h5, h6⟩
  | mk l k => exact mkR_ext (hS true (.inl rfl)) (fun _ _ => by rw [hw]) l k v h
  | _ => exact h
theorem fvR_ren {C D : Cx} {x : FV} {v : Value} {f : Nat → Nat} (hw : D.w = C.w) (hf : ∀ b, C.frz b → D.frz b) (hv : x.safe = true ∨ ∀ b, C.vis b → D.vis b)
    (hρ : ∀ i ∈ x.ids, ∀ p, C.ρ i = some p → D.ρ (f i) = some p) (h : fvR C x v) : fvR D (x.ren f) v := by
  cases x with
  | c x => exact cellR_ren hw hf hv hρ h
  | agg cs =>
    obtain ⟨vs, h1, h2, h3⟩ := h
    refine ⟨vs, h1, by rw [List.length_map]; exact h2, fun j y hj => ?_⟩
    rw [List.getElem?_map] at hj
    cases hc : cs[j]? with
    | none => rw [hc] at hj; cases hj
    | some x =>
      rw [hc] at hj
      simp only [Option.map_some, Option.some.injEq] at hj
      subst hj
      obtain ⟨u, h4, h5⟩ := h3 j x hc
      have hm := List.mem_of_getElem? hc
      refine ⟨u, h4, cellR_ren hw hf (hv.imp_left fun h => List.all_eq_true.1 h x hm) (fun i hi => hρ i ?_) h5⟩
      exact List.mem_flatMap.2 ⟨x, hm, hi⟩
theorem avR_ren {C D : Cx} {x : AV} {v : Value} {f : Nat → Nat} (hw : D.w = C.w) (hf : ∀ b, C.frz b → D.frz b) (hv : x.safe = true ∨ ∀ b, C.vis b → D.vis b)
    (hρ : ∀ i p, C.ρ i = some p → D.ρ (f i) = some p) (h : avR C x v) : avR D (x.ren f) v := by
  cases x with
  | v x => exact fvR_ren hw hf hv (fun i _ => hρ i) h
  | tup xs =>
    obtain ⟨vs, h1, h2, h3⟩ := h
    refine ⟨vs, h1, by rw [List.length_map]; exact h2, fun j y hj => ?_⟩
    rw [List.getElem?_map] at hj
    cases hc : xs[j]? with
    | none => rw [hc] at hj; cases hj
    | some x =>
      rw [hc] at hj
      simp only [Option.map_some, Option.some.injEq] at hj
      subst hj
      obtain ⟨u, h4, h5⟩ := h3 j x hc
      exact ⟨u, h4, fvR_ren hw hf (hv.imp_left fun h => List.all_eq_true.1 h x (List.mem_of_getElem? hc)) (fun i _ => hρ i) h5⟩
  | top => trivial
theorem OwnAt_ren {C D : Cx} {i j : Nat} {b : Blk} {f : Nat → Nat} (hw : D.w = C.w) (hf : D.frz = C.frz) (hv1 : ∀ b, D.vis b → C.vis b) (hv2 : b.safe = true ∨ ∀ b, C.vis b → D.vis b)
    (hi : ∀ p, C.ρ i = some p → D.ρ j = some p) (hρ : ∀ i ∈ b.ids, ∀ p, C.ρ i = some p → D.ρ (f i) = some p) (h : OwnAt C i b) : OwnAt D j (b.ren f) := by
  cases b with
  | dead => trivial
  | raw m cs =>
    obtain ⟨b, vs, e, h1, h2, h3, h4, h5, h6⟩ := h
    refine ⟨b, vs, e, hi _ h1, by rw [hf]; exact h2, fun hh => h3 (hv1 b hh), by rw [hw]; exact h4, by rw [List.length_map]; exact h5, fun k y hj => ?_⟩
    rw [List.getElem?_map] at hj
    cases hc : cs[k]? with
    | none => rw [hc] at hj; cases hj
    | some x =>
      rw [hc] at hj
      simp only [Option.map_some, Option.some.injEq] at hj
      subst hj
      obtain ⟨u, h7, h8⟩ := h6 k x hc
      have hm := List.mem_of_getElem? hc
      exact ⟨u, h7, cellR_ren hw (by rw [hf]; exact fun _ h => h) (hv2.imp_left fun h => List.all_eq_true.1 h x hm) (fun i hi => hρ i (List.mem_flatMap.2 ⟨x, hm, hi⟩)) h8⟩
  | arr a =>
    rcases h with ⟨h0, h1⟩ | ⟨b, vs, e, h1, h2, h3, h4, h5, h5', h6⟩
    · exact .inl ⟨h0, hi _ h1⟩
    exact .inr ⟨b, vs, e, hi _ h1, by rw [hf]; exact h2, fun hh => h3 (hv1 b hh), by rw [hw]; exact h4, h5, h5', by rw [hw, hf]; exact h6⟩

theorem OwnAt_ren' {C D : Cx} {i j : Nat} {b : Blk} {f : Nat → Nat} (hw : D.w = C.w) (hf : D.frz = C.frz) (hnv : ∀ b m, C.ρ i = some (some b, m) → ¬ D.vis b) (hv2 : b.safe = true ∨ ∀ b, C.vis b → D.vis b)
    (hi : ∀ p, C.ρ i = some p → D.ρ j = some p) (hρ : ∀ i ∈ b.ids, ∀ p, C.ρ i = some p → D.ρ (f i) = some p) (h : OwnAt C i b) : OwnAt D j (b.ren f) := by
  cases b with
  | dead => trivial
  | raw m cs =>
    obtain ⟨b, vs, e, h1, h2, h3, h4, h5, h6⟩ := h
    refine ⟨b, vs, e, hi _ h1, by rw [hf]; exact h2, hnv _ _ h1, by rw [hw]; exact h4, by rw [List.length_map]; exact h5, fun k y hj => ?_⟩
    rw [List.getElem?_map] at hj
    cases hc : cs[k]? with
    | none => rw [hc] at hj; cases hj
    | some x =>
      rw [hc] at hj
      simp only [Option.map_some, Option.some.injEq] at hj
      subst hj
      obtain ⟨u, h7, h8⟩ := h6 k x hc
      have hm := List.mem_of_getElem? hc
      exact ⟨u, h7, cellR_ren hw (by rw [hf]; exact fun _ h => h) (hv2.imp_left fun h => List.all_eq_true.1 h x hm) (fun i hi => hρ i (List.mem_flatMap.2 ⟨x, hm, hi⟩)) h8⟩
  | arr a =>
    rcases h with ⟨h0, h1⟩ | ⟨b, vs, e, h1, h2, h3, h4, h5, h5', h6⟩
    · exact .inl ⟨h0, hi _ h1⟩
    exact .inr ⟨b, vs, e, hi _ h1, by rw [hf]; exact h2, hnv _ _ h1, by rw [hw]; exact h4, h5, h5', by rw [hw, hf]; exact h6⟩

theorem nth_eq : ∀ {l : List Nat} {i : Nat} (h : i < l.length), nth i l = l[i]
  | x :: l, 0, _ => rfl
  | x :: l, i + 1, h => nth_eq (l := l) (by simpa using h)
theorem idx_mem : ∀ {l : List Nat} {i : Nat}, i ∈ l → idx i l < l.length ∧ nth (idx i l) l = i
  | x :: l, i, h => by
    unfold idx
    cases hb : Nat.beq i x with
    | true => exact ⟨by simp, (Nat.eq_of_beq_eq_true hb).symm⟩
    | false =>
      have hne : i ≠ x := fun e => by rw [e] at hb; simp at hb
      have hm : i ∈ l := by
        rcases List.mem_cons.1 h with h | h
        · exact absurd h hne
        · exact h
      obtain ⟨h1, h2⟩ := idx_mem hm
      exact ⟨by simp only [cond_false, List.length_cons]; omega, h2⟩
theorem sg_lt {n : Nat} {ids : List Nat} {k : Nat} (h : k < ids.length) : sg n ids k = nth k ids := by
  unfold sg
  have : Nat.blt k ids.length = true := Nat.ble_eq_true_of_le h
  rw [this]
  rfl
theorem sg_ge {n : Nat} {ids : List Nat} {k : Nat} (h : ids.length ≤ k) : sg n ids k = n + (k - ids.length) := by
  unfold sg
  have : Nat.blt k ids.length = false := by
    cases hb : Nat.blt k ids.length with
    | true => have := Nat.le_of_ble_eq_true hb; omega
    | false => rfl
  rw [this]
  rfl
theorem nth_mem {l : List Nat} {i : Nat} (h : i < l.length) : nth i l ∈ l := by rw [nth_eq h]; exact List.getElem_mem h
theorem nth_inj {l : List Nat} (hl : l.Nodup) {i j : Nat} (hi : i < l.length) (hj : j < l.length) (h : nth i l = nth j l) : i = j := by
  rw [nth_eq hi, nth_eq hj] at h
  exact (List.getElem_inj hl).1 h
theorem sg_inj {n : Nat} {ids : List Nat} (hnd : ids.Nodup) (hids : ∀ i ∈ ids, i < n) {j k : Nat} (h : sg n ids j = sg n ids k) : j = k := by
  rcases Nat.lt_or_ge j ids.length with h1 | h1 <;> rcases Nat.lt_or_ge k ids.length with h2 | h2
  · rw [sg_lt h1, sg_lt h2] at h; exact nth_inj hnd h1 h2 h
  · rw [sg_lt h1, sg_ge h2] at h; have := hids _ (nth_mem h1); omega
  · rw [sg_ge h1, sg_lt h2] at h; have := hids _ (nth_mem h2); omega
  · rw [sg_ge h1, sg_ge h2] at h; omega
theorem ws_ids (n : Nat) (ids : List Nat) : ∀ (bs : List Blk) (s i : Nat), i ∈ (wsFrom n ids s bs).map (·.1) ↔ ∃ k, k < bs.length ∧ i = sg n ids (s + k)
  | [], s, i => by simp [wsFrom]
  | b :: r, s, i => by
    simp only [wsFrom, List.map_cons, List.mem_cons, ws_ids n ids r, List.length_cons]
    constructor
    · rintro (rfl | ⟨k, h1, rfl⟩)
      · exact ⟨0, by omega, rfl⟩
      · exact ⟨k + 1, by omega, by congr 1; show s + 1 + k = _; omega⟩
    · rintro ⟨k, h1, rfl⟩
      cases k with
      | zero => exact .inl rfl
      | succ k => exact .inr ⟨k, by omega, by congr 1; show _ = s + 1 + k; omega⟩
theorem ws_get {n : Nat} {ids : List Nat} (hnd : ids.Nodup) (hids : ∀ i ∈ ids, i < n) : ∀ (bs : List Blk) (s : Nat) (H : Hp) (k : Nat), k < bs.length → wr H (wsFrom n ids s bs) (sg n ids (s + k)) = (hpOf bs k).ren (sg n ids)
  | b :: r, s, H, 0, _ => by
    rw [wsFrom, wr, wr_off, Nat.add_zero, upd_self]
    · rfl
    · rw [ws_ids]
      rintro ⟨k, h1, h2⟩
      have := sg_inj hnd hids h2
      have e : Nat.succ s = s + 1 := rfl
      omega
  | b :: r, s, H, k + 1, h => by
    rw [wsFrom, wr]
    have := ws_get hnd hids r (s + 1) (upd H (sg n ids s) (b.ren (sg n ids))) k (by simpa using h)
    rw [show s + (k + 1) = s + 1 + k by omega]
    exact this

def Cx.enter (C : Cx) (ids : List Nat) (vis : Nat → Prop) : Cx := ⟨C.w, C.frz, vis, fun k => if k < ids.length then C.ρ (nth k ids) else none⟩
def Cx.back (C C' : Cx) (n : Nat) (ids : List Nat) : Cx := ⟨C'.w, C'.frz, C.vis, fun i => match C.ρ i with
  | some p => some p
  | none => if n ≤ i then C'.ρ (ids.length + (i - n)) else none⟩
theorem hpOf_handed {H : Hp} {ids : List Nat} {k : Nat} (h : k < ids.length) : hpOf (handed H ids) k = (H (nth k ids)).ren (fun i => idx i ids) := by
  have : ∀ (l : List Nat) (f : Nat → Blk) (k : Nat), k < l.length → getL .dead (l.map f) k = f (nth k l) := by
    intro l f
    induction l with
    | nil => intro k hk; cases hk
    | cons x l ih =>
      intro k hk
      cases k with
      | zero => rfl
      | succ k => exact ih k (by simpa using hk)
  exact this ids _ k h
theorem hpOf_ge {bs : List Blk} {k : Nat} (h : bs.length ≤ k) : hpOf bs k = .dead := by
  induction bs generalizing k with
  | nil => rfl
  | cons b bs ih =>
    cases k with
    | zero => simp at h
    | succ k => exact ih (by simpa using h)
theorem ren_live {b : Blk} {f : Nat → Nat} : (b.ren f).live ↔ b.live := by cases b <;> exact Iff.rfl
section
variable {C : Cx} {H : Hp} {n : Nat} {ids : List Nat} {xs : List FV}
theorem idsOk_of (h : idsOk H n ids xs = true) : ids.Nodup ∧ (∀ i ∈ ids, i < n) ∧ (∀ x ∈ xs, ∀ i ∈ x.ids, i ∈ ids) ∧ ∀ j ∈ ids, ∀ i ∈ (H j).ids, i ∈ ids := by
  unfold idsOk at h
  simp only [Bool.and_eq_true] at h
  obtain ⟨⟨⟨h1, h2⟩, h3⟩, h4⟩ := h
  refine ⟨nodupN_nodup h1, fun i hi => Nat.le_of_ble_eq_true (List.all_eq_true.1 h2 i hi), fun x hx i hi => memN_iff.1 (List.all_eq_true.1 (List.all_eq_true.1 h3 x hx) i hi), fun j hj i hi => memN_iff.1 (List.all_eq_true.1 (List.all_eq_true.1 h4 j hj) i hi)⟩
theorem enter_rho {vis : Nat → Prop} {i : Nat} {p : Option Nat × Nat} (hi : i ∈ ids) (h : C.ρ i = some p) : (C.enter ids vis).ρ (idx i ids) = some p := by
  obtain ⟨h1, h2⟩ := idx_mem hi
  simp only [Cx.enter]
  rw [if_pos h1, h2]
  exact h
theorem enter_inv (hI : Inv C H) (hnd : ids.Nodup) (hb : ∀ j ∈ ids, ∀ i ∈ (H j).ids, i ∈ ids) : Inv (C.enter ids C.vis) (hpOf (handed H ids)) where
  own := fun k => by
    rcases Nat.lt_or_ge k ids.length with h | h
    · rw [hpOf_handed h]
      refine OwnAt_ren (C := C) (i := nth k ids) rfl rfl (fun _ h => h) (.inr fun _ h => h) (fun p hp => ?_) (fun i hi p hp => enter_rho (hb _ (nth_mem h) i hi) hp) (hI.own _)
      simp only [Cx.enter]
      rw [if_pos h]; exact hp
    · rw [hpOf_ge (by simpa [handed] using h)]; trivial
  inj := fun j k b x y hj hk hrj hrk => by
    have hjl : j < ids.length := by
      rcases Nat.lt_or_ge j ids.length with h | h
      · exact h
      · rw [hpOf_ge (by simpa [handed] using h)] at hj; exact hj.elim
    have hkl : k < ids.length := by
      rcases Nat.lt_or_ge k ids.length with h | h
      · exact h
      · rw [hpOf_ge (by simpa [handed] using h)] at hk; exact hk.elim
    rw [hpOf_handed hjl, ren_live] at hj
    rw [hpOf_handed hkl, ren_live] at hk
    simp only [Cx.enter, if_pos hjl] at hrj
    simp only [Cx.enter, if_pos hkl] at hrk
    exact nth_inj hnd hjl hkl (hI.inj _ _ _ _ _ hj hk hrj hrk)
  frz := hI.frz
  vis := hI.vis
theorem enter_inv' {vis : Nat → Prop} (hI : Inv C H) (hnd : ids.Nodup) (hb : ∀ j ∈ ids, ∀ i ∈ (H j).ids, i ∈ ids) (hv1 : ∀ b, C.vis b → vis b) (hv2 : ∀ i ∈ ids, (H i).live → ∀ b m, C.ρ i = some (some b, m) → ¬ vis b) (hv3 : ∀ b, vis b → b < C.w.heap.size) : Inv (C.enter ids vis) (hpOf (handed H ids)) where
  own := fun k => by
    rcases Nat.lt_or_ge k ids.length with h | h
    · rw [hpOf_handed h]
      by_cases hlv : (H (nth k ids)).live
      · refine OwnAt_ren' (C := C) (i := nth k ids) rfl rfl (fun b m hb' => hv2 _ (nth_mem h) hlv b m hb') (.inr hv1) (fun p hp => ?_) (fun i hi p hp => enter_rho (hb _ (nth_mem h) i hi) hp) (hI.own _)
        simp only [Cx.enter]
        rw [if_pos h]; exact hp
      · cases hH : H (nth k ids) with
        | dead => trivial
        | raw m cs => rw [hH] at hlv; exact absurd trivial hlv
        | arr a => rw [hH] at hlv; exact absurd trivial hlv
    · rw [hpOf_ge (by simpa [handed] using h)]; trivial
  inj := fun j k b x y hj hk hrj hrk => by
    have hjl : j < ids.length := by
      rcases Nat.lt_or_ge j ids.length with h | h
      · exact h
      · rw [hpOf_ge (by simpa [handed] using h)] at hj; exact hj.elim
    have hkl : k < ids.length := by
      rcases Nat.lt_or_ge k ids.length with h | h
      · exact h
      · rw [hpOf_ge (by simpa [handed] using h)] at hk; exact hk.elim
    rw [hpOf_handed hjl, ren_live] at hj
    rw [hpOf_handed hkl, ren_live] at hk
    simp only [Cx.enter, if_pos hjl] at hrj
    simp only [Cx.enter, if_pos hkl] at hrk
    exact nth_inj hnd hjl hkl (hI.inj _ _ _ _ _ hj hk hrj hrk)
  frz := hI.frz
  vis := hv3
structure After (C C' : Cx) (bs bs' : List Blk) : Prop where
  inv : Inv C' (hpOf bs')
  ext : Ext (fun b => ∃ i m, (hpOf bs i).live ∧ C.ρ i = some (some b, m)) C C'
  new : ∀ i p, C'.ρ i = some p → C.ρ i = some p ∨ (bs.length ≤ i ∧ i < bs'.length ∧ ∀ b, p.1 = some b → (∃ j m, (hpOf bs j).live ∧ C.ρ j = some (some b, m)) ∨ C.w.heap.size ≤ b)
theorem stillDead_of : ∀ {a b : List Blk}, stillDead a b = true → a.length ≤ b.length ∧ ∀ k, k < a.length → ¬ (hpOf a k).live → ¬ (hpOf b k).live
  | [], b, _ => ⟨Nat.zero_le _, fun k hk => by cases hk⟩
  | x :: a, [], h => by simp [stillDead] at h
  | x :: a, y :: b, h => by
    simp only [stillDead, Bool.and_eq_true] at h
    obtain ⟨h1, h2⟩ := stillDead_of h.2
    refine ⟨by simpa using h1, fun k hk => ?_⟩
    cases k with
    | zero =>
      intro hn hl
      have := h.1
      change ¬ x.live at hn
      change y.live at hl
      cases x <;> cases y <;> simp [Blk.live, Blk.isDead] at hn hl this
    | succ k => exact h2 k (by simpa using hk)
theorem back_ok {vis : Nat → Prop} {C' : Cx} {bs' : List Blk} (hI : Inv C H) (hfr : ∀ i, n ≤ i → i < n + (bs'.length - ids.length) → C.ρ i = none) (hnd : ids.Nodup) (hids : ∀ i ∈ ids, i < n)
    (hA : After (C.enter ids vis) C' (handed H ids) bs') (hd : stillDead (handed H ids) bs' = true) (hv1 : ∀ b, C.vis b → vis b) (hv2 : (∀ b ∈ bs', b.safe = true) ∨ ∀ b, vis b → C.vis b) :
    (∀ k p, C'.ρ k = some p → (C.back C' n ids).ρ (sg n ids k) = some p) ∧ Inv (C.back C' n ids) (wr H (wsFrom n ids 0 bs')) ∧
      Ext (fun b => ∃ i m, i ∈ (wsFrom n ids 0 bs').map (·.1) ∧ (H i).live ∧ C.ρ i = some (some b, m)) C (C.back C' n ids) ∧
      ∀ i p, (C.back C' n ids).ρ i = some p → C.ρ i = some p ∨ (n ≤ i ∧ i < n + (bs'.length - ids.length) ∧ ∀ b, p.1 = some b → (∃ j m, j ∈ (wsFrom n ids 0 bs').map (·.1) ∧ (H j).live ∧ C.ρ j = some (some b, m)) ∨ C.w.heap.size ≤ b) := by
  obtain ⟨hlen, hdead⟩ := stillDead_of hd
  have hl0 : (handed H ids).length = ids.length := by simp [handed]
  rw [hl0] at hlen hdead
  -- a block of a number that is handed over
  have hT : ∀ b, (∃ i m, (hpOf (handed H ids) i).live ∧ (C.enter ids vis).ρ i = some (some b, m)) → ∃ i m, i ∈ ids ∧ (H i).live ∧ C.ρ i = some (some b, m) := by
    rintro b ⟨k, m, h1, h2⟩
    have hk : k < ids.length := by
      rcases Nat.lt_or_ge k ids.length with h | h
      · exact h
      · rw [hpOf_ge (by omega)] at h1; exact h1.elim
    rw [hpOf_handed hk, ren_live] at h1
    simp only [Cx.enter, if_pos hk] at h2
    exact ⟨_, m, nth_mem hk, h1, h2⟩
  have hmem : ∀ i, i ∈ ids → i ∈ (wsFrom n ids 0 bs').map (·.1) := by
    intro i hi
    obtain ⟨h1, h2⟩ := idx_mem hi
    exact (ws_ids n ids bs' 0 i).2 ⟨idx i ids, by omega, by rw [Nat.zero_add, sg_lt h1, h2]⟩
  have hA1 : ∀ k p, C'.ρ k = some p → (C.back C' n ids).ρ (sg n ids k) = some p := by
    intro k p hp
    rcases Nat.lt_or_ge k ids.length with h | h
    · rcases hA.new k p hp with h1 | ⟨h1, _⟩
      · simp only [Cx.enter, if_pos h] at h1
        rw [sg_lt h]
        simp only [Cx.back, h1]
      · omega
    · rw [sg_ge h]
      have hkl : k < bs'.length := by
        rcases hA.new k p hp with h1 | ⟨_, h1, _⟩
        · simp only [Cx.enter, if_neg (Nat.not_lt.2 h)] at h1; cases h1
        · exact h1
      simp only [Cx.back, hfr (n + (k - ids.length)) (by omega) (by omega)]
      rw [if_pos (by omega), show ids.length + (n + (k - ids.length) - n) = k by omega]
      exact hp
  have hx : Ext (fun b => ∃ i m, i ∈ (wsFrom n ids 0 bs').map (·.1) ∧ (H i).live ∧ C.ρ i = some (some b, m)) C (C.back C' n ids) := by
    have e := hA.ext
    have hT' : ∀ b, (∃ i m, (hpOf (handed H ids) i).live ∧ (C.enter ids vis).ρ i = some (some b, m)) → ∃ i m, i ∈ (wsFrom n ids 0 bs').map (·.1) ∧ (H i).live ∧ C.ρ i = some (some b, m) := fun b h => by
      obtain ⟨i, m, h1, h2⟩ := hT b h
      exact ⟨i, m, hmem i h1, h2⟩
    exact ⟨e.os, e.tape, e.output, e.size, fun b hb hn => e.blk b hb (fun h => hn (hT' b h)), e.shp, e.frz, fun b hb => (e.new b hb).imp_right (Or.imp_left (hT' b)), rfl, fun i p hp => by simp only [Cx.back, hp]⟩
  have hnew : ∀ i p, (C.back C' n ids).ρ i = some p → C.ρ i = some p ∨ (n ≤ i ∧ i < n + (bs'.length - ids.length) ∧ ∀ b, p.1 = some b → (∃ j m, j ∈ (wsFrom n ids 0 bs').map (·.1) ∧ (H j).live ∧ C.ρ j = some (some b, m)) ∨ C.w.heap.size ≤ b) := by
    intro i p hp
    cases hc : C.ρ i with
    | some q => simp only [Cx.back, hc] at hp; exact .inl hp
    | none =>
      simp only [Cx.back, hc] at hp
      by_cases hi : n ≤ i
      · rw [if_pos hi] at hp
        rcases hA.new _ _ hp with h1 | ⟨h1, h2, h3⟩
        · simp only [Cx.enter, if_neg (show ¬ ids.length + (i - n) < ids.length by omega)] at h1; cases h1
        · refine .inr ⟨hi, by omega, fun b hb => (h3 b hb).imp_left fun h => ?_⟩
          obtain ⟨j, m, h4, h5⟩ := hT _ h
          exact ⟨j, m, hmem j h4, h5⟩
      · rw [if_neg hi] at hp; cases hp
  refine ⟨hA1, ?_, hx, hnew⟩
  have hoff := hI.off (T := fun b => ∃ i m, i ∈ (wsFrom n ids 0 bs').map (·.1) ∧ (H i).live ∧ C.ρ i = some (some b, m)) (fun b ⟨i, m, _, h1, h2⟩ => ⟨i, m, h1, h2⟩)
  have hsplit : ∀ j, (∃ k, k < bs'.length ∧ j = sg n ids k) ∨ (j ∉ (wsFrom n ids 0 bs').map (·.1)) := by
    intro j
    by_cases h : j ∈ (wsFrom n ids 0 bs').map (·.1)
    · obtain ⟨k, h1, h2⟩ := (ws_ids n ids bs' 0 j).1 h
      exact .inl ⟨k, h1, by rw [Nat.zero_add] at h2; exact h2⟩
    · exact .inr h
  have hget : ∀ k, k < bs'.length → wr H (wsFrom n ids 0 bs') (sg n ids k) = (hpOf bs' k).ren (sg n ids) := fun k hk => by
    have := ws_get hnd hids bs' 0 H k hk
    rwa [Nat.zero_add] at this
  have hsafe : ∀ k, k < bs'.length → (∀ b ∈ bs', b.safe = true) → (hpOf bs' k).safe = true := by
    intro k hk h
    refine h _ ?_
    clear hget hsplit hoff hnew hx hA1 hmem hlen hdead hd hA hv2 h hfr
    induction bs' generalizing k with
    | nil => cases hk
    | cons b bs ih =>
      cases k with
      | zero => exact List.mem_cons_self
      | succ k => exact List.mem_cons_of_mem _ (ih k (by simpa using hk))
  have hvis' : C'.vis = vis := hA.ext.vis
  -- one number handed over or new, the other one not
  have hfar : ∀ k j b x y, k < bs'.length → (hpOf bs' k).live → C'.ρ k = some (some b, x) → j ∉ (wsFrom n ids 0 bs').map (·.1) → (H j).live → C.ρ j = some (some b, y) → False := by
    intro k j b x y hk hl hr hj hlj hrj
    have key : ∀ i m, i ∈ ids → (H i).live → C.ρ i = some (some b, m) → False := fun i m hi hli hri => hj (by rw [hI.inj j i b y m hlj hli hrj hri]; exact hmem i hi)
    rcases hA.new k _ hr with h1 | ⟨h1, h2, h3⟩
    · have hkl : k < ids.length := by
        rcases Nat.lt_or_ge k ids.length with h | h
        · exact h
        · simp only [Cx.enter, if_neg (Nat.not_lt.2 h)] at h1; cases h1
      simp only [Cx.enter, if_pos hkl] at h1
      refine key _ x (nth_mem hkl) ?_ h1
      by_cases hh : (hpOf (handed H ids) k).live
      · rw [hpOf_handed hkl, ren_live] at hh; exact hh
      · exact absurd hl (hdead k hkl hh)
    · rcases h3 b rfl with h3 | h3
      · obtain ⟨i, m, h4, h5, h6⟩ := hT _ h3
        exact key i m h4 h5 h6
      · have := hI.lt hlj hrj
        exact absurd h3 (Nat.not_le.2 this)
  have hnr : ∀ k b x, k < bs'.length → (hpOf bs' k).live → (C.back C' n ids).ρ (sg n ids k) = some (some b, x) → C'.ρ k = some (some b, x) := by
    intro k b x hk hl hr
    have ho := hA.inv.own k
    have : ∃ p, C'.ρ k = some p := by
      cases hb : hpOf bs' k with
      | dead => rw [hb] at hl; exact hl.elim
      | raw m cs => rw [hb] at ho; obtain ⟨b, vs, e, h1, _⟩ := ho; exact ⟨_, h1⟩
      | arr a =>
        rw [hb] at ho
        rcases ho with ⟨_, h1⟩ | ⟨b, vs, e, h1, _⟩ <;> exact ⟨_, h1⟩
    obtain ⟨p, hp⟩ := this
    rw [hA1 k p hp] at hr
    rw [hp]; exact hr
  have hold : ∀ j b y, j ∉ (wsFrom n ids 0 bs').map (·.1) → (H j).live → (C.back C' n ids).ρ j = some (some b, y) → C.ρ j = some (some b, y) := by
    intro j b y hj hl hr
    rcases hnew j _ hr with h | ⟨h1, h1', _⟩
    · exact h
    · have ho := hI.own j
      have hn := hfr j h1 h1'
      cases hb : H j with
      | dead => rw [hb] at hl; exact hl.elim
      | raw m cs => rw [hb] at ho; obtain ⟨b, vs, e, h1, _⟩ := ho; rw [hn] at h1; cases h1
      | arr a =>
        rw [hb] at ho
        rcases ho with ⟨_, h1⟩ | ⟨b, vs, e, h1, _⟩ <;> (rw [hn] at h1; cases h1)
  refine ⟨fun j => ?_, fun i j b x y hi hj hri hrj => ?_, hA.inv.frz, fun b hb => ?_⟩
  · rcases hsplit j with ⟨k, hk, rfl⟩ | hj
    · rw [hget k hk]
      refine OwnAt_ren (C := C') (i := k) rfl rfl (fun b hb => by rw [hvis']; exact hv1 b hb) ?_ (hA1 k) (fun i _ => hA1 i) (hA.inv.own k)
      rcases hv2 with h | h
      · exact .inl (hsafe k hk h)
      · exact .inr (by rw [hvis']; exact h)
    · rw [wr_off _ _ _ hj]
      cases hH : H j with
      | dead => trivial
      | raw m cs =>
        have := hI.own j
        rw [← hH]
        refine OwnAt_ext hx hoff this fun b m hb ⟨i, m', h1, h2, h3⟩ => hj ?_
        rw [hI.inj j i b m m' (by rw [hH]; trivial) h2 hb h3]; exact h1
      | arr a =>
        have := hI.own j
        rw [← hH]
        refine OwnAt_ext hx hoff this fun b m hb ⟨i, m', h1, h2, h3⟩ => hj ?_
        rw [hI.inj j i b m m' (by rw [hH]; trivial) h2 hb h3]; exact h1
  · rcases hsplit i with ⟨k, hk, rfl⟩ | hi' <;> rcases hsplit j with ⟨l, hl, rfl⟩ | hj'
    · rw [hget k hk, ren_live] at hi
      rw [hget l hl, ren_live] at hj
      rw [hA.inv.inj k l b x y hi hj (hnr k b x hk hi hri) (hnr l b y hl hj hrj)]
    · rw [hget k hk, ren_live] at hi
      rw [wr_off _ _ _ hj'] at hj
      exact (hfar k j b x y hk hi (hnr k b x hk hi hri) hj' hj (hold j b y hj' hj hrj)).elim
    · rw [hget l hl, ren_live] at hj
      rw [wr_off _ _ _ hi'] at hi
      exact (hfar l i b y x hl hj (hnr l b y hl hj hrj) hi' hi (hold i b x hi' hi hri)).elim
    · rw [wr_off _ _ _ hi'] at hi
      rw [wr_off _ _ _ hj'] at hj
      exact hI.inj i j b x y hi hj (hold i b x hi' hi hri) (hold j b y hj' hj hrj)
  · have := hI.vis b hb
    exact Nat.lt_of_lt_of_le this hA.ext.size
end
end Hw
end Go.Proofs.Ytmhighcagpbmeaa
