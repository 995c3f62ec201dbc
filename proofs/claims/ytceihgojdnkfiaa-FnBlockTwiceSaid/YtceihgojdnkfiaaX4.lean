/- The operations one by one. Part 2: memory: loads, stores, new blocks, what becomes a part of what lasts. -/
import Derived.Test.YtceihgojdnkfiaaX3
set_option linter.unusedVariables false
set_option linter.unusedSimpArgs false
namespace Go.Proofs.Ytceihgojdnkfiaa
namespace Hw
open Go

theorem upd_self {α : Type} (H : Nat → α) (i : Nat) (b : α) : upd H i b i = b := by simp [upd]
theorem upd_ne {α : Type} {H : Nat → α} {i j : Nat} {b : α} (h : j ≠ i) : upd H i b j = H j := by
  unfold upd
  have : Nat.beq j i = false := by
    cases hb : Nat.beq j i with
    | true => exact absurd (Nat.eq_of_beq_eq_true hb) h
    | false => rfl
  rw [this]
  rfl
theorem memN_iff : ∀ {l : List Nat} {i : Nat}, memN i l = true ↔ i ∈ l
  | [], i => by simp [memN]
  | j :: r, i => by
    unfold memN
    cases h : Nat.beq i j with
    | true => simp [Nat.eq_of_beq_eq_true h]
    | false =>
      have hne : i ≠ j := fun e => by rw [e] at h; simp at h
      simp [memN_iff (l := r), hne]
theorem wr_append : ∀ (l1 l2 : List (Nat × Blk)) (H : Hp), wr H (l1 ++ l2) = wr (wr H l1) l2
  | [], _, _ => rfl
  | (i, b) :: r, l2, H => wr_append r l2 (upd H i b)
theorem wr_off : ∀ (l : List (Nat × Blk)) (H : Hp) (i : Nat), i ∉ l.map (·.1) → wr H l i = H i
  | [], _, _, _ => rfl
  | (j, b) :: r, H, i, h => by
    simp only [List.map_cons, List.mem_cons, not_or] at h
    rw [wr, wr_off r _ i h.2, upd_ne h.1]
theorem cells_len (a : Arr) (k : Nat) (z : Bool) : ((a.get k).cells z).length = a.esz := by cases a <;> rfl
theorem cells_flag {e : El} {z y : Bool} {a : Arr} (h : Cell.arr y a ∈ e.cells z) : y = z := by
  cases e <;> simp [El.cells, pktCells, stCells, chCells, evCells, wsCells] at h
  · rcases h with h | h | h | h <;> exact h.1
  · rcases h with h | h | h | h | h | h | h | h <;> exact h.1
theorem cells_plain {e : El} {z : Bool} {x : Cell} (h : x ∈ e.cells z) : (∃ n, x = .int n) ∨ (∃ n, x = .u8 n) ∨ (∃ b, x = .bool b) ∨ (∃ a, x = .arr z a) ∨ ∃ f, x = .fnv f := by
  cases e <;> simp [El.cells, pktCells, stCells, chCells, evCells, wsCells] at h
  case int => exact .inl ⟨_, h⟩
  case u8 => exact .inr (.inl ⟨_, h⟩)
  case bool => exact .inr (.inr (.inl ⟨_, h⟩))
  case pkt => rcases h with h | h | h | h | h | h | h <;> exact .inl ⟨_, h⟩
  case st => rcases h with h | h | h | h | h | h | h <;> first | exact .inl ⟨_, h⟩ | exact .inr (.inr (.inr (.inl ⟨_, h⟩)))
  case ch => rcases h with h | h | h | h | h | h | h | h | h | h | h | h | h <;> first | exact .inl ⟨_, h⟩ | exact .inr (.inr (.inr (.inl ⟨_, h⟩)))
  case ev => rcases h with h | h | h | h | h | h | h | h | h | h | h <;> exact .inl ⟨_, h⟩
  case ws => rcases h with h | h | h <;> first | exact .inl ⟨_, h⟩ | exact .inr (.inr (.inr (.inr ⟨_, h⟩)))
theorem elC_cellR {C : Cx} {e : El} {z : Bool} {x : Cell} {u : Value} (hx : x ∈ e.cells z) (h : elC (arrR C.w (C.S z) 3) x u) : cellR C x u := by
  rcases cells_plain hx with ⟨n, rfl⟩ | ⟨n, rfl⟩ | ⟨b, rfl⟩ | ⟨a, rfl⟩ | ⟨f, rfl⟩
  · exact h
  · exact h
  · exact h
  · exact arrR_34 h
  · exact h
theorem elC_of_cellR {C : Cx} {e : El} {x : Cell} {u : Value} (hx : x ∈ e.cells true) (h : cellR C x u) : elC (arrR C.w C.frz 3) x u := by
  rcases cells_plain hx with ⟨n, rfl⟩ | ⟨n, rfl⟩ | ⟨b, rfl⟩ | ⟨a, rfl⟩ | ⟨f, rfl⟩
  · exact h
  · exact h
  · exact h
  · exact arrR_43 h
  · exact h

theorem load_gen {P : Program} {t : Nat} {ti : TI} {C : Cx} (h : TIok P t ti) (ad : Addr) (cs : List Cell) (hl : cs.length = ti.size)
    (hc : ∀ (j : Nat) (x : Cell), cs[j]? = some x → ∃ u, C.w.cell? (ad.add j) = some u ∧ cellR C x u) {v : AV} (hv : fvOfCells ti.agg cs = some v) :
    ∃ u, (Instr.loadAt t (.pointer (some ad))).run P C.w = .ok u C.w ∧ avR C v u := by
  let vs : List Value := (List.range ti.size).map fun j => (C.w.cell? (ad.add j)).getD undef
  have hvl : vs.length = ti.size := by simp [vs]
  have hv1 : ∀ j u, vs[j]? = some u → C.w.cell? (ad.add j) = some u := by
    intro j u hu
    have hj : j < ti.size := by
      have := (List.getElem?_eq_some_iff.1 hu).1
      omega
    obtain ⟨u', h1, _⟩ := hc j _ (List.getElem?_eq_getElem (by omega))
    simp only [vs, List.getElem?_map, List.getElem?_range hj, Option.map_some, Option.some.injEq, h1, Option.getD_some] at hu
    rw [h1, hu]
  have hR : cellsR C cs vs := by
    refine ⟨by omega, fun j x hj => ?_⟩
    have hjl : j < cs.length := (List.getElem?_eq_some_iff.1 hj).1
    obtain ⟨u, h1, h2⟩ := hc j x hj
    refine ⟨u, ?_, h2⟩
    simp only [vs, List.getElem?_map, List.getElem?_range (show j < ti.size by omega), Option.map_some, h1, Option.getD_some]
  rcases fvOfCells_R hR hv with ⟨ha, h1⟩ | ⟨ha, u, h1, h2⟩
  · refine ⟨_, ?_, h1⟩
    have h3 := run_loadCells_list (P := P) C.w ad vs hv1
    rw [hvl] at h3
    simp [Instr.loadAt, Instr.sureAddr, loadVar, h.run_agg, h.run_size, ha, h3]
  · refine ⟨u, ?_, h2⟩
    have h3 : C.w.cell? ad = some u := by
      have := hv1 0 u (by rw [h1]; rfl)
      simpa [Addr.add] using this
    simp [Instr.loadAt, Instr.sureAddr, loadVar, h.run_agg, ha, h3]
theorem getElem?_seg {α : Type} (l : List α) (o n j : Nat) (h : j < n) : ((l.drop o).take n)[j]? = l[o + j]? := by
  rw [List.getElem?_take, if_pos h, List.getElem?_drop]
theorem seg_len {α : Type} {l : List α} {o n : Nat} (h : Nat.ble (Nat.add o n) l.length = true) : ((l.drop o).take n).length = n := by
  have := Nat.le_of_ble_eq_true h
  rw [List.length_take, List.length_drop]
  have h2 : Nat.add o n = o + n := rfl
  omega
theorem add_add (ad : Addr) (a b : Nat) : (ad.add a).add b = ad.add (a + b) := by
  unfold Addr.add
  by_cases hm : a = 0 <;> by_cases hn : b = 0 <;> simp [hm, hn, Nat.add_assoc]
theorem mkCells_len (l : List St) : (mkCells l).length = 8 := rfl
theorem mkCells_R {C : Cx} {l : List St} {o : Nat} {v : Value} (h : cellR C (.mk l o) v) (hl : l ≠ []) : ∃ ad : Addr, v = .pointer (some (ad.add o)) ∧ C.frz ad.block ∧ ∀ (j : Nat) (x : Cell), (mkCells l)[j]? = some x → ∃ u, C.w.cell? (ad.add j) = some u ∧ cellR C x u := by
  cases l with
  | nil => exact absurd rfl hl
  | cons s r =>
    obtain ⟨ad, h1, h2, h3, u, h4, h5⟩ := h
    refine ⟨ad, h1, h2, fun j x hj => ?_⟩
    have hj : (stCells true s ++ [.mk r 0])[j]? = some x := hj
    rcases Nat.lt_or_ge j 7 with h6 | h6
    · rw [List.getElem?_append_left (by exact h6)] at hj
      obtain ⟨u, h7, h8⟩ := h3 j x hj
      exact ⟨u, h7, elC_cellR (e := .st s) (List.mem_of_getElem? hj) h8⟩
    · have h7 : j = 7 := by
        have := (List.getElem?_eq_some_iff.1 hj).1
        simp [stCells] at this
        omega
      subst h7
      have : Cell.mk r 0 = x := by simpa [stCells] using hj
      subst this
      exact ⟨u, h4, h5⟩
def OpR.ok (r : OpR) : Prop := match r.chk with
  | none => True
  | some p => p
theorem aLoad_ok {P : Program} {t : Nat} {ti : TI} {C : Cx} {H : Hp} {n : Nat} {p : Cell} {v : Value} {r : OpR} (h : TIok P t ti) (hI : Inv C H) (hp : cellR C p v) (hr : aLoad ti H n p = some r) (hk : r.ok) :
    ∃ u, (Instr.loadAt t v).run P C.w = .ok u C.w ∧ avR C r.v u ∧ r.ws = [] := by
  unfold aLoad at hr
  split at hr
  · rename_i i o
    split at hr
    · rename_i m cs hH
      cases hb : Nat.ble (Nat.add o ti.size) cs.length with
      | false => rw [hb] at hr; cases hr
      | true =>
        rw [hb] at hr
        simp only [cond_true] at hr
        cases hv : fvOfCells ti.agg ((cs.drop o).take ti.size) with
        | none => rw [hv] at hr; cases hr
        | some av =>
          rw [hv] at hr
          simp only [Option.map_some, Option.some.injEq] at hr
          subst hr
          have ho := hI.own i
          rw [hH] at ho
          obtain ⟨b, vs, e, h1, _, _, h4, h5, h6⟩ := ho
          obtain ⟨b', n', h7, rfl⟩ := hp
          rw [h1] at h7
          cases h7
          obtain ⟨u, h8, h9⟩ := load_gen h ⟨b, o, none⟩ _ (seg_len hb) (fun j x hj => by
            have hjl : j < ti.size := by have := (List.getElem?_eq_some_iff.1 hj).1; rw [seg_len hb] at this; exact this
            rw [getElem?_seg _ _ _ _ hjl] at hj
            obtain ⟨u, h8, h9⟩ := h6 _ _ hj
            refine ⟨u, ?_, h9⟩
            have ha : (⟨b, o, none⟩ : Addr).add j = ⟨b, o + j, none⟩ := by unfold Addr.add; split <;> simp_all
            rw [ha]
            simp [World.cell?, h4, h8]) hv
          exact ⟨u, h8, h9, rfl⟩
    · cases hr
  · rename_i i sz k o
    split at hr
    · rename_i a hH
      cases hb : Nat.beq sz a.esz && Nat.ble (Nat.add o ti.size) a.esz with
      | false => rw [hb] at hr; cases hr
      | true =>
        rw [hb] at hr
        rw [Bool.and_eq_true] at hb
        obtain ⟨hb1, hb⟩ := hb
        have hsz := Nat.eq_of_beq_eq_true hb1
        subst hsz
        simp only [cond_true] at hr
        cases hv : fvOfCells ti.agg ((((a.get k).cells true).drop o).take ti.size) with
        | none => rw [hv] at hr; cases hr
        | some av =>
          rw [hv] at hr
          simp only [Option.map_some, Option.some.injEq] at hr
          subst hr
          have ho := hI.own i
          rw [hH] at ho
          rcases ho with ⟨h0, _⟩ | ⟨b, vs, e, h1, _, _, h4, h5, _, h6⟩
          · have hk : k < a.len := hk
            omega
          obtain ⟨b', n', h7, rfl⟩ := hp
          rw [h1] at h7
          cases h7
          have hb2 : Nat.ble (Nat.add o ti.size) ((a.get k).cells true).length = true := by rw [cells_len]; exact hb
          obtain ⟨u, h8, h9⟩ := load_gen h ⟨b, k * a.esz + o, none⟩ _ (seg_len hb2) (fun j x hj => by
            have hjl : j < ti.size := by have := (List.getElem?_eq_some_iff.1 hj).1; rw [seg_len hb2] at this; exact this
            rw [getElem?_seg _ _ _ _ hjl] at hj
            obtain ⟨u, h8, h9⟩ := h6 k hk _ _ hj
            refine ⟨u, ?_, elC_cellR (List.mem_of_getElem? hj) h9⟩
            have ha : (⟨b, k * a.esz + o, none⟩ : Addr).add j = ⟨b, k * a.esz + (o + j), none⟩ := by unfold Addr.add; split <;> simp_all [Nat.add_assoc]
            rw [ha]
            simp [World.cell?, h4, h8]) hv
          exact ⟨u, h8, h9, rfl⟩
    · cases hr
  · rename_i z e o
    cases hb : Nat.ble (Nat.add o ti.size) (e.cells z).length with
    | false => rw [hb] at hr; cases hr
    | true =>
      rw [hb] at hr
      simp only [cond_true] at hr
      cases hv : fvOfCells ti.agg (((e.cells z).drop o).take ti.size) with
      | none => rw [hv] at hr; cases hr
      | some av =>
        rw [hv] at hr
        simp only [Option.map_some, Option.some.injEq] at hr
        subst hr
        obtain ⟨ad, rfl, h2, h3⟩ := hp
        obtain ⟨u, h8, h9⟩ := load_gen h ad _ (seg_len hb) (fun j x hj => by
          have hjl : j < ti.size := by have := (List.getElem?_eq_some_iff.1 hj).1; rw [seg_len hb] at this; exact this
          rw [getElem?_seg _ _ _ _ hjl] at hj
          obtain ⟨u, h8, h9⟩ := h3 _ _ hj
          exact ⟨u, h8, elC_cellR (List.mem_of_getElem? hj) h9⟩) hv
        exact ⟨u, h8, h9, rfl⟩
  · rename_i l o
    cases hb : Nat.ble (Nat.add o ti.size) 8 with
    | false => rw [hb] at hr; cases hr
    | true =>
      rw [hb] at hr
      simp only [cond_true] at hr
      cases hv : fvOfCells ti.agg (((mkCells l).drop o).take ti.size) with
      | none => rw [hv] at hr; cases hr
      | some av =>
        rw [hv] at hr
        simp only [Option.map_some, Option.some.injEq] at hr
        subst hr
        have hb' : Nat.ble (Nat.add o ti.size) (mkCells l).length = true := hb
        obtain ⟨ad, rfl, _, h3⟩ := mkCells_R hp hk
        obtain ⟨u, h8, h9⟩ := load_gen h (ad.add o) _ (seg_len hb') (fun j x hj => by
          have hjl : j < ti.size := by have := (List.getElem?_eq_some_iff.1 hj).1; rw [seg_len hb'] at this; exact this
          rw [getElem?_seg _ _ _ _ hjl] at hj
          rw [add_add]
          exact h3 _ _ hj) hv
        exact ⟨u, h8, h9, rfl⟩
  · cases hr

def Cx.add (C : Cx) (n : Nat) (vs : Array Value) (e : TypeId) (m : Nat) : Cx := ⟨C.w.alloc (.cells vs e), C.frz, C.vis, upd C.ρ n (some (some C.w.heap.size, m))⟩
section
variable {C : Cx} {H : Hp} {n : Nat} {vs : Array Value} {e : TypeId} {m : Nat}
theorem heap_add_old {b : Nat} (hb : b < C.w.heap.size) : (C.add n vs e m).w.heap[b]? = C.w.heap[b]? := by
  show (C.w.heap.push _)[b]? = _
  rw [Array.getElem?_push, if_neg (by omega)]
theorem heap_add_new : (C.add n vs e m).w.heap[C.w.heap.size]? = some (.cells vs e (0, 0)) := by
  show (C.w.heap.push _)[C.w.heap.size]? = _
  rw [Array.getElem?_push, if_pos rfl]
theorem add_ext (T : Nat → Prop) (hn : C.ρ n = none) : Ext T C (C.add n vs e m) where
  os := rfl
  tape := rfl
  output := rfl
  size := by simp [Cx.add]
  blk := fun b hb _ => heap_add_old hb
  shp := fun b cs t h => ⟨cs, by rw [heap_add_old (lt_of_block h)]; exact h, rfl⟩
  frz := fun b h => h
  new := fun b h => .inl h
  vis := rfl
  rho := fun i p hp => by
    by_cases hi : i = n
    · subst hi; rw [hn] at hp; cases hp
    · simp only [Cx.add]; rw [upd_ne hi]; exact hp
theorem add_inv (hI : Inv C H) (hn : C.ρ n = none) {nb : Blk} (hb : OwnAt (C.add n vs e m) n nb) : Inv (C.add n vs e m) (upd H n nb) where
  own := fun i => by
    by_cases hi : i = n
    · subst hi; rw [upd_self]; exact hb
    · rw [upd_ne hi]
      exact OwnAt_ext (add_ext (fun _ => False) hn) ⟨fun _ _ h => h, fun _ _ h => h, hI.frz, hI.vis⟩ (hI.own i) (fun _ _ _ h => h)
  inj := fun i j b k l hi hj hri hrj => by
    have old : ∀ i k, i ≠ n → (upd H n nb i).live → (C.add n vs e m).ρ i = some (some b, k) → (H i).live ∧ C.ρ i = some (some b, k) ∧ b < C.w.heap.size := by
      intro i k hne hl hr
      rw [upd_ne hne] at hl
      simp only [Cx.add] at hr
      rw [upd_ne hne] at hr
      exact ⟨hl, hr, hI.lt hl hr⟩
    have new : ∀ k, (C.add n vs e m).ρ n = some (some b, k) → b = C.w.heap.size := by
      intro k hr
      simp only [Cx.add] at hr
      rw [upd_self] at hr
      cases hr
      rfl
    by_cases h1 : i = n
    · by_cases h2 : j = n
      · rw [h1, h2]
      · subst h1
        have := new _ hri
        have := (old j l h2 hj hrj).2.2
        omega
    · by_cases h2 : j = n
      · subst h2
        have := new _ hrj
        have := (old i k h1 hi hri).2.2
        omega
      · obtain ⟨a1, a2, _⟩ := old i k h1 hi hri
        obtain ⟨b1, b2, _⟩ := old j l h2 hj hrj
        exact hI.inj i j b k l a1 b1 a2 b2
  frz := fun b hb => by have := hI.frz b hb; simp only [Cx.add, World.size_alloc]; exact Nat.lt_succ_of_lt this
  vis := fun b hb => by have := hI.vis b hb; simp only [Cx.add, World.size_alloc]; exact Nat.lt_succ_of_lt this
theorem add_new (i : Nat) (p : Option Nat × Nat) (h : (C.add n vs e m).ρ i = some p) : C.ρ i = some p ∨ (i = n ∧ p.1 = some C.w.heap.size) := by
  simp only [Cx.add] at h
  by_cases hi : i = n
  · subst hi
    rw [upd_self] at h
    cases h
    exact .inr ⟨rfl, rfl⟩
  · rw [upd_ne hi] at h
    exact .inl h
theorem add_own : (C.add n vs e m).ρ n = some (some C.w.heap.size, m) := by simp only [Cx.add]; exact upd_self _ _ _
theorem add_fresh (hI : Inv C H) : ¬ (C.add n vs e m).frz C.w.heap.size ∧ ¬ (C.add n vs e m).vis C.w.heap.size :=
  ⟨fun h => Nat.lt_irrefl _ (hI.frz _ h), fun h => Nat.lt_irrefl _ (hI.vis _ h)⟩
theorem add_raw (hI : Inv C H) (hn : C.ρ n = none) {cs : List Cell} (hc : cellsR C cs vs.toList) : OwnAt (C.add n vs e m) n (.raw m cs) :=
  ⟨_, vs, e, add_own, (add_fresh hI).1, (add_fresh hI).2, heap_add_new, by simpa using hc.1, fun j x hj => by
    obtain ⟨u, h1, h2⟩ := hc.2 j x hj
    exact ⟨u, by simpa using h1, cellR_ext (add_ext (fun _ => False) hn) ⟨fun _ _ h => h, fun _ _ h => h, hI.frz, hI.vis⟩ h2⟩⟩
end

def Cx.set (C : Cx) (b : Nat) (vs : Array Value) : Cx := ⟨C.w.setRow b vs, C.frz, C.vis, C.ρ⟩
section
variable {C : Cx} {H : Hp} {i b m : Nat} {cur vs : Array Value} {e : TypeId}
theorem set_ext (hg : C.w.heap[b]? = some (.cells cur e (0, 0))) (hs : vs.size = cur.size) (T : Nat → Prop) (hT : T b) : Ext T C (C.set b vs) where
  os := rfl
  tape := rfl
  output := rfl
  size := by simp [Cx.set, World.setRow]
  blk := fun k hk hn => setRow_other C.w b k vs (fun he => hn (he ▸ hT))
  shp := fun k cs t h => by
    by_cases hk : k = b
    · subst hk
      rw [hg] at h
      cases h
      exact ⟨vs, setRow_heap C.w k cur vs e _ hg, hs⟩
    · exact ⟨cs, by rw [← h]; exact setRow_other C.w b k vs hk, rfl⟩
  frz := fun b h => h
  new := fun b h => .inl h
  vis := rfl
  rho := fun i p hp => hp
theorem set_inv (hI : Inv C H) (hr : C.ρ i = some (some b, m)) (hl : (H i).live) (hg : C.w.heap[b]? = some (.cells cur e (0, 0))) (hs : vs.size = cur.size) {nb : Blk} (hb : OwnAt (C.set b vs) i nb) : Inv (C.set b vs) (upd H i nb) where
  own := fun j => by
    by_cases hj : j = i
    · subst hj; rw [upd_self]; exact hb
    · rw [upd_ne hj]
      cases hH : H j with
      | dead => trivial
      | raw k cs =>
        have := hI.own j
        rw [← hH]
        refine OwnAt_ext (T := fun k => k = b) (set_ext hg hs _ rfl) (hI.off (fun k hk => ⟨i, m, hl, by rw [hk]; exact hr⟩)) this (fun b' n hb' he => hj ?_)
        subst he
        exact hI.inj j i _ _ _ (by rw [hH]; trivial) hl hb' hr
      | arr a =>
        have := hI.own j
        rw [← hH]
        refine OwnAt_ext (T := fun k => k = b) (set_ext hg hs _ rfl) (hI.off (fun k hk => ⟨i, m, hl, by rw [hk]; exact hr⟩)) this (fun b' n hb' he => hj ?_)
        subst he
        exact hI.inj j i _ _ _ (by rw [hH]; trivial) hl hb' hr
  inj := fun j k b' n l hj hk hrj hrk => by
    have key : ∀ j, (upd H i nb j).live → (H j).live := by
      intro j h
      by_cases hj : j = i
      · subst hj; exact hl
      · rw [upd_ne hj] at h; exact h
    exact hI.inj j k b' n l (key j hj) (key k hk) hrj hrk
  frz := fun b hb => by have := hI.frz b hb; simpa [Cx.set, World.setRow] using this
  vis := fun b hb => by have := hI.vis b hb; simpa [Cx.set, World.setRow] using this
end

def Cx.fz (C : Cx) (js : List Nat) : Cx := ⟨C.w, fun b => C.frz b ∨ ∃ j m, j ∈ js ∧ C.ρ j = some (some b, m), C.vis, C.ρ⟩
section
variable {C : Cx} {H : Hp} {js : List Nat}
theorem fz_ext (T : Nat → Prop) (hT : ∀ b j m, j ∈ js → C.ρ j = some (some b, m) → T b) : Ext T C (C.fz js) where
  os := rfl
  tape := rfl
  output := rfl
  size := Nat.le_refl _
  blk := fun _ _ _ => rfl
  shp := fun b vs e h => ⟨vs, h, rfl⟩
  frz := fun b h => .inl h
  new := fun b h => by
    rcases h with h | ⟨j, m, h1, h2⟩
    · exact .inl h
    · exact .inr (.inl (hT b j m h1 h2))
  vis := rfl
  rho := fun _ _ h => h
theorem wr_dead : ∀ (js : List Nat) (H : Hp) (i : Nat), wr H (js.map fun j => (j, Blk.dead)) i = if i ∈ js then .dead else H i
  | [], H, i => by simp [wr]
  | j :: r, H, i => by
    simp only [List.map_cons, wr, wr_dead r]
    by_cases h : i ∈ r
    · simp [h]
    · by_cases h2 : i = j
      · subst h2; simp [h, upd_self]
      · simp [h, h2, upd_ne h2]
theorem cellR_fz {x : Cell} {v : Value} (h : cellR C x v) : cellR (C.fz js) x v := by
  cases x with
  | arr z a =>
    refine arrR_ext (S := C.S z) (fun b hb => ?_) (fun _ _ => rfl) 4 a v h
    cases z
    · exact hb
    · exact .inl hb
  | rp z e k =>
    obtain ⟨ad, h1, h2, h3⟩ := h
    have hS : ∀ b, C.S z b → (C.fz js).S z b := fun b hb => by
      cases z
      · exact hb
      · exact .inl hb
    refine ⟨ad, h1, hS _ h2, fun j y hj => ?_⟩
    obtain ⟨u, h4, h5⟩ := h3 j y hj
    exact ⟨u, h4, elC_imp h5 fun _ b _ h6 => arrR_ext hS (fun _ _ => rfl) 3 b u h6⟩
  | mk l k => exact mkR_ext (fun b hb => .inl hb) (fun _ _ => rfl) l k v h
  | _ => exact h
theorem fz_inv (hI : Inv C H) (hjs : ∀ j ∈ js, (H j).live) : Inv (C.fz js) (wr H (js.map fun j => (j, .dead))) where
  own := fun i => by
    rw [wr_dead]
    by_cases hi : i ∈ js
    · rw [if_pos hi]; trivial
    · rw [if_neg hi]
      have ho := hI.own i
      have hne : ∀ b m, (H i).live → C.ρ i = some (some b, m) → ¬ C.frz b → ¬ (C.fz js).frz b := by
        rintro b m hl hr hn (h | ⟨j, k, h1, h2⟩)
        · exact hn h
        · exact hi (hI.inj i j b m k hl (hjs j h1) hr h2 ▸ h1)
      cases hH : H i with
      | dead => trivial
      | raw m cs =>
        rw [hH] at ho
        obtain ⟨b, vs, e, h1, h2, h3, h4, h5, h6⟩ := ho
        exact ⟨b, vs, e, h1, hne b m (by rw [hH]; trivial) h1 h2, h3, h4, h5, fun j x hj => by obtain ⟨u, h7, h8⟩ := h6 j x hj; exact ⟨u, h7, cellR_fz h8⟩⟩
      | arr a =>
        rw [hH] at ho
        rcases ho with h0 | ⟨b, vs, e, h1, h2, h3, h4, h5, h5', h6⟩
        · exact .inl h0
        exact .inr ⟨b, vs, e, h1, hne b _ (by rw [hH]; trivial) h1 h2, h3, h4, h5, h5', fun k hk j x hj => by
          obtain ⟨u, h7, h8⟩ := h6 k hk j x hj
          exact ⟨u, h7, elC_imp h8 fun _ b _ h9 => arrR_ext (fun b hb => .inl hb) (fun _ _ => rfl) 3 b u h9⟩⟩
  inj := fun i j b n m hi hj hri hrj => by
    rw [wr_dead] at hi hj
    split at hi
    · exact hi.elim
    · split at hj
      · exact hj.elim
      · exact hI.inj i j b n m hi hj hri hrj
  frz := fun b hb => by
    rcases hb with h | ⟨j, m, h1, h2⟩
    · exact hI.frz b h
    · exact hI.lt (hjs j h1) h2
  vis := hI.vis
theorem last_R (hI : Inv C H) {x : Cell} {u : Value} (hl : x.lasts H = true) (hx : cellR C x u) (hj : ∀ i ∈ x.ids, i ∈ js) : cellR (C.fz js) (x.last H) u := by
  cases x with
  | own i sz e =>
    simp only [Cell.lasts] at hl
    simp only [Cell.last]
    cases hH : H i with
    | dead => rw [hH] at hl; cases hl
    | raw m cs => rw [hH] at hl; cases hl
    | arr a =>
      rw [hH] at hl
      have ho := hI.own i
      rw [hH] at ho
      rcases ho with ⟨h0, h0'⟩ | ⟨b, vs, e', h1, h2, h3, h4, h5, h5', h6⟩
      · rcases hx with ⟨_, rfl⟩ | ⟨b', n, c, vs', h7, _⟩
        · exact ⟨none, 0, by rw [h0], by omega, by rw [h0]; decide, fun k hk => by omega⟩
        · rw [h0'] at h7; cases h7
      rcases hx with ⟨h7, _⟩ | ⟨b', n, c, vs', h7, rfl, h8, h9, h10⟩
      · rw [h1] at h7; cases h7
      rw [h1] at h7
      cases h7
      refine ⟨some ⟨b, 0, none⟩, c, rfl, h8, h5', fun k hk => ⟨_, rfl, .inr ⟨i, _, hj i (by simp [Cell.ids]), h1⟩, fun j x hjx => ?_⟩⟩
      obtain ⟨u, h11, h12⟩ := h6 k hk j x hjx
      refine ⟨u, ?_, elC_imp h12 fun _ b _ h13 => arrR_ext (fun b hb => .inl hb) (fun _ _ => rfl) 3 b u h13⟩
      have ha : (⟨b, 0, none⟩ : Addr).add (k * a.esz + j) = ⟨b, k * a.esz + j, none⟩ := by unfold Addr.add; split <;> simp_all
      rw [ha]
      show C.w.cell? _ = _
      simp [World.cell?, h4, h11]
  | arr z a => exact cellR_fz hx
  | int n => exact hx
  | u8 n => exact hx
  | bool b => exact hx
  | nilS => exact hx
  | tail i sz e k => cases hl
  | mk l k => exact cellR_fz hx
  | ptr i o => cases hl
  | ep i sz k o => cases hl
  | rp z e o => cases hl
  | nilP => cases hl
  | ifc n => cases hl
  | fnv f => exact hx
  | lit v => cases hl
end

end Hw
end Go.Proofs.Ytceihgojdnkfiaa
