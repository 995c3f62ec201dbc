/- The operations one by one. Part 9: literals of structs and slices. -/
import Derived.Test.YtceihgojdnkfiaaX10
set_option linter.unusedVariables false
set_option linter.unusedSimpArgs false
namespace Go.Proofs.Ytceihgojdnkfiaa
namespace Hw
open Go
section
variable {P : Program} {E : Env} {C : Cx} {H : Hp} {n : Nat}
def valsR (C : Cx) : List FV → List Value → Prop
  | [], [] => True
  | x :: r, v :: s => fvR C x v ∧ valsR C r s
  | _, _ => False
theorem valsR_len {C : Cx} : ∀ {xs : List FV} {vs : List Value}, valsR C xs vs → vs.length = xs.length
  | [], [], _ => rfl
  | x :: r, v :: s, h => by rw [List.length_cons, List.length_cons, valsR_len h.2]
theorem valsR_get {C : Cx} {xs : List FV} {vs : List Value} (h : valsR C xs vs) (j : Nat) (x : FV) (hx : xs[j]? = some x) : ∃ u, vs[j]? = some u ∧ fvR C x u := by
  induction xs generalizing vs j with
  | nil => simp at hx
  | cons y r ih =>
    cases vs with
    | nil => exact h.elim
    | cons v s =>
      cases j with
      | zero =>
        simp only [List.getElem?_cons_zero, Option.some.injEq] at hx
        subst hx
        exact ⟨v, rfl, h.1⟩
      | succ j =>
        simp only [List.getElem?_cons_succ] at hx ⊢
        exact ih h.2 j hx
theorem cellsR_append {C : Cx} {a b : List Cell} {u v : List Value} (h1 : cellsR C a u) (h2 : cellsR C b v) : cellsR C (a ++ b) (u ++ v) := by
  refine ⟨by rw [List.length_append, List.length_append, h1.1, h2.1], fun j x hj => ?_⟩
  by_cases hl : j < a.length
  · rw [List.getElem?_append_left hl] at hj
    rw [List.getElem?_append_left (by rw [h1.1]; exact hl)]
    exact h1.2 _ _ hj
  · rw [List.getElem?_append_right (by omega)] at hj
    rw [List.getElem?_append_right (by rw [h1.1]; omega), h1.1]
    exact h2.2 _ _ hj
theorem vals_cells {C : Cx} : ∀ {xs : List FV} {vs : List Value}, valsR C xs vs → cellsR C (xs.flatMap FV.cells) (vs.flatMap fun v => v.cells.toList)
  | [], [], _ => ⟨rfl, fun j x h => by cases h⟩
  | x :: r, v :: s, h => by
    rw [List.flatMap_cons, List.flatMap_cons]
    exact cellsR_append (fv_cells h.1) (vals_cells h.2)

def pairsR (C : Cx) : List (Nat × FV) → List (Nat × Value) → Prop
  | [], [] => True
  | x :: r, v :: s => x.1 = v.1 ∧ fvR C x.2 v.2 ∧ pairsR C r s
  | _, _ => False
theorem pairs_of {C : Cx} {ps : List (Nat × Value)} {xs : List FV} (h : valsR C xs (ps.map (·.2))) : pairsR C ((ps.map (·.1)).zip xs) ps := by
  induction ps generalizing xs with
  | nil =>
    cases xs with
    | nil => trivial
    | cons x xs => exact h.elim
  | cons p ps ih =>
    cases xs with
    | nil => exact h.elim
    | cons x xs => exact ⟨rfl, h.1, ih h.2⟩
theorem fill_ok {C : Cx} {offs fsz : List Nat} (hl : offs.length = fsz.length) : ∀ (ps : List (Nat × FV)) (qs : List (Nat × Value)) (cs cs' : List Cell) (cells : Array Value), pairsR C ps qs → cellsR C cs cells.toList → fill offs fsz ps cs = some cs' →
    ∃ cells', Instr.fill ((offs.zip fsz).toArray[·]?) cells qs = some cells' ∧ cellsR C cs' cells'.toList
  | [], [], cs, cs', cells, _, hc, h => by
    simp only [fill, Option.some.injEq] at h
    subst h
    exact ⟨cells, rfl, hc⟩
  | (f, x) :: ps, (g, v) :: qs, cs, cs', cells, hp, hc, h => by
    obtain ⟨h1, h2, h3⟩ := hp
    simp only at h1 h2
    subst h1
    unfold fill at h
    cases hb : (Nat.blt f offs.length && Nat.beq x.cells.length (nth f fsz) && Nat.ble (Nat.add (nth f offs) x.cells.length) cs.length) with
    | false => rw [hb] at h; cases h
    | true =>
      rw [hb] at h
      simp only [cond_true] at h
      simp only [Bool.and_eq_true] at hb
      obtain ⟨⟨hb1, hb2⟩, hb3⟩ := hb
      have hb1 : f < offs.length := Nat.le_of_ble_eq_true hb1
      have hb2 := Nat.eq_of_beq_eq_true hb2
      have hb3 : nth f offs + x.cells.length ≤ cs.length := Nat.le_of_ble_eq_true hb3
      have hn : ∀ (l : List Nat) (i : Nat) (hi : i < l.length), nth i l = l[i] := by
        intro l
        induction l with
        | nil => intro i hi; cases hi
        | cons x l ih =>
          intro i hi
          cases i with
          | zero => rfl
          | succ i => exact ih i (by simpa using hi)
      have hv := fv_cells h2
      have hvl : v.cells.size = x.cells.length := by have := hv.1; simpa using this
      have hcl : cells.size = cs.length := by have := hc.1; simpa using this
      obtain ⟨g1, g2⟩ := Great.foldl_set (nth f offs) v.cells.toList 0 cells
      have hR : cellsR C (splice cs (nth f offs) x.cells) ((v.cells.toList.zipIdx 0).foldl (fun cs (y : Value × Nat) => cs.setIfInBounds (nth f offs + y.2) y.1) cells).toList := by
        refine ⟨by rw [splice_len hb3, Array.length_toList, g1, hcl], fun j y hj => ?_⟩
        rw [splice_eq, seg_get _ _ _ _ hb3] at hj
        rw [Array.getElem?_toList, g2 j]
        simp only [Nat.add_zero, Array.length_toList, hvl]
        split at hj
        · rename_i hcnd
          rw [if_pos ⟨hcnd.1, hcnd.2, by omega⟩]
          exact hv.2 _ _ hj
        · rename_i hcnd
          rw [if_neg (fun hh => hcnd ⟨hh.1, hh.2.1⟩), ← Array.getElem?_toList]
          exact hc.2 _ _ hj
      obtain ⟨cells', h4, h5⟩ := fill_ok hl ps qs _ cs' _ h3 hR h
      refine ⟨cells', ?_, h5⟩
      have hz : (offs.zip fsz).toArray[f]? = some (nth f offs, nth f fsz) := by
        rw [List.getElem?_toArray, List.getElem?_zip_eq_some, hn _ _ hb1, hn _ _ (by omega)]
        exact ⟨List.getElem?_eq_getElem hb1, List.getElem?_eq_getElem (by omega)⟩
      unfold Instr.fill
      simp only [hz]
      rw [if_neg (by simp [hvl, hb2]; omega), ← h4]
      congr 1
      rw [← Array.foldl_toList, Array.toList_zipIdx]
theorem places_of : ∀ (fs : List Field) (l : List (Nat × Nat)), (fs.map fun f => (f.offset, ((P.info? f.type).map (·.size)).getD 0)) = l → (∀ p ∈ l, 0 < p.2) → fs.mapM (fun f => (P.info? f.type).map fun i => (f.offset, i.size)) = some l
  | [], l, h, _ => by simp at h; subst h; rfl
  | f :: fs, l, h, hp => by
    cases l with
    | nil => cases h
    | cons p l =>
      simp only [List.map_cons, List.cons.injEq] at h
      have h2 := places_of fs l h.2 (fun q hq => hp q (List.mem_cons_of_mem _ hq))
      have h3 := hp p List.mem_cons_self
      rw [← h.1] at h3
      cases hi : P.info? f.type with
      | none => rw [hi] at h3; simp at h3
      | some i =>
        have := h.1
        rw [hi] at this
        simp only [Option.map_some, Option.getD_some] at this
        simp only [List.mapM_cons, hi, h2, Option.map_some, Option.pure_def, Option.bind_eq_bind, Option.bind_some, this]
theorem build_ok {t : Nat} {ti : TI} (h : TIok P t ti) {parts : Array (Nat × Value)} {xs : List FV} {cs : List Cell} (hx : valsR C xs (parts.toList.map (·.2))) (hne : ti.offs ≠ [] ∨ (parts = #[] ∧ ti.agg = true)) (hf : fill ti.offs ti.fsz ((parts.toList.map (·.1)).zip xs) ti.zero = some cs) :
    ∃ u, (Instr.build t parts).run P C.w = .ok u C.w ∧ fvR C (.agg cs) u := by
  obtain ⟨d, hd1, hd2, hd3, -⟩ := h.d
  obtain ⟨i, z, hi1, hi2, hi3, hi4, hi5⟩ := h.i
  have hp := h.pos
  rw [Bool.and_eq_true] at hp
  have hl : ti.offs.length = ti.fsz.length := by simpa using hp.1
  obtain ⟨cells', h1, h2⟩ := fill_ok hl _ _ _ _ z.cells (pairs_of hx) (by rw [hi5]; exact zero_R C h.one) hf
  refine ⟨.agg cells', run_build _ _ _ _ ?_, cells', rfl, by simpa using h2.1, fun j x hj => by obtain ⟨u, h3, h4⟩ := h2.2 j x hj; exact ⟨u, by simpa using h3, h4⟩⟩
  cases d <;> simp only [fieldsD] at hd3
  case struct fs =>
    have h3 := places_of (P := P) fs.toList _ hd3 (fun p hp' => by
      have := (List.of_mem_zip hp').2
      exact Nat.le_of_ble_eq_true (List.all_eq_true.1 hp.2 _ this))
    unfold Program.built
    rw [hi1, hd1]
    simp only [hi2, h3]
    exact h1
  all_goals
    have : (ti.offs.zip ti.fsz).length = 0 := by rw [← hd3]; rfl
    rw [List.length_zip, hl] at this
    rcases hne with hne | ⟨hp0, hag⟩
    · exact absurd (List.length_eq_zero_iff.1 (by omega)) hne
    · have hs := h.str
      rw [hd1, hag] at hs
      simp [isStrD] at hs
end
end Hw
end Go.Proofs.Ytceihgojdnkfiaa
