/- What an operation says hangs on its operands and on the blocks that it reads alone. -/
import Derived.Test.YtfboldbfbmmahaaX14
set_option linter.unusedVariables false
set_option linter.unusedSimpArgs false
namespace Go.Proofs.Ytfboldbfbmmahaa
namespace Hw
open Go
section
variable {E : Env} {H H' : Hp} {n : Nat}
theorem aLoad_loc {ti : TI} {p : Cell} {r : OpR} (h : aLoad ti H n p = some r) (hH : ∀ j ∈ r.rd, H' j = H j) : aLoad ti H' n p = some r := by
  unfold aLoad at h ⊢
  split at h
  · rename_i i o
    cases hHi : H i with
    | dead => rw [hHi] at h; cases h
    | mp l => rw [hHi] at h; cases h
    | arr a => rw [hHi] at h; cases h
    | raw m cs =>
      rw [hHi] at h
      simp only at h
      cases hb : Nat.ble (Nat.add o ti.size) cs.length with
      | false => rw [hb] at h; cases h
      | true =>
        have h' := h
        rw [hb] at h'
        simp only [cond_true] at h'
        cases hv : fvOfCells ti.agg ((cs.drop o).take ti.size) with
        | none => rw [hv] at h'; cases h'
        | some v =>
          rw [hv] at h'
          simp only [Option.map_some, Option.some.injEq] at h'
          subst h'
          simp only [hH i (by simp), hHi]
          exact h
  · rename_i i sz k o
    cases hHi : H i with
    | dead => rw [hHi] at h; cases h
    | mp l => rw [hHi] at h; cases h
    | raw m cs => rw [hHi] at h; cases h
    | arr a =>
      rw [hHi] at h
      simp only at h
      cases hb : (Nat.beq sz a.esz && Nat.ble (Nat.add o ti.size) a.esz) with
      | false => rw [hb] at h; cases h
      | true =>
        have h' := h
        rw [hb] at h'
        simp only [cond_true] at h'
        cases hv : fvOfCells ti.agg ((((a.get k).cells true).drop o).take ti.size) with
        | none => rw [hv] at h'; cases h'
        | some v =>
          rw [hv] at h'
          simp only [Option.map_some, Option.some.injEq] at h'
          subst h'
          simp only [hH i (by simp), hHi]
          exact h
  · exact h
  · exact h
  · cases h
theorem frozen_loc {xs : List Cell} (hH : ∀ j ∈ frozenIds xs, H' j = H j) : xs.all (Cell.lasts H') = xs.all (Cell.lasts H) ∧ xs.map (Cell.last H') = xs.map (Cell.last H) := by
  have key : ∀ x ∈ xs, x.lasts H' = x.lasts H ∧ x.last H' = x.last H := by
    intro x hx
    cases x with
    | own i sz e =>
      have : i ∈ frozenIds xs := List.mem_flatMap.2 ⟨_, hx, by simp⟩
      simp only [Cell.lasts, Cell.last, hH i this, and_self]
    | _ => exact ⟨rfl, rfl⟩
  constructor
  · clear hH
    induction xs with
    | nil => rfl
    | cons x xs ih => rw [List.all_cons, List.all_cons, (key x List.mem_cons_self).1, ih fun y hy => key y (List.mem_cons_of_mem _ hy)]
  · exact List.map_congr_left fun x hx => (key x hx).2
theorem aMark_loc {xs : List Cell} {r : OpR} (h : aMark H n xs = some r) (hH : ∀ j ∈ r.rd, H' j = H j) : aMark H' n xs = some r := by
  have hrd : r.rd = frozenIds xs := by
    unfold aMark at h
    cases hb : (Nat.beq xs.length 8 && xs.all (Cell.lasts H) && nodupN (frozenIds xs)) with
    | false => rw [hb] at h; cases h
    | true =>
      rw [hb] at h
      simp only [cond_true] at h
      split at h
      · cases hs : stOf ((xs.take 7).map (Cell.last H)) with
        | none => rw [hs] at h; cases h
        | some s => rw [hs] at h; simp only [Option.map_some, Option.some.injEq] at h; subst h; rfl
      · cases h
  rw [hrd] at hH
  obtain ⟨f1, f2⟩ := frozen_loc hH
  unfold aMark at h ⊢
  rw [f1, List.map_take, f2, ← List.map_take]
  exact h
theorem aStore_loc {ti : TI} {p : Cell} {xs : List Cell} {r : OpR} (h : aStore ti H n p xs = some r) (hH : ∀ j ∈ r.rd, H' j = H j) : aStore ti H' n p xs = some r := by
  unfold aStore at h ⊢
  cases hl : Nat.beq xs.length ti.size with
  | false => rw [hl] at h; cases h
  | true =>
  rw [hl] at h
  simp only [cond_true] at h ⊢
  split at h
  · rename_i i o
    cases hHi : H i with
    | dead => rw [hHi] at h; cases h
    | mp l => rw [hHi] at h; cases h
    | arr a => rw [hHi] at h; cases h
    | raw m cs =>
      rw [hHi] at h
      simp only at h
      have h' := h
      cases hb : Nat.ble (Nat.add o xs.length) cs.length with
      | false => rw [hb] at h'; cases h'
      | true =>
        rw [hb] at h'
        simp only [cond_true, Option.some.injEq] at h'
        subst h'
        simp only [hH i (by simp), hHi]
        exact h
  · rename_i i sz k o
    cases hHi : H i with
    | dead => rw [hHi] at h; cases h
    | mp l => rw [hHi] at h; cases h
    | raw m cs => rw [hHi] at h; cases h
    | arr a =>
      rw [hHi] at h
      simp only at h
      have h' := h
      cases hb : (Nat.beq sz a.esz && Nat.ble (Nat.add o xs.length) a.esz && xs.all (Cell.lasts H) && nodupN (i :: frozenIds xs)) with
      | false => rw [hb] at h'; cases h'
      | true =>
        rw [hb] at h'
        simp only [cond_true] at h'
        cases he : El.ofCells a.ek (splice ((a.get k).cells true) o (xs.map (Cell.last H))) with
        | none => rw [he] at h'; cases h'
        | some e =>
          rw [he] at h'
          simp only [Option.bind_some] at h'
          cases hs : a.set k e with
          | none => rw [hs] at h'; cases h'
          | some b =>
            rw [hs] at h'
            simp only [Option.bind_some, Option.some.injEq] at h'
            subst h'
            obtain ⟨f1, f2⟩ := frozen_loc (H := H) (H' := H') (xs := xs) (fun j hj => hH j (List.mem_cons_of_mem _ hj))
            simp only [hH i List.mem_cons_self, hHi, f1, f2]
            exact h
  · cases h
theorem aLen_loc {x : Cell} {r : OpR} (h : aLen H n x = some r) (hH : ∀ j ∈ r.rd, H' j = H j) : aLen H' n x = some r := by
  unfold aLen at h ⊢
  split at h
  · exact h
  · rename_i i _ _
    cases hHi : H i with
    | dead => rw [hHi] at h; cases h
    | mp l => rw [hHi] at h; cases h
    | raw m cs =>
      rw [hHi] at h
      simp only [Option.some.injEq] at h
      subst h
      simp only [hH i (by simp), hHi]
    | arr a =>
      rw [hHi] at h
      simp only [Option.some.injEq] at h
      subst h
      simp only [hH i (by simp), hHi]
  · exact h
  · rename_i i _ _ k
    cases hHi : H i with
    | dead => rw [hHi] at h; cases h
    | mp l => rw [hHi] at h; cases h
    | arr a => rw [hHi] at h; cases h
    | raw m cs =>
      rw [hHi] at h
      simp only [Option.some.injEq] at h
      subst h
      simp only [hH i (by simp), hHi]
  · cases h
theorem aIndexAddr_loc {ch : Option Nat} {s : Nat} {x : Cell} {i : Int} {r : OpR} (h : aIndexAddr ch s H n x i = some r) (hH : ∀ j ∈ r.rd, H' j = H j) : aIndexAddr ch s H' n x i = some r := by
  unfold aIndexAddr at h ⊢
  split at h
  · exact h
  · rename_i j sz _
    cases hb : Nat.beq s sz with
    | false => rw [hb] at h; cases h
    | true =>
    rw [hb] at h
    simp only [Bool.not_true, cond_false] at h ⊢
    cases hHi : H j with
    | dead => rw [hHi] at h; cases h
    | mp l => rw [hHi] at h; cases h
    | raw m cs =>
      rw [hHi] at h
      simp only at h
      cases ch with
      | none =>
        simp only [Option.some.injEq] at h
        subst h
        rw [hH j (by simp), hHi]
      | some k =>
        simp only at h
        have h' := h
        cases hk : Nat.blt k m with
        | false => rw [hk] at h'; cases h'
        | true =>
          rw [hk] at h'
          simp only [cond_true, Option.some.injEq] at h'
          subst h'
          rw [hH j (by simp), hHi]
          exact h
    | arr a =>
      rw [hHi] at h
      simp only [Option.some.injEq] at h
      subst h
      simp only [hH j (by simp), hHi]
  · rename_i j sz _ q
    cases hb : Nat.beq s sz with
    | false => rw [hb] at h; cases h
    | true =>
    rw [hb] at h
    simp only [Bool.not_true, cond_false] at h ⊢
    cases hHi : H j with
    | dead => rw [hHi] at h; cases h
    | mp l => rw [hHi] at h; cases h
    | arr a => rw [hHi] at h; cases h
    | raw m cs =>
      rw [hHi] at h
      simp only at h
      cases ch with
      | none => cases h
      | some k =>
        simp only at h
        have h' := h
        cases hk : Nat.blt k m with
        | false => rw [hk] at h'; cases h'
        | true =>
          rw [hk] at h'
          simp only [cond_true, Option.some.injEq] at h'
          subst h'
          rw [hH j (by simp), hHi]
          exact h
  · cases h
theorem asSrc_loc {k : EK} {x : Cell} {y : Arr × List Nat} (h : asSrc k H x = some y) (hH : ∀ j ∈ y.2, H' j = H j) : asSrc k H' x = some y := by
  unfold asSrc at h ⊢
  split at h
  · exact h
  · exact h
  · rename_i j sz _
    cases hHi : H j with
    | dead => rw [hHi] at h; cases h
    | mp l => rw [hHi] at h; cases h
    | raw m cs => rw [hHi] at h; cases h
    | arr a =>
      rw [hHi] at h
      simp only at h
      cases hb : Nat.beq sz a.esz with
      | false => rw [hb] at h; cases h
      | true =>
        rw [hb] at h
        simp only [cond_true, Option.some.injEq] at h
        subst h
        simp only [hH j (by simp), hHi, hb, cond_true]
  · cases h
theorem aAppend_loc {k : EK} {e : Nat} {s x : Cell} {r : OpR} (h : aAppend k e H n s x = some r) (hH : ∀ j ∈ r.rd, H' j = H j) : aAppend k e H' n s x = some r := by
  unfold aAppend at h ⊢
  cases hs : asSrc k H x with
  | none => rw [hs] at h; cases h
  | some y =>
    rw [hs] at h
    simp only [Option.bind_some] at h
    split at h
    · cases hc : (Arr.nil k).app y.1 with
      | none => rw [hc] at h; cases h
      | some c =>
        rw [hc] at h
        simp only [Option.map_some, Option.some.injEq] at h
        subst h
        rw [asSrc_loc hs hH]
        simp only [Option.bind_some, hc, Option.map_some]
    · rename_i i sz' e'
      cases hHi : H i with
      | dead => rw [hHi] at h; cases h
      | mp l => rw [hHi] at h; cases h
      | raw m cs => rw [hHi] at h; cases h
      | arr a =>
        rw [hHi] at h
        simp only at h
        cases hb : (memN i y.2 || !Nat.beq sz' a.esz || !Nat.beq sz' k.size || !Nat.beq e e' || !Nat.beq a.ek.code k.code) with
        | true => rw [hb] at h; cases h
        | false =>
          rw [hb] at h
          simp only [cond_false] at h
          cases hc : a.app y.1 with
          | none => rw [hc] at h; cases h
          | some c =>
            rw [hc] at h
            simp only [Option.map_some, Option.some.injEq] at h
            subst h
            rw [asSrc_loc hs fun j hj => hH j (List.mem_cons_of_mem _ hj)]
            simp only [Option.bind_some, hH i List.mem_cons_self, hHi, hb, cond_false, hc, Option.map_some]
    · cases h
theorem aCopy_loc {k : EK} {e : Nat} {s x : Cell} {r : OpR} (h : aCopy k e H n s x = some r) (hH : ∀ j ∈ r.rd, H' j = H j) : aCopy k e H' n s x = some r := by
  unfold aCopy at h ⊢
  cases hs : asSrc k H x with
  | none => rw [hs] at h; cases h
  | some y =>
    rw [hs] at h
    simp only [Option.bind_some] at h
    split at h
    · rename_i i sz' e'
      cases hHi : H i with
      | dead => rw [hHi] at h; cases h
      | mp l => rw [hHi] at h; cases h
      | raw m cs => rw [hHi] at h; cases h
      | arr a =>
        rw [hHi] at h
        simp only at h
        cases hb : (memN i y.2 || !Nat.beq sz' a.esz || !Nat.beq sz' k.size || !Nat.beq e e' || !Nat.beq y.1.ek.code k.code) with
        | true => rw [hb] at h; cases h
        | false =>
          rw [hb] at h
          simp only [cond_false, Option.some.injEq] at h
          subst h
          rw [asSrc_loc hs fun j hj => hH j (List.mem_cons_of_mem _ hj)]
          simp only [Option.bind_some, hH i List.mem_cons_self, hHi, hb, cond_false]
    · cases h
theorem aBuildSlice_loc {k : EK} {e : Nat} {raw : Bool} {len : Nat} {js : List Nat} {xs : List FV} {r : OpR} (h : aBuildSlice k e raw len H n js xs = some r) (hH : ∀ j ∈ r.rd, H' j = H j) : aBuildSlice k e raw len H' n js xs = some r := by
  unfold aBuildSlice at h ⊢
  cases hb : (Nat.beq xs.length len && Nat.beq js.length len && inOrder js 0 && Nat.ble len 1000 && xs.all (fun x => Nat.beq x.cells.length k.size)) with
  | false => rw [hb] at h; cases h
  | true =>
    rw [hb] at h
    simp only [cond_true] at h ⊢
    cases raw with
    | true => exact h
    | false =>
      simp only [cond_false] at h ⊢
      have h' := h
      cases hc : ((xs.flatMap FV.cells).all (Cell.lasts H) && nodupN (frozenIds (xs.flatMap FV.cells))) with
      | false => rw [hc] at h'; cases h'
      | true =>
        rw [hc] at h'
        simp only [cond_true] at h'
        cases hes : elsOf k (xs.map fun x => x.cells.map (Cell.last H)) with
        | none => rw [hes] at h'; cases h'
        | some es =>
          rw [hes] at h'
          simp only [Option.bind_some] at h'
          cases ha : Arr.ofEls k es with
          | none => rw [ha] at h'; cases h'
          | some a =>
            rw [ha] at h'
            simp only [Option.map_some, Option.some.injEq] at h'
            subst h'
            obtain ⟨f1, f2⟩ := frozen_loc (H := H) (H' := H') (xs := xs.flatMap FV.cells) hH
            have f3 : (xs.map fun x => x.cells.map (Cell.last H')) = xs.map fun x => x.cells.map (Cell.last H) := by
              refine List.map_congr_left fun x hx => (frozen_loc (H := H) (H' := H') (xs := x.cells) fun j hj => hH j ?_).2
              obtain ⟨y, hy, hj⟩ := List.mem_flatMap.1 hj
              exact List.mem_flatMap.2 ⟨y, List.mem_flatMap.2 ⟨x, hx, hy⟩, hj⟩
            simp only [f1, f3]
            exact h
theorem gather_sub (H : Hp) : ∀ (f : Nat) (l acc : List Nat), ∀ i ∈ acc, i ∈ gather H f l acc
  | 0, l, acc, i, h => h
  | f + 1, [], acc, i, h => h
  | f + 1, j :: r, acc, i, h => by
    unfold gather
    cases memN j acc with
    | true => exact gather_sub H f r acc i h
    | false => exact gather_sub H f _ _ i (List.mem_append_left _ h)
theorem gather_loc : ∀ (f : Nat) (l acc : List Nat), (∀ j ∈ gather H f l acc, H' j = H j) → gather H' f l acc = gather H f l acc
  | 0, l, acc, _ => rfl
  | f + 1, [], acc, _ => rfl
  | f + 1, j :: r, acc, h => by
    unfold gather at h ⊢
    cases hm : memN j acc with
    | true => rw [hm] at h; exact gather_loc f r acc h
    | false =>
      rw [hm] at h
      simp only [cond_false] at h ⊢
      have hj : H' j = H j := h j (gather_sub H f _ _ j (List.mem_append_right _ (List.mem_singleton.2 rfl)))
      rw [hj]
      exact gather_loc f _ _ h
theorem viewed_mem : ∀ {vw : List Bool} {args : List FV} {x : FV}, x ∈ viewedOf vw args → x ∈ args
  | [], [], x, h => h
  | [], y :: r, x, h => by simp [viewedOf] at h
  | true :: vw, [], x, h => h
  | false :: vw, [], x, h => h
  | true :: vw, y :: r, x, h => by
    simp only [viewedOf, List.mem_cons] at h
    rcases h with rfl | h
    · exact List.mem_cons_self
    · exact List.mem_cons_of_mem _ (viewed_mem h)
  | false :: vw, y :: r, x, h => List.mem_cons_of_mem _ (viewed_mem (vw := vw) h)
theorem mixA_loc {f : Nat → Nat} : ∀ {vw : List Bool} {args : List FV}, (∀ x ∈ viewedOf vw args, x.view H' = x.view H) → mixA H' f vw args = mixA H f vw args
  | [], [], h => rfl
  | [], y :: r, h => by
    simp only [mixA]
    rw [mixA_loc (vw := []) (args := r) fun x hx => by cases r <;> simp [viewedOf] at hx]
  | true :: vw, [], h => rfl
  | false :: vw, [], h => rfl
  | true :: vw, y :: r, h => by
    simp only [mixA, viewedOf] at h ⊢
    rw [h y List.mem_cons_self, mixA_loc fun x hx => h x (List.mem_cons_of_mem _ hx)]
  | false :: vw, y :: r, h => by
    simp only [mixA, viewedOf] at h ⊢
    rw [mixA_loc h]
theorem idsOk_loc {ids : List Nat} {xs : List FV} (hH : ∀ j ∈ ids, H' j = H j) : idsOk H' n ids xs = idsOk H n ids xs := by
  unfold idsOk
  congr 1
  have : ∀ (l : List Nat), (∀ j ∈ l, H' j = H j) → (l.all fun j => allIn (H' j).ids ids) = l.all fun j => allIn (H j).ids ids := by
    intro l
    induction l with
    | nil => intro _; rfl
    | cons x l ih => intro hl; rw [List.all_cons, List.all_cons, hl x List.mem_cons_self, ih fun y hy => hl y (List.mem_cons_of_mem _ hy)]
  exact this _ hH
theorem aCall_loc {c : Ctr} {args : List FV} {r : OpR} (h : aCall c H n args = some r) (hH : ∀ j ∈ r.rd, H' j = H j) : aCall c H' n args = some r := by
  unfold aCall at h ⊢
  have h' := h
  simp only at h'
  cases hid : (idsOk H n (gather H 64 ((handedOf c.vw args).flatMap FV.ids) []) (handedOf c.vw args) && idsOk H n (gather H 64 ((viewedOf c.vw args).flatMap FV.ids) []) (viewedOf c.vw args) && ((viewedOf c.vw args).all fun x => (x.view H).ids.isEmpty) && (gather H 64 ((viewedOf c.vw args).flatMap FV.ids) []).all (fun i => !memN i (gather H 64 ((handedOf c.vw args).flatMap FV.ids) []))) with
  | false => rw [hid] at h'; cases h'
  | true =>
    rw [hid] at h'
    simp only [cond_true] at h'
    have hv := hid
    simp only [Bool.and_eq_true] at hv
    obtain ⟨j1, j2, j3, j4⟩ := idsOk_of hv.1.1.2
    cases hF : c.F (handed H (gather H 64 ((handedOf c.vw args).flatMap FV.ids) [])) (mixA H (fun i => idx i (gather H 64 ((handedOf c.vw args).flatMap FV.ids) [])) c.vw args) with
    | none => rw [hF] at h'; cases h'
    | some y =>
      obtain ⟨p, q, bs⟩ := y
      rw [hF] at h'
      simp only at h'
      cases hb : (stillDead (handed H (gather H 64 ((handedOf c.vw args).flatMap FV.ids) [])) bs && ((viewedOf c.vw args).isEmpty || (q.safe && bs.all Blk.safe))) with
      | false => rw [hb] at h'; cases h'
      | true =>
        rw [hb] at h'
        simp only [cond_true, Option.some.injEq] at h'
        subst h'
        have hH1 : ∀ j ∈ gather H 64 ((handedOf c.vw args).flatMap FV.ids) [], H' j = H j := fun j hj => hH j (List.mem_append_right _ hj)
        have hH2 : ∀ j ∈ gather H 64 ((viewedOf c.vw args).flatMap FV.ids) [], H' j = H j := fun j hj => hH j (List.mem_append_left _ hj)
        have hg1 := gather_loc _ _ _ hH1
        have hg2 := gather_loc _ _ _ hH2
        have hh : handed H' (gather H 64 ((handedOf c.vw args).flatMap FV.ids) []) = handed H (gather H 64 ((handedOf c.vw args).flatMap FV.ids) []) := List.map_congr_left fun j hj => by simp only [hH1 j hj]
        have hvw : ∀ x ∈ viewedOf c.vw args, x.view H' = x.view H := fun x hx => view_loc hH2 (j3 x hx) j4
        have e3 : ((viewedOf c.vw args).all fun x => (x.view H').ids.isEmpty) = (viewedOf c.vw args).all fun x => (x.view H).ids.isEmpty := by
          clear h hb hF hH hid hv j1 j2 j3 j4 hH1 hH2 hg1 hg2 hh
          generalize viewedOf c.vw args = l at hvw
          induction l with
          | nil => rfl
          | cons x xs ih => rw [List.all_cons, List.all_cons, hvw x List.mem_cons_self, ih fun y hy => hvw y (List.mem_cons_of_mem _ hy)]
        simp only [hg1, hg2, hh, idsOk_loc hH1, idsOk_loc hH2, e3, mixA_loc hvw]
        exact h
theorem aFro_loc {x : Cell} {lo : Int} {esz : Nat} {r : OpR} (h : aFro H n x lo esz = some r) (hH : ∀ j ∈ r.rd, H' j = H j) : aFro H' n x lo esz = some r := by
  unfold aFro at h ⊢
  have h' := h
  cases hb : froOk H n (gather H 64 x.ids []) [.c x] with
  | false => rw [hb] at h'; cases h'
  | true =>
    rw [hb] at h'
    simp only [cond_true] at h'
    have hb' := hb
    unfold froOk at hb'
    simp only [Bool.and_eq_true] at hb'
    obtain ⟨i1, i2, i3, i4⟩ := idsOk_of hb'.1.1.1.1
    have key : (∀ j ∈ gather H 64 x.ids [], H' j = H j) → aFro H' n x lo esz = some r := by
      intro hH
      have e1 := gather_loc _ _ _ hH
      have e2 : (FV.c x).view H' = (FV.c x).view H := view_loc hH (i3 (.c x) (List.mem_singleton.2 rfl)) i4
      have e3 : x.view H' = x.view H := by
        simp only [FV.view, FV.c.injEq] at e2
        exact e2
      have all1 : ∀ (f : Blk → Bool) (l : List Nat), (∀ j ∈ l, H' j = H j) → (l.all fun j => f (H' j)) = l.all fun j => f (H j) := by
        intro f l
        induction l with
        | nil => intro _; rfl
        | cons x l ih => intro hl; rw [List.all_cons, List.all_cons, hl x List.mem_cons_self, ih fun y hy => hl y (List.mem_cons_of_mem _ hy)]
      have e4 : froOk H' n (gather H 64 x.ids []) [.c x] = froOk H n (gather H 64 x.ids []) [.c x] := by
        unfold froOk allLive
        rw [idsOk_loc hH, all1 (fun b => !b.isDead) _ hH, all1 (fun b => b.safe) _ hH]
        simp only [List.all_cons, List.all_nil, e2]
      unfold aFro
      rw [e1, e4, e3]
      exact h
    have := key
    unfold aFro at this
    refine this ?_
    split at h'
    · rename_i z b hv
      cases hq : Nat.beq b.esz esz with
      | true =>
        rw [hq] at h'
        simp only [cond_true, Option.some.injEq] at h'
        subst h'
        exact hH
      | false => rw [hq] at h'; cases h'
    · cases h'
theorem aFro_mem {x : Cell} {lo : Int} {esz : Nat} {r : OpR} (h : aFro H n x lo esz = some r) : ∀ i ∈ x.ids, i ∈ r.rd := by
  unfold aFro at h
  cases hf : froOk H n (gather H 64 x.ids []) [.c x] with
  | false => rw [hf] at h; cases h
  | true =>
    rw [hf] at h
    simp only [cond_true] at h
    unfold froOk at hf
    simp only [Bool.and_eq_true] at hf
    obtain ⟨_, _, i3, _⟩ := idsOk_of hf.1.1.1.1
    split at h
    · rename_i z b hv
      cases hq : Nat.beq b.esz esz with
      | true =>
        rw [hq] at h
        simp only [cond_true, Option.some.injEq] at h
        subst h
        exact fun i hi => i3 (.c x) (List.mem_singleton.2 rfl) i hi
      | false => rw [hq] at h; cases h
    · cases h
theorem evOp_loc {o : Oper} {π : List (Nat × Bool)} {fr fr' : Fr} {r : OpR} (hf : ∀ t, Operand.tmp t ∈ o.op.operands.toList → fr' t = fr t) (hH : ∀ j ∈ r.rd, H' j = H j) (h : evOp E o π fr H n = some r) : evOp E o π fr' H' n = some r := by
  have ho : ∀ x ∈ o.op.operands.toList, ∀ π, opnd fr' π x = opnd fr π x := by
    intro x hx π
    cases x with
    | tmp t => simp only [opnd, hf t hx]
    | _ => rfl
  have hm : ∀ xs : List Operand, (∀ x ∈ xs, x ∈ o.op.operands.toList) → xs.map (opnd fr' π) = xs.map (opnd fr π) := fun xs hx => List.map_congr_left fun x hx' => ho x (hx x hx') π
  unfold evOp at h ⊢
  split at h
  · rename_i x hop
    rw [ho x (by simp [hop, Op.operands])]
    exact h
  · rename_i x hop
    rw [ho x (by simp [hop, Op.operands])]
    exact h
  · rename_i d x y hop
    rw [ho (.tmp d) (by simp [hop, Op.operands])]
    split at h
    · rename_i g hg
      rw [ho x (by simp [hop, Op.operands]), ho y (by simp [hop, Op.operands])]
      exact h
    · cases h
  · rename_i t hop
    exact h
  · rename_i t x hop
    rw [ho x (by simp [hop, Op.operands])]
    cases hx : asFV (opnd fr π x) with
    | none => rw [hx] at h; cases h
    | some v =>
      rw [hx] at h
      simp only [Option.bind_some] at h ⊢
      cases hm : Nat.beq t E.markT with
      | true =>
        rw [hm] at h
        simp only [cond_true] at h ⊢
        exact aMark_loc h hH
      | false =>
        rw [hm] at h
        exact h
  · rename_i t x hop
    rw [ho x (by simp [hop, Op.operands])]
    cases ht : E.T.get t with
    | none => rw [ht] at h; cases h
    | some ti =>
      rw [ht] at h
      cases hx : asC (opnd fr π x) with
      | none => rw [hx] at h; cases h
      | some p =>
        rw [hx] at h
        simp only [Option.bind_some] at h ⊢
        exact aLoad_loc h hH
  · rename_i t x y hop
    rw [ho x (by simp [hop, Op.operands]), ho y (by simp [hop, Op.operands])]
    cases ht : E.T.get t with
    | none => rw [ht] at h; cases h
    | some ti =>
      rw [ht] at h
      cases hx : asC (opnd fr π x) with
      | none => rw [hx] at h; cases h
      | some p =>
        rw [hx] at h
        cases hy : asFV (opnd fr π y) with
        | none => rw [hy] at h; cases h
        | some v =>
          rw [hy] at h
          simp only [Option.bind_some] at h ⊢
          exact aStore_loc h hH
  · rename_i x hop
    rw [ho x (by simp [hop, Op.operands])]
    exact h
  · rename_i op t x y ty hop
    rw [ho x (by simp [hop, Op.operands]), ho y (by simp [hop, Op.operands])]
    exact h
  · rename_i t x hop
    rw [ho x (by simp [hop, Op.operands])]
    exact h
  · rename_i t x hop
    rw [ho x (by simp [hop, Op.operands])]
    exact h
  · rename_i t x f hop
    rw [ho x (by simp [hop, Op.operands])]
    exact h
  · rename_i t x i hop
    rw [ho x (by simp [hop, Op.operands]), ho i (by simp [hop, Op.operands])]
    cases ht : elemOf E.T t with
    | none => rw [ht] at h; cases h
    | some te =>
      rw [ht] at h
      simp only [Option.bind_some] at h ⊢
      split at h
      · rename_i y j hx hi
        exact aIndexAddr_loc h hH
      · cases h
  · rename_i t parts hop
    have e : (parts.toList.map fun e => opnd fr' π e.2) = parts.toList.map fun e => opnd fr π e.2 :=
      List.map_congr_left fun x hx => ho x.2 (by simp only [hop, Op.operands]; exact List.mem_map.2 ⟨x, hx, rfl⟩) π
    rw [e]
    exact h
  · rename_i t len parts hop
    have e : (parts.toList.map fun e => opnd fr' π e.2) = parts.toList.map fun e => opnd fr π e.2 :=
      List.map_congr_left fun x hx => ho x.2 (by simp only [hop, Op.operands]; exact List.mem_map.2 ⟨x, hx, rfl⟩) π
    rw [e]
    cases ht : elemOf E.T t with
    | none => rw [ht] at h; cases h
    | some te =>
      rw [ht] at h
      simp only [Option.bind_some] at h ⊢
      cases hke : te.2.ek with
      | none => rw [hke] at h; cases h
      | some k =>
        rw [hke] at h
        simp only [Option.bind_some] at h ⊢
        cases hx : fvs (parts.toList.map fun e => opnd fr π e.2) with
        | none => rw [hx] at h; cases h
        | some xs =>
          rw [hx] at h
          simp only [Option.bind_some] at h ⊢
          exact aBuildSlice_loc h hH
  · rename_i t x y hop
    rw [ho x (by simp [hop, Op.operands]), ho y (by simp [hop, Op.operands])]
    exact h
  · rename_i t x hop
    cases x with
    | none => exact h
    | some x =>
      have e := ho x (by simp [hop, Op.operands]) π
      simp only [e] at h ⊢
      exact h
  · rename_i t m k ok hop
    rw [ho m (by simp [hop, Op.operands]), ho k (by simp [hop, Op.operands])]
    cases hm : (ok || !mapOk E t) with
    | true => rw [hm] at h; cases h
    | false =>
      rw [hm] at h
      simp only [cond_false] at h ⊢
      split at h
      · rename_i i j hp hq
        split at h
        · rename_i l hl
          simp only [Option.some.injEq] at h
          subst h
          rw [hH i (by simp), hl]
        · cases h
      · cases h
  · rename_i t m k x hop
    rw [ho m (by simp [hop, Op.operands]), ho k (by simp [hop, Op.operands]), ho x (by simp [hop, Op.operands])]
    cases hm : mapOk E t with
    | false => rw [hm] at h; cases h
    | true =>
      rw [hm] at h
      simp only [Bool.not_true, cond_false] at h ⊢
      split at h
      · rename_i i j y hp hq hy
        split at h
        · rename_i l hl
          simp only [Option.some.injEq] at h
          subst h
          rw [hH i (by simp), hl]
        · cases h
      · cases h
  · rename_i t x hop
    rw [ho x (by simp [hop, Op.operands])]
    exact h
  · rename_i x _ t ok hop
    rw [ho x (by simp [hop, Op.operands])]
    exact h
  · rename_i s t x hop
    rw [ho x (by simp [hop, Op.operands])]
    exact h
  · rename_i t x lo hi mx hop
    rw [ho x (by simp [hop, Op.operands])]
    cases hmx : mx.isSome with
    | true => rw [hmx] at h; cases h
    | false =>
    rw [hmx] at h
    simp only [cond_false] at h ⊢
    cases ht : elemOf E.T t with
    | none => rw [ht] at h; cases h
    | some te =>
    rw [ht] at h
    simp only [Option.bind_some] at h ⊢
    cases lo with
    | none =>
      cases hi with
      | none => exact h
      | some y =>
        have e : ∀ π, opnd fr' π y = opnd fr π y := ho y (by simp [hop, Op.operands])
        simp only [e] at h ⊢
        exact h
    | some l =>
      cases hi with
      | some y => exact h
      | none =>
        have e : ∀ π, opnd fr' π l = opnd fr π l := ho l (by simp [hop, Op.operands])
        simp only [e] at h ⊢
        split at h
        · rename_i i sz e' j hx hl
          have hi : H' i = H i := by
            cases hHi : H i with
            | raw m cs =>
              rw [hHi] at h
              simp only at h
              cases hb : (Nat.beq sz te.2.size && Nat.beq e' te.1) with
              | false => rw [hb] at h; cases h
              | true =>
                rw [hb] at h
                simp only [cond_true, Option.some.injEq] at h
                subst h
                rw [← hHi]
                exact hH i (by simp)
            | _ =>
              rw [hHi] at h
              rw [← hHi]
              exact hH i (aFro_mem h i (by simp [Cell.ids]))
          rw [hi]
          cases hHi : H i with
          | raw m cs => rw [hHi] at h; exact h
          | _ => rw [hHi] at h; exact aFro_loc h hH
        · exact aFro_loc h hH
        · cases h
  · rename_i x i hop
    rw [ho x (by simp [hop, Op.operands])]
    exact h
  · rename_i f first cap hop
    split at h
    · rename_i x hf hc
      have hx : x ∈ o.op.operands.toList := by simp [hop, Op.operands, hf]
      rw [ho x hx]
      exact h
    · cases h
  · rename_i c1 args ats hop
    split at h
    · rename_i x t hargs hats
      have hx : x ∈ o.op.operands.toList := by simp [hop, Op.operands, Call.operands, hargs]
      rw [ho x hx]
      cases ht : elemOf E.T t with
      | none => rw [ht] at h; cases h
      | some te =>
        rw [ht] at h
        simp only [Option.bind_some] at h ⊢
        cases hx : asC (opnd fr π x) with
        | none => rw [hx] at h; cases h
        | some c =>
          rw [hx] at h
          simp only [Option.bind_some] at h ⊢
          exact aLen_loc h hH
    · cases h
  · rename_i c1 args ats hop
    split at h
    · rename_i x y hargs
      have h1 : x ∈ o.op.operands.toList := by simp [hop, Op.operands, Call.operands, hargs]
      have h2 : y ∈ o.op.operands.toList := by simp [hop, Op.operands, Call.operands, hargs]
      rw [ho x h1, ho y h2]
      exact h
    · cases h
  · rename_i c1 args ats hop
    split at h
    · rename_i x y hargs
      have h1 : x ∈ o.op.operands.toList := by simp [hop, Op.operands, Call.operands, hargs]
      have h2 : y ∈ o.op.operands.toList := by simp [hop, Op.operands, Call.operands, hargs]
      rw [ho x h1, ho y h2]
      exact h
    · cases h
  · rename_i c1 args ats hop
    split at h
    · rename_i s x t u hargs hats
      have h1 : s ∈ o.op.operands.toList := by simp [hop, Op.operands, Call.operands, hargs]
      have h2 : x ∈ o.op.operands.toList := by simp [hop, Op.operands, Call.operands, hargs]
      rw [ho s h1, ho x h2]
      cases htu : Nat.beq t u with
      | false => rw [htu] at h; cases h
      | true =>
        rw [htu] at h
        simp only [cond_true] at h ⊢
        cases ht : elemOf E.T t with
        | none => rw [ht] at h; cases h
        | some te =>
          rw [ht] at h
          simp only [Option.bind_some] at h ⊢
          cases hke : te.2.ek with
          | none => rw [hke] at h; cases h
          | some k =>
            rw [hke] at h
            simp only [Option.bind_some] at h ⊢
            cases hs : asC (opnd fr π s) with
            | none => rw [hs] at h; cases h
            | some cs =>
              rw [hs] at h
              cases hx : asC (opnd fr π x) with
              | none => rw [hx] at h; cases h
              | some cx =>
                rw [hx] at h
                simp only [Option.bind_some] at h ⊢
                exact aAppend_loc h hH
    · cases h
  · rename_i c1 args ats hop
    split at h
    · rename_i s x t u hargs hats
      have h1 : s ∈ o.op.operands.toList := by simp [hop, Op.operands, Call.operands, hargs]
      have h2 : x ∈ o.op.operands.toList := by simp [hop, Op.operands, Call.operands, hargs]
      rw [ho s h1, ho x h2]
      cases htu : Nat.beq t u with
      | false => rw [htu] at h; cases h
      | true =>
        rw [htu] at h
        simp only [cond_true] at h ⊢
        cases ht : elemOf E.T t with
        | none => rw [ht] at h; cases h
        | some te =>
          rw [ht] at h
          simp only [Option.bind_some] at h ⊢
          cases hke : te.2.ek with
          | none => rw [hke] at h; cases h
          | some k =>
            rw [hke] at h
            simp only [Option.bind_some] at h ⊢
            cases hs : asC (opnd fr π s) with
            | none => rw [hs] at h; cases h
            | some cs =>
              rw [hs] at h
              cases hx : asC (opnd fr π x) with
              | none => rw [hx] at h; cases h
              | some cx =>
                rw [hx] at h
                simp only [Option.bind_some] at h ⊢
                exact aCopy_loc h hH
    · cases h
  · rename_i c1 f args ats hop
    rw [hm args.toList (fun x hx => by simp only [hop, Op.operands, Call.operands]; simp; exact .inr (by simpa using hx))]
    cases hc : ctrAt E.G f ((E.at o.dst).getD 0) with
    | none => rw [hc] at h; cases h
    | some c =>
      rw [hc] at h
      simp only [Option.bind_some] at h ⊢
      cases hx : fvs (args.toList.map (opnd fr π)) with
      | none => rw [hx] at h; cases h
      | some xs =>
        rw [hx] at h
        simp only [Option.bind_some] at h ⊢
        exact aCall_loc h hH
  · rename_i c1 d args ats hop
    have hd : opnd fr' π (.tmp d) = opnd fr π (.tmp d) := ho _ (by simp only [hop, Op.operands, Call.operands]; simp) π
    rw [hm args.toList (fun x hx => by simp only [hop, Op.operands, Call.operands]; simp; exact .inr (by simpa using hx)), hd]
    cases hy : asC (opnd fr π (.tmp d)) with
    | none => rw [hy] at h; cases h
    | some y =>
      rw [hy] at h
      cases y <;> try cases h
      case clo f i =>
        dsimp only at h ⊢
        cases hc : ctrAt E.G f 0 with
        | none => rw [hc] at h; cases h
        | some c =>
          rw [hc] at h
          simp only [Option.bind_some] at h ⊢
          cases hx : fvs (args.toList.map (opnd fr π)) with
          | none => rw [hx] at h; cases h
          | some xs =>
            rw [hx] at h
            simp only [Option.bind_some] at h ⊢
            exact aCall_loc h hH
      rename_i f
      dsimp only at h ⊢
      cases hc : E.G[(E.at o.dst).getD 0]? with
      | none => simp only [hc] at h; cases h
      | some c =>
        simp only [hc] at h
        simp only [Option.bind_some] at h ⊢
        cases hx : fvs (args.toList.map (opnd fr π)) with
        | none => rw [hx] at h; cases h
        | some xs =>
          rw [hx] at h
          simp only [Option.bind_some, Option.map_eq_some_iff] at h ⊢
          obtain ⟨r', hr', rfl⟩ := h
          exact ⟨r', aCall_loc hr' hH, rfl⟩
  · rename_i c1 d m args ats hop
    have hd : opnd fr' π (.tmp d) = opnd fr π (.tmp d) := ho _ (by simp only [hop, Op.operands, Call.operands]; simp) π
    rw [hm args.toList (fun x hx => by simp only [hop, Op.operands, Call.operands]; simp; exact .inr (by simpa using hx)), hd]
    cases hy : asC (opnd fr π (.tmp d)) with
    | none => rw [hy] at h; cases h
    | some y =>
      rw [hy] at h
      cases y <;> try cases h
      dsimp only at h ⊢
      cases hc : E.G[(E.at o.dst).getD 0]? with
      | none => simp only [hc] at h; cases h
      | some c =>
        simp only [hc] at h
        simp only [Option.bind_some] at h ⊢
        cases hm : E.mth.find? fun e => Nat.beq e.2.2 c.fid && decide (e.2.1 = m) with
        | none => simp only [hm] at h; cases h
        | some e =>
          simp only [hm] at h
          simp only [Option.bind_some] at h ⊢
          cases hx : fvs (args.toList.map (opnd fr π)) with
          | none => rw [hx] at h; cases h
          | some xs =>
            rw [hx] at h
            simp only [Option.bind_some, Option.map_eq_some_iff] at h ⊢
            obtain ⟨r', hr', rfl⟩ := h
            exact ⟨r', aCall_loc hr' hH, rfl⟩
  · cases h
end
end Hw
end Go.Proofs.Ytfboldbfbmmahaa
