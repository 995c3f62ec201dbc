/- The operations one by one. Part 4: stores. -/
import Derived.Test.YtceihgojdnkfiaaX5
set_option linter.unusedVariables false
set_option linter.unusedSimpArgs false
namespace Go.Proofs.Ytceihgojdnkfiaa
namespace Hw
open Go

theorem seg_get {α : Type} (cs : List α) (o : Nat) (xs : List α) (j : Nat) (ho : o + xs.length ≤ cs.length) :
    (cs.take o ++ xs ++ cs.drop (o + xs.length))[j]? = if o ≤ j ∧ j < o + xs.length then xs[j - o]? else cs[j]? := by
  by_cases h1 : j < o
  · rw [if_neg (by omega), List.append_assoc, List.getElem?_append_left (by rw [List.length_take]; omega), List.getElem?_take, if_pos h1]
  · by_cases h2 : j < o + xs.length
    · rw [if_pos ⟨by omega, h2⟩, List.append_assoc, List.getElem?_append_right (by rw [List.length_take]; omega), List.length_take, List.getElem?_append_left (by omega)]
      congr 1
      omega
    · rw [if_neg (by omega), List.getElem?_append_right (by rw [List.length_append, List.length_take]; omega), List.length_append, List.length_take, List.getElem?_drop]
      congr 1
      omega
theorem splice_eq (cs : List Cell) (o : Nat) (xs : List Cell) : splice cs o xs = cs.take o ++ xs ++ cs.drop (o + xs.length) := by
  show cs.take o ++ (xs ++ cs.drop (Nat.add o xs.length)) = _
  rw [List.append_assoc]
  rfl
theorem splice_len {cs : List Cell} {o : Nat} {xs : List Cell} (ho : o + xs.length ≤ cs.length) : (splice cs o xs).length = cs.length := by
  rw [splice_eq]
  simp only [List.length_append, List.length_take, List.length_drop]
  omega
theorem store_run {P : Program} {t : Nat} {ti : TI} (h : TIok P t ti) {w : World} {b o : Nat} {cur : Array Value} {e : TypeId} {sv : Value} (hg : w.heap[b]? = some (.cells cur e (0, 0)))
    (hl : sv.cells.toList.length = ti.size) (hfit : o + sv.cells.toList.length ≤ cur.size) (h1 : ∀ u ∈ sv.cells.toList, u.oneCell' = true) :
    (Instr.storeAt t (.pointer (some ⟨b, o, none⟩)) sv).run P w = .ok () (w.setRow b (cur.toList.take o ++ sv.cells.toList ++ cur.toList.drop (o + sv.cells.toList.length)).toArray) := by
  have h2 := run_storeCells_at P b o e sv.cells.toList 0 cur w hg (by simpa using hfit) h1
  have hl' : sv.cells.size = ti.size := by simpa using hl
  simp only [Nat.add_zero] at h2
  simp [Instr.storeAt, Instr.sureAddr, storeVar, h.run_size, hl', h2]
theorem frozen_mem {xs : List Cell} {x : Cell} {H : Hp} (hx : x ∈ xs) (hl : x.lasts H = true) : ∀ i ∈ x.ids, i ∈ frozenIds xs := by
  intro i hi
  unfold frozenIds
  rw [List.mem_flatMap]
  refine ⟨x, hx, ?_⟩
  cases x with
  | own j sz e => exact hi
  | ptr j o => cases hl
  | ep j sz k o => cases hl
  | tail j sz e k => cases hl
  | _ => cases hi
theorem frozen_live {xs : List Cell} {H : Hp} (hl : xs.all (Cell.lasts H) = true) : ∀ j ∈ frozenIds xs, (H j).live := by
  intro j hj
  unfold frozenIds at hj
  rw [List.mem_flatMap] at hj
  obtain ⟨x, hx, hj⟩ := hj
  have h1 := List.all_eq_true.1 hl x hx
  cases x <;> simp only [List.mem_singleton, List.not_mem_nil] at hj
  subst hj
  simp only [Cell.lasts] at h1
  split at h1
  · rename_i a hH; rw [hH]; trivial
  · cases h1
theorem nodupN_nodup : ∀ {l : List Nat}, nodupN l = true → l.Nodup
  | [], _ => List.nodup_nil
  | i :: r, h => by
    unfold nodupN at h
    rw [Bool.and_eq_true] at h
    refine List.nodup_cons.2 ⟨fun hm => ?_, nodupN_nodup h.2⟩
    have := memN_iff.2 hm
    rw [this] at h
    simp at h
theorem map_last_R {C : Cx} {H : Hp} {xs : List Cell} {us : List Value} (hI : Inv C H) (hl : xs.all (Cell.lasts H) = true) (hx : cellsR C xs us) : cellsR (C.fz (frozenIds xs)) (xs.map (Cell.last H)) us :=
  ⟨by rw [List.length_map]; exact hx.1, fun j y hj => by
    rw [List.getElem?_map] at hj
    cases hc : xs[j]? with
    | none => rw [hc] at hj; cases hj
    | some x =>
      rw [hc] at hj
      simp only [Option.map_some, Option.some.injEq] at hj
      subst hj
      obtain ⟨u, h1, h2⟩ := hx.2 j x hc
      have hm := List.mem_of_getElem? hc
      have h3 := List.all_eq_true.1 hl x hm
      exact ⟨u, h1, last_R hI h3 h2 (frozen_mem hm h3)⟩⟩
theorem cellsR_splice {C : Cx} {cs xs : List Cell} {vs us : List Value} {o : Nat} (h1 : cellsR C cs vs) (h2 : cellsR C xs us) (ho : o + xs.length ≤ cs.length) :
    cellsR C (splice cs o xs) (vs.take o ++ us ++ vs.drop (o + us.length)) := by
  have e1 := h1.1
  have e2 := h2.1
  refine ⟨?_, fun j y hj => ?_⟩
  · rw [splice_len ho]
    simp only [List.length_append, List.length_take, List.length_drop]
    omega
  · rw [splice_eq, seg_get _ _ _ _ ho] at hj
    rw [seg_get _ _ _ _ (by omega), e2]
    split at hj
    · rename_i hc; rw [if_pos hc]; exact h2.2 _ _ hj
    · rename_i hc; rw [if_neg hc]; exact h1.2 _ _ hj
theorem splice_plain {cs xs : List Cell} {o : Nat} (h1 : ∀ x ∈ cs, x.plain) (h2 : ∀ x ∈ xs, x.plain) : ∀ x ∈ splice cs o xs, x.plain := by
  intro x hx
  rw [splice_eq, List.mem_append, List.mem_append] at hx
  rcases hx with (hx | hx) | hx
  · exact h1 x (List.mem_of_mem_take hx)
  · exact h2 x hx
  · exact h1 x (List.mem_of_mem_drop hx)
theorem cells_plain' {e : El} {x : Cell} (h : x ∈ e.cells true) : x.plain := by
  rcases cells_plain h with ⟨n, rfl⟩ | ⟨n, rfl⟩ | ⟨b, rfl⟩ | ⟨a, rfl⟩ | ⟨f, rfl⟩ <;> trivial
theorem list_seg {α : Type} (l : List α) (p q o n : Nat) (us : List α) (hn : us.length = n) (hq : o + n ≤ q) (hl : p + q ≤ l.length) :
    ((l.take (p + o) ++ us ++ l.drop (p + o + us.length)).drop p).take q = ((l.drop p).take q).take o ++ us ++ ((l.drop p).take q).drop (o + us.length) := by
  apply List.ext_getElem?
  intro j
  by_cases hj : j < q
  · rw [getElem?_seg _ _ _ _ hj, seg_get _ _ _ _ (by omega), seg_get _ _ _ _ (by rw [List.length_take, List.length_drop]; omega), getElem?_seg _ _ _ _ hj]
    by_cases hc : o ≤ j ∧ j < o + us.length
    · rw [if_pos (by omega), if_pos hc]; congr 1; omega
    · rw [if_neg (by omega), if_neg hc]
  · rw [List.getElem?_eq_none (by rw [List.length_take]; omega), List.getElem?_eq_none]
    simp only [List.length_append, List.length_take, List.length_drop]
    omega

theorem row_far {k k' sz o j n : Nat} (hk : k' ≠ k) (hj : j < sz) (hn : o + n ≤ sz) : ¬ (k * sz + o ≤ k' * sz + j ∧ k' * sz + j < k * sz + o + n) := by
  rcases Nat.lt_or_gt_of_ne hk with h | h
  · have : (k' + 1) * sz ≤ k * sz := Nat.mul_le_mul_right _ h
    rw [Nat.succ_mul] at this
    omega
  · have : (k + 1) * sz ≤ k' * sz := Nat.mul_le_mul_right _ h
    rw [Nat.succ_mul] at this
    omega
theorem row_fit {k n sz len : Nat} (hk : k < n) (hs : n * sz ≤ len) : k * sz + sz ≤ len := by
  have : (k + 1) * sz ≤ n * sz := Nat.mul_le_mul_right _ hk
  rw [Nat.succ_mul] at this
  omega

theorem aStore_ok {P : Program} {t : Nat} {ti : TI} {C : Cx} {H : Hp} {n : Nat} {p : Cell} {v sv : Value} {xs : List Cell} {r : OpR} (h : TIok P t ti) (hI : Inv C H) (hp : cellR C p v) (hx : cellsR C xs sv.cells.toList)
    (hr : aStore ti H n p xs = some r) (hk : r.ok) : ∃ w', (Instr.storeAt t v sv).run P C.w = .ok () w' ∧ ∃ C', Left C H n r undef w' C' := by
  unfold aStore at hr
  cases hlen : Nat.beq xs.length ti.size with
  | false => rw [hlen] at hr; cases hr
  | true =>
  rw [hlen] at hr
  simp only [cond_true] at hr
  have hlen' : sv.cells.toList.length = ti.size := by rw [hx.1]; exact Nat.eq_of_beq_eq_true hlen
  have hone := cellsR_one hx
  split at hr
  · rename_i i o
    split at hr
    · rename_i m cs hH
      cases hb : Nat.ble (Nat.add o xs.length) cs.length with
      | false => rw [hb] at hr; cases hr
      | true =>
      rw [hb] at hr
      simp only [cond_true, Option.some.injEq] at hr
      subst hr
      have hfit : o + xs.length ≤ cs.length := Nat.le_of_ble_eq_true hb
      have hlive : (H i).live := by rw [hH]; trivial
      have ho := hI.own i
      rw [hH] at ho
      obtain ⟨b, cur, e, h1, h2, h3, h4, h5, h6⟩ := ho
      obtain ⟨b', n', h7, rfl⟩ := hp
      rw [h1] at h7
      cases h7
      have hrun := store_run (sv := sv) h h4 hlen' (by rw [hx.1]; omega) hone (o := o)
      have hsz : (cur.toList.take o ++ sv.cells.toList ++ cur.toList.drop (o + sv.cells.toList.length)).toArray.size = cur.size := by
        simp only [List.size_toArray, List.length_append, List.length_take, List.length_drop, Array.length_toList]
        have := hx.1
        simp only [Array.length_toList] at this
        omega
      refine ⟨_, hrun, C.set b _, rfl, trivial, set_inv hI h1 hlive h4 hsz ?_, set_ext h4 hsz _ ⟨i, m, by simp, hlive, h1⟩, fun j p hp => .inl hp⟩
      have hext := set_ext h4 hsz (fun k => k = b) rfl
      have hoff : Off (fun k => k = b) C := hI.off (fun k hk => ⟨i, m, hlive, by rw [hk]; exact h1⟩)
      refine ⟨b, _, e, h1, h2, h3, setRow_heap C.w b cur _ e _ h4, by rw [hsz, splice_len hfit]; exact h5, fun j x hj => ?_⟩
      have h8 : cellsR C cs cur.toList := ⟨by simpa using h5, fun j x hj => by obtain ⟨u, a, b⟩ := h6 j x hj; exact ⟨u, by simpa using a, b⟩⟩
      obtain ⟨u, h9, h10⟩ := (cellsR_splice (o := o) h8 hx hfit).2 j x hj
      exact ⟨u, by simpa using h9, cellR_ext hext hoff h10⟩
    · cases hr
  · rename_i i sz k o
    split at hr
    · rename_i a hH
      cases hb : (Nat.beq sz a.esz && Nat.ble (Nat.add o xs.length) a.esz && xs.all (Cell.lasts H) && nodupN (i :: frozenIds xs)) with
      | false => rw [hb] at hr; cases hr
      | true =>
      rw [hb] at hr
      simp only [Bool.and_eq_true] at hb
      obtain ⟨⟨⟨hb1, hb2⟩, hb3⟩, hb4⟩ := hb
      have hsz := Nat.eq_of_beq_eq_true hb1
      subst hsz
      have hfit : o + xs.length ≤ a.esz := Nat.le_of_ble_eq_true hb2
      have hnd := nodupN_nodup hb4
      rw [List.nodup_cons] at hnd
      simp only [cond_true, Option.bind_eq_some_iff] at hr
      obtain ⟨el, hel, ar, har, hr⟩ := hr
      simp only [Option.some.injEq] at hr
      subst hr
      have hkl : k < a.len := hk
      obtain ⟨s1, s2, s3, s4⟩ := set_spec har
      have hlive : (H i).live := by rw [hH]; trivial
      have hfl := frozen_live hb3
      -- what lasts is fixed first
      have hI1 := fz_inv hI hfl
      have hH1 : wr H ((frozenIds xs).map fun j => (j, .dead)) i = .arr a := by rw [wr_dead, if_neg hnd.1]; exact hH
      have ho := hI1.own i
      rw [hH1] at ho
      rcases ho with ⟨h0, _⟩ | ⟨b, cur, e, h1, h2, h3, h4, h5, h5', h6⟩
      · omega
      obtain ⟨b', n', h7, rfl⟩ := hp
      have h1' : C.ρ i = some (some b, a.len) := h1
      rw [h1'] at h7
      cases h7
      have hrow := row_fit hkl h5
      have hrun := store_run (sv := sv) h (w := C.w) (o := k * a.esz + o) h4 hlen' (by rw [hx.1]; omega) hone
      have hsz : (cur.toList.take (k * a.esz + o) ++ sv.cells.toList ++ cur.toList.drop (k * a.esz + o + sv.cells.toList.length)).toArray.size = cur.size := by
        simp only [List.size_toArray, List.length_append, List.length_take, List.length_drop, Array.length_toList]
        have := hx.1
        simp only [Array.length_toList] at this
        omega
      have hlive1 : (wr H ((frozenIds xs).map fun j => (j, .dead)) i).live := by rw [hH1]; trivial
      refine ⟨_, hrun, (C.fz (frozenIds xs)).set b _, rfl, trivial, ?_, ?_, fun j p hp => .inl hp⟩
      · show Inv _ (wr H (((frozenIds xs).map fun j => (j, Blk.dead)) ++ [(i, .arr ar)]))
        rw [wr_append]
        refine set_inv hI1 h1 hlive1 h4 hsz ?_
        have hext := set_ext (C := C.fz (frozenIds xs)) h4 hsz (fun k => k = b) rfl
        have hoff : Off (fun k => k = b) (C.fz (frozenIds xs)) := hI1.off (fun c hc => ⟨i, a.len, hlive1, by cases hc; exact h1⟩)
        refine .inr ⟨b, _, e, by rw [s1]; exact h1, h2, h3, setRow_heap C.w b cur _ e _ h4, by rw [hsz, s1, s2]; exact h5, by rw [s1]; exact h5', fun k' hk' j x hj => ?_⟩
        rw [s1] at hk'
        have hjl : j < a.esz := by
          have := (List.getElem?_eq_some_iff.1 hj).1
          rw [cells_len, s2] at this
          exact this
        have moved : ∀ y u, elC (arrR C.w (C.fz (frozenIds xs)).frz 3) y u → elC (arrR ((C.fz (frozenIds xs)).set b (cur.toList.take (k * a.esz + o) ++ sv.cells.toList ++ cur.toList.drop (k * a.esz + o + sv.cells.toList.length)).toArray).w ((C.fz (frozenIds xs)).set b (cur.toList.take (k * a.esz + o) ++ sv.cells.toList ++ cur.toList.drop (k * a.esz + o + sv.cells.toList.length)).toArray).frz 3) y u :=
          fun y u hy => elC_imp hy fun _ c _ h9 => arrR_ext (hext.S true) (hext.same hoff true) 3 c u h9
        by_cases hkk : k' = k
        · subst hkk
          rw [s3 hkl] at hj
          -- the element's cells
          have hu0 : cellsR (C.fz (frozenIds xs)) ((a.get k').cells true) ((cur.toList.drop (k' * a.esz)).take a.esz) := by
            refine ⟨?_, fun j x hj => ?_⟩
            · rw [cells_len, List.length_take, List.length_drop, Array.length_toList]; omega
            · have hjl : j < a.esz := by have := (List.getElem?_eq_some_iff.1 hj).1; rw [cells_len] at this; exact this
              obtain ⟨u, h7, h8⟩ := h6 k' hkl j x hj
              exact ⟨u, by rw [getElem?_seg _ _ _ _ hjl]; simpa using h7, elC_cellR (List.mem_of_getElem? hj) h8⟩
          have hsp := cellsR_splice (o := o) hu0 (map_last_R hI hb3 hx) (by rw [List.length_map, cells_len]; exact hfit)
          have hall := allR_of hsp (splice_plain (fun x hx => cells_plain' hx) (fun x hx => by
            obtain ⟨y, hy, rfl⟩ := List.mem_map.1 hx
            exact last_plain (List.all_eq_true.1 hb3 y hy)))
          obtain ⟨u, h7, h8⟩ := ofCells_R hall hel j x hj
          refine ⟨u, ?_, moved _ _ h8⟩
          rw [s2]
          have hseg := list_seg cur.toList (k' * a.esz) a.esz o xs.length sv.cells.toList hx.1 hfit (by rw [Array.length_toList]; exact hrow)
          rw [← hseg, getElem?_seg _ _ _ _ hjl] at h7
          simpa using h7
        · rw [s4 k' hkk] at hj
          obtain ⟨u, h7, h8⟩ := h6 k' hk' j x hj
          refine ⟨u, ?_, moved _ _ h8⟩
          rw [s2]
          have hx1 := hx.1
          rw [List.getElem?_toArray, seg_get _ _ _ _ (by rw [hx1]; have hc : cur.toList.length = cur.size := Array.length_toList; omega), if_neg (row_far hkk hjl (by rw [hx1]; exact hfit))]
          simpa using h7
      · have hmem : ∀ j, j ∈ frozenIds xs ∨ j = i → j ∈ ((((frozenIds xs).map fun j => (j, Blk.dead)) ++ [(i, Blk.arr ar)]).map (·.1)) := by
          intro j hj
          simp only [List.map_append, List.map_map, List.mem_append, List.mem_map, Function.comp, List.map_cons, List.map_nil, List.mem_singleton]
          rcases hj with hj | hj
          · exact .inl ⟨j, hj, rfl⟩
          · exact .inr hj
        refine (fz_ext _ (fun b j m hj hr => ⟨j, m, hmem j (.inl hj), hfl j hj, hr⟩)).trans (set_ext (C := C.fz (frozenIds xs)) h4 hsz (fun k => k = b) rfl) (fun k hk _ => ?_)
        subst hk
        exact ⟨i, a.len, hmem i (.inr rfl), hlive, h1⟩
    · cases hr
  · cases hr

end Hw
end Go.Proofs.Ytceihgojdnkfiaa
