/- The operations one by one. Part 10: literals of slices. -/
import Derived.Test.YtceihgojdnkfiaaX11
set_option linter.unusedVariables false
set_option linter.unusedSimpArgs false
namespace Go.Proofs.Ytceihgojdnkfiaa
namespace Hw
open Go
section
variable {P : Program} {E : Env} {C : Cx} {H : Hp} {n : Nat}
theorem one_spec (e : El) : (Arr.one e).len = 1 ∧ (Arr.one e).get 0 = e := by cases e <;> exact ⟨rfl, rfl⟩
theorem rowL_one_el {C : Cx} {e : El} {us : List Value} (h : elR C e us) (hl : us.length = (e.cells true).length) : rowL C (Arr.one e) us := by
  obtain ⟨h1, h2⟩ := one_spec e
  refine ⟨?_, fun k hk j x hj => ?_⟩
  · rw [h1, Nat.one_mul, ← cells_len (Arr.one e) 0 true, h2]; exact hl
  · rw [h1] at hk
    have : k = 0 := by omega
    subst this
    rw [h2] at hj
    rw [Nat.zero_mul, Nat.zero_add]
    exact h j x hj
theorem ofEls_ok {C : Cx} {k : EK} : ∀ (css : List (List Cell)) (es : List El) (a : Arr) (us : List Value), elsOf k css = some es → Arr.ofEls k es = some a → allR C (css.flatMap id) us → (∀ c ∈ css, c.length = k.size) → rowL C a us ∧ a.len = css.length ∧ a.esz = k.size
  | [], es, a, us, h1, h2, hR, _ => by
    simp only [elsOf, Option.some.injEq] at h1
    subst h1
    simp only [Arr.ofEls, Option.some.injEq] at h2
    subst h2
    obtain ⟨n1, n2⟩ := nil_spec k
    have hu : us = [] := by cases us with
      | nil => rfl
      | cons u us => exact hR.elim
    subst hu
    exact ⟨⟨by rw [n1]; simp, fun k hk => by rw [n1] at hk; omega⟩, n1, n2⟩
  | c :: css, es, a, us, h1, h2, hR, hl => by
    unfold elsOf at h1
    cases he : El.ofCells k c with
    | none => rw [he] at h1; cases h1
    | some e =>
      rw [he] at h1
      simp only [Option.bind_some] at h1
      cases hes : elsOf k css with
      | none => rw [hes] at h1; cases h1
      | some es' =>
        rw [hes] at h1
        simp only [Option.map_some, Option.some.injEq] at h1
        subst h1
        unfold Arr.ofEls at h2
        cases hb : Arr.ofEls k es' with
        | none => rw [hb] at h2; cases h2
        | some b =>
          rw [hb] at h2
          simp only [Option.bind_some] at h2
          have hlc := hl c List.mem_cons_self
          have split : ∀ (x y : List Cell) (us : List Value), allR C (x ++ y) us → allR C x (us.take x.length) ∧ allR C y (us.drop x.length) := by
            intro x
            induction x with
            | nil => intro y us h; exact ⟨trivial, h⟩
            | cons q x ih =>
              intro y us h
              cases us with
              | nil => exact h.elim
              | cons u us => exact ⟨⟨h.1, h.2.1, (ih y us h.2.2).1⟩, (ih y us h.2.2).2⟩
          rw [List.flatMap_cons] at hR
          obtain ⟨r1, r2⟩ := split _ _ _ hR
          have hR1 := ofCells_R r1 he
          have hlen : ∀ (x : List Cell) (us : List Value), allR C x us → us.length = x.length := by
            intro x
            induction x with
            | nil => intro us h; cases us with
              | nil => rfl
              | cons u us => exact h.elim
            | cons q x ih => intro us h; cases us with
              | nil => exact h.elim
              | cons u us => rw [List.length_cons, List.length_cons, ih us h.2.2]
          have hek := ofCells_ek he
          obtain ⟨i1, i2, i3⟩ := ofEls_ok css es' b _ hes hb r2 (fun c' hc' => hl c' (List.mem_cons_of_mem _ hc'))
          have hrow1 := rowL_one_el hR1 (by rw [hlen _ _ r1, hek]; exact hlc)
          have hrow := rowL_app h2 hrow1 i1
          rw [List.take_append_drop] at hrow
          obtain ⟨s1, s2, s3, _⟩ := app_spec h2
          refine ⟨hrow, ?_, ?_⟩
          · rw [s1, i2, (one_spec e).1, List.length_cons]; omega
          · rw [s2, ← s3]; exact i3
theorem inOrder_of : ∀ (ps : List (Nat × Value)) (i : Nat), inOrder (ps.map (·.1)) i = true → ps = ((ps.map (·.2)).zipIdx i).map fun x => (x.2, x.1)
  | [], i, _ => rfl
  | p :: ps, i, h => by
    simp only [List.map_cons, inOrder, Bool.and_eq_true] at h
    have h1 := Nat.eq_of_beq_eq_true h.1
    have h2 := inOrder_of ps (i + 1) h.2
    simp only [List.map_cons, List.zipIdx_cons]
    rw [← h2, h1]
theorem newSlice_run {t e len : Nat} {te : TI} (hu : P.underlying t = some (.slice e)) (he : TIok P e te) {k : EK} (hk : te.ek = some k) (w : World) {parts : Array (Nat × Value)} (hn : parts.toList.length = len) (hlen : len ≤ 1000)
    (ho : inOrder (parts.toList.map (·.1)) 0 = true) (hs : ∀ v ∈ parts.toList.map (·.2), v.cells.size = k.size) :
    (Instr.buildSlice t len parts).run P w = .ok (.slice (some ⟨w.heap.size, 0, none⟩) len len) (w.alloc (.cells ((parts.toList.map (·.2)).flatMap fun v => v.cells.toList).toArray e)) := by
  obtain ⟨i, z, hi1, hi2, hi3, hi4, hi5⟩ := he.i
  have hek := he.ek
  rw [hk] at hek
  have hsz : i.size = k.size := by rw [hi3]; exact hek.2.1
  have hkp := k.size_pos
  have hk13 : k.size ≤ 13 := by cases k <;> decide
  cases hz : len with
  | zero =>
    have hp : parts = #[] := by
      rw [hz] at hn
      exact Array.eq_empty_of_size_eq_zero (by simpa using hn)
    subst hp
    simp [Instr.buildSlice, run_underlying hu, sizeOf, typeInfo, hi1, newRow, Instr.fill]
    congr 2
    apply Array.ext <;> simp
  | succ m =>
    rw [← hz]
    have hm : len * i.size ≤ 1000 * 13 := Nat.mul_le_mul hlen (by rw [hsz]; exact hk13)
    have hpos : 0 < len * i.size := Nat.mul_pos (by omega) (by rw [hsz]; exact hkp)
    refine run_buildSlice (P := P) w t e len parts _ i z hu hi1 hi2 (by omega) (by omega) ?_
    have h2 := Great.fill_whole (s := k.size) hkp (parts.toList.map (·.2)) ((Array.range (len * k.size)).map (z.cells[· % z.cells.size]!)) hs (by simp [← hn])
    rw [← inOrder_of _ _ ho] at h2
    rw [hsz]
    exact h2
theorem buildSlice_ok {t e len : Nat} {te : TI} {k : EK} {raw : Bool} {r : OpR} (hu : P.underlying t = some (.slice e)) (he : TIok P e te) (hk : te.ek = some k) (hI : Inv C H) (hn : C.ρ n = none) {parts : Array (Nat × Value)} {xs : List FV}
    (hx : valsR C xs (parts.toList.map (·.2))) (hr : aBuildSlice k e raw len H n (parts.toList.map (·.1)) xs = some r) :
    ∃ u w', (Instr.buildSlice t len parts).run P C.w = .ok u w' ∧ ∃ C', Left C H n r u w' C' := by
  unfold aBuildSlice at hr
  cases hb : (Nat.beq xs.length len && Nat.beq (parts.toList.map (·.1)).length len && inOrder (parts.toList.map (·.1)) 0 && Nat.ble len 1000 && xs.all (fun x => Nat.beq x.cells.length k.size)) with
  | false => rw [hb] at hr; cases hr
  | true =>
  rw [hb] at hr
  simp only [cond_true] at hr
  simp only [Bool.and_eq_true] at hb
  obtain ⟨⟨⟨⟨b1, b2⟩, b3⟩, b4⟩, b5⟩ := hb
  have b1 := Nat.eq_of_beq_eq_true b1
  have b4 : len ≤ 1000 := Nat.le_of_ble_eq_true b4
  have hvl := valsR_len hx
  have hpl : parts.toList.length = len := by rw [List.length_map] at hvl; omega
  have hxs : ∀ x ∈ xs, x.cells.length = k.size := fun x hx => Nat.eq_of_beq_eq_true (List.all_eq_true.1 b5 x hx)
  have hs : ∀ v ∈ parts.toList.map (·.2), v.cells.size = k.size := by
    intro v hv
    obtain ⟨j, hj⟩ := List.mem_iff_getElem?.1 hv
    have hjl : j < xs.length := by rw [← hvl]; exact (List.getElem?_eq_some_iff.1 hj).1
    obtain ⟨u, h1, h2⟩ := valsR_get hx j _ (List.getElem?_eq_getElem hjl)
    rw [hj] at h1
    cases h1
    have := (fv_cells h2).1
    rw [← Array.length_toList, this]
    exact hxs _ (List.getElem_mem hjl)
  have hrun := newSlice_run (P := P) hu he hk C.w hpl b4 b3 hs
  have hcs := vals_cells hx
  have hlen : ((parts.toList.map (·.2)).flatMap fun v => v.cells.toList).length = len * k.size := by
    rw [hcs.1, ← b1]
    have : ∀ (xs : List FV), (∀ x ∈ xs, x.cells.length = k.size) → (xs.flatMap FV.cells).length = xs.length * k.size := by
      intro xs
      induction xs with
      | nil => intro _; simp
      | cons x xs ih => intro h; rw [List.flatMap_cons, List.length_append, ih (fun y hy => h y (List.mem_cons_of_mem _ hy)), h x List.mem_cons_self, List.length_cons, Nat.succ_mul]; omega
    exact this xs hxs
  cases raw with
  | true =>
    simp only [cond_true, Option.some.injEq] at hr
    subst hr
    refine ⟨_, _, hrun, _, made_left (m := len) hI hn (add_raw hI hn (by simpa using hcs)) rfl rfl (.inr ⟨_, len, len, _, add_own, rfl, Nat.le_refl _, heap_add_new, ?_, by omega⟩)⟩
    simpa using hlen
  | false =>
    simp only [cond_false] at hr
    cases hc : ((xs.flatMap FV.cells).all (Cell.lasts H) && nodupN (frozenIds (xs.flatMap FV.cells))) with
    | false => rw [hc] at hr; cases hr
    | true =>
      rw [hc] at hr
      simp only [cond_true] at hr
      rw [Bool.and_eq_true] at hc
      cases hes : elsOf k (xs.map fun x => x.cells.map (Cell.last H)) with
      | none => rw [hes] at hr; cases hr
      | some es =>
        rw [hes] at hr
        simp only [Option.bind_some] at hr
        cases ha : Arr.ofEls k es with
        | none => rw [ha] at hr; cases hr
        | some a =>
          rw [ha] at hr
          simp only [Option.map_some, Option.some.injEq] at hr
          subst hr
          have hflat : (xs.map fun x => x.cells.map (Cell.last H)).flatMap id = (xs.flatMap FV.cells).map (Cell.last H) := by
            rw [List.flatMap_map, List.map_flatMap]; rfl
          have hall : allR (C.fz (frozenIds (xs.flatMap FV.cells))) ((xs.map fun x => x.cells.map (Cell.last H)).flatMap id) ((parts.toList.map (·.2)).flatMap fun v => v.cells.toList) := by
            rw [hflat]
            refine allR_of (map_last_R hI hc.1 hcs) fun x hx => ?_
            obtain ⟨y, hy, rfl⟩ := List.mem_map.1 hx
            exact last_plain (List.all_eq_true.1 hc.1 y hy)
          obtain ⟨o1, o2, o3⟩ := ofEls_ok _ _ _ _ hes ha hall (by
            intro c hc
            obtain ⟨x, hx, rfl⟩ := List.mem_map.1 hc
            rw [List.length_map]; exact hxs x hx)
          rw [List.length_map, b1] at o2
          have hF := fz_inv hI (js := frozenIds (xs.flatMap FV.cells)) (frozen_live hc.1)
          have L := made_left (C := C.fz (frozenIds (xs.flatMap FV.cells))) (n := n) (r := ⟨none, .v (.c (.own n k.size e)), [], [(n, .arr a)], Nat.succ n⟩) (m := a.len) (e := e)
            (vs := ((parts.toList.map (·.2)).flatMap fun v => v.cells.toList).toArray) (v := .slice (some ⟨C.w.heap.size, 0, none⟩) len len) hF hn
            (add_arr hF hn o1 (fun j u hj => by simpa using hj) (by simp) (by rw [o2]; unfold big; omega)) rfl rfl
            (.inr ⟨_, a.len, len, _, add_own, by rw [o2]; rfl, by omega, heap_add_new, by simpa using hlen, by omega⟩)
          refine ⟨_, _, hrun, _, L.w, L.v, ?_, ?_, fun i p hp => ?_⟩
          · show Inv _ (wr H (List.append _ _))
            have e1 : List.append ((frozenIds (xs.flatMap FV.cells)).map fun j => (j, Blk.dead)) [(n, .arr a)] = ((frozenIds (xs.flatMap FV.cells)).map fun j => (j, Blk.dead)) ++ [(n, .arr a)] := rfl
            rw [e1, wr_append]
            exact L.inv
          · refine Ext.trans (T' := fun _ => False) (fz_ext _ (fun b j m hj hm => ⟨j, m, ?_, frozen_live hc.1 j hj, hm⟩)) (add_ext (C := C.fz (frozenIds (xs.flatMap FV.cells))) _ hn) (fun _ h _ => h.elim)
            show j ∈ (List.append _ _).map _
            rw [show List.append ((frozenIds (xs.flatMap FV.cells)).map fun j => (j, Blk.dead)) [(n, .arr a)] = ((frozenIds (xs.flatMap FV.cells)).map fun j => (j, Blk.dead)) ++ [(n, .arr a)] from rfl, List.map_append, List.mem_append, List.map_map]
            exact .inl (List.mem_map.2 ⟨j, hj, rfl⟩)
          · rcases add_new i p hp with h | ⟨rfl, h⟩
            · exact .inl h
            · exact .inr ⟨Nat.le_refl _, Nat.lt_succ_self _, fun b hb => .inr (by rw [h] at hb; cases hb; exact Nat.le_refl _)⟩
end
end Hw
end Go.Proofs.Ytceihgojdnkfiaa
