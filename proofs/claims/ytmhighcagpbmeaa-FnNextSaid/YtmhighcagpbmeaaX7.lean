/- The operations one by one. Part 5: what is made; arithmetic; addresses. -/
import Derived.Test.YtmhighcagpbmeaaX6
set_option linter.unusedVariables false
set_option linter.unusedSimpArgs false
namespace Go.Proofs.Ytmhighcagpbmeaa
namespace Hw
open Go

section
variable {P : Program} {C : Cx} {H : Hp} {n : Nat}
theorem made_left {vs : Array Value} {e : TypeId} {m : Nat} {b : Blk} {r : OpR} {v : Value} (hI : Inv C H) (hn : C.ρ n = none) (hb : OwnAt (C.add n vs e m) n b)
    (hws : r.ws = [(n, b)]) (hnid : r.nid = n + 1) (hv : avR (C.add n vs e m) r.v v) : Left C H n r v (C.w.alloc (.cells vs e)) (C.add n vs e m) :=
  ⟨rfl, hv, by rw [hws]; exact add_inv hI hn hb, add_ext _ hn, fun i p hp => by
    rcases add_new i p hp with h | ⟨rfl, h⟩
    · exact .inl h
    · exact .inr ⟨Nat.le_refl _, by rw [hnid]; omega, fun b hb => .inr (by rw [h] at hb; cases hb; exact Nat.le_refl _)⟩⟩
theorem zero_R (C : Cx) {ti : TI} (h : ti.zv.all Value.oneCell' = true) : cellsR C ti.zero ti.zv := by
  refine ⟨by simp [TI.zero], fun j x hj => ?_⟩
  simp only [TI.zero, List.getElem?_map] at hj
  cases hc : ti.zv[j]? with
  | none => rw [hc] at hj; cases hj
  | some u =>
    rw [hc] at hj
    simp only [Option.map_some, Option.some.injEq] at hj
    subst hj
    refine ⟨u, rfl, cellOfVal_R C u ?_⟩
    have := List.all_eq_true.1 h u (List.mem_of_getElem? hc)
    cases u <;> simp_all [oneC, Value.oneCell']
theorem alloc_ok {t : Nat} {ti : TI} (h : TIok P t ti) (hI : Inv C H) (hn : C.ρ n = none) :
    ∃ v w', (Instr.alloc t true (.tuple #[])).run P C.w = .ok v w' ∧ ∃ C', Left C H n ⟨none, .v (.c (.ptr n 0)), [], [(n, .raw 1 ti.zero)], Nat.succ n⟩ v w' C' := by
  obtain ⟨z, h1, h2⟩ := h.run_zero C.w
  refine ⟨.pointer (some ⟨C.w.heap.size, 0, none⟩), C.w.alloc (.cells z.cells t), ?_, C.add n z.cells t 1, made_left hI hn (add_raw hI hn ?_) rfl rfl ?_⟩
  · simp [Instr.alloc, h1, newVar, newRow]
  · rw [h2]; exact zero_R C h.one
  · exact ⟨_, _, add_own, rfl⟩
theorem box_ok {t : Nat} {x : FV} {v : Value} (hI : Inv C H) (hn : C.ρ n = none) (hx : fvR C x v) :
    ∃ u w', (Instr.box t v).run P C.w = .ok u w' ∧ ∃ C', Left C H n ⟨none, .v (.c (.ptr n 0)), [], [(n, .raw 1 x.cells)], Nat.succ n⟩ u w' C' := by
  refine ⟨.pointer (some ⟨C.w.heap.size, 0, none⟩), C.w.alloc (.cells v.cells t), ?_, C.add n v.cells t 1, made_left hI hn (add_raw hI hn (fv_cells hx)) rfl rfl ?_⟩
  · simp [Instr.box, newVar, newRow]
  · exact ⟨_, _, add_own, rfl⟩
theorem aMark_nid {xs : List Cell} {r : OpR} (h : aMark H n xs = some r) : r.nid = Nat.succ n := by
  unfold aMark at h
  cases hb : (Nat.beq xs.length 8 && xs.all (Cell.lasts H) && nodupN (frozenIds xs)) with
  | false => rw [hb] at h; cases h
  | true =>
    rw [hb] at h
    simp only [cond_true] at h
    split at h
    · cases hs : stOf ((xs.take 7).map (Cell.last H)) with
      | none => rw [hs] at h; cases h
      | some s => rw [hs] at h; simp only [Option.map_some, Option.some.injEq] at h; subst h; rfl
    · cases h
theorem aMark_ok {t : Nat} {x : FV} {v : Value} {r : OpR} (hI : Inv C H) (hn : C.ρ n = none) (hx : fvR C x v) (hr : aMark H n x.cells = some r) :
    ∃ u w', (Instr.box t v).run P C.w = .ok u w' ∧ ∃ C', Left C H n r u w' C' := by
  unfold aMark at hr
  cases hb : (Nat.beq x.cells.length 8 && x.cells.all (Cell.lasts H) && nodupN (frozenIds x.cells)) with
  | false => rw [hb] at hr; cases hr
  | true =>
    rw [hb] at hr
    simp only [cond_true] at hr
    simp only [Bool.and_eq_true] at hb
    obtain ⟨⟨hb1, hb2⟩, hb3⟩ := hb
    have hlen := Nat.eq_of_beq_eq_true hb1
    split at hr
    · rename_i l hl
      cases hs : stOf ((x.cells.take 7).map (Cell.last H)) with
      | none => rw [hs] at hr; cases hr
      | some s =>
        rw [hs] at hr
        simp only [Option.map_some, Option.some.injEq] at hr
        subst hr
        have hc := fv_cells hx
        have hv8 : v.cells.toList.length = 8 := by rw [hc.1]; exact hlen
        -- the block
        have hI1 := add_inv hI hn (add_raw (m := 1) (e := t) (vs := v.cells) hI hn hc)
        have hlive : ∀ j ∈ n :: frozenIds x.cells, (upd H n (.raw 1 x.cells) j).live := fun j hj => by
          by_cases hjn : j = n
          · subst hjn; rw [upd_self]; trivial
          · rw [upd_ne hjn]
            exact frozen_live hb2 j ((List.mem_cons.1 hj).resolve_left hjn)
        have hI2 := fz_inv (js := n :: frozenIds x.cells) hI1 hlive
        have hHeq : wr (upd H n (.raw 1 x.cells)) ((n :: frozenIds x.cells).map fun j => (j, .dead)) = wr H ((n :: frozenIds x.cells).map fun j => (j, .dead)) := by
          funext i
          rw [wr_dead, wr_dead]
          by_cases hi : i ∈ n :: frozenIds x.cells
          · rw [if_pos hi, if_pos hi]
          · rw [if_neg hi, if_neg hi, upd_ne (fun h => hi (by rw [h]; exact List.mem_cons_self))]
        rw [hHeq] at hI2
        have hE1 : ∀ T, Ext T C (C.add n v.cells t 1) := fun T => add_ext T hn
        have hE2 : Ext (fun b => ∃ j m, j ∈ n :: frozenIds x.cells ∧ (C.add n v.cells t 1).ρ j = some (some b, m)) (C.add n v.cells t 1) ((C.add n v.cells t 1).fz (n :: frozenIds x.cells)) := fz_ext _ fun b j m hj hm => ⟨j, m, hj, hm⟩
        have hρ : ∀ j b m, (C.add n v.cells t 1).ρ j = some (some b, m) → b < C.w.heap.size → C.ρ j = some (some b, m) := fun j b m h hb => by
          rcases add_new j _ h with h | ⟨_, h⟩
          · exact h
          · simp only [Option.some.injEq] at h; omega
        refine ⟨.pointer (some ⟨C.w.heap.size, 0, none⟩), C.w.alloc (.cells v.cells t), by simp [Instr.box, newVar, newRow], (C.add n v.cells t 1).fz (n :: frozenIds x.cells), rfl, ?_, hI2, (hE1 _).trans hE2 ?_, ?_⟩
        · -- the mark
          have hm7 : cellsR (C.add n v.cells t 1) x.cells v.cells.toList := cellsR_ext (hE1 fun _ => False) ⟨fun _ _ h => h, fun _ _ h => h, hI.frz, hI.vis⟩ hc
          have hfl : cellsR ((C.add n v.cells t 1).fz (n :: frozenIds x.cells)) (x.cells.map (Cell.last (upd H n (.raw 1 x.cells)))) v.cells.toList :=
            ⟨by rw [List.length_map]; exact hm7.1, fun j y hj => by
              rw [List.getElem?_map] at hj
              cases hcj : x.cells[j]? with
              | none => rw [hcj] at hj; cases hj
              | some z =>
                rw [hcj] at hj
                simp only [Option.map_some, Option.some.injEq] at hj
                subst hj
                obtain ⟨u, h1, h2⟩ := hm7.2 j z hcj
                have hzm := List.mem_of_getElem? hcj
                have hzl := List.all_eq_true.1 hb2 z hzm
                have hz' : z.lasts (upd H n (.raw 1 x.cells)) = true ∧ z.last (upd H n (.raw 1 x.cells)) = z.last H := by
                  cases z with
                  | own i sz e =>
                    have hin : i ≠ n := fun h => by
                      subst h
                      have := frozen_live hb2 i (frozen_mem hzm hzl i (by simp [Cell.ids]))
                      have ho := hI.own i
                      cases hH : H i with
                      | dead => rw [hH] at this; exact this
                      | raw m cs => rw [hH] at ho; obtain ⟨_, _, _, h3, _⟩ := ho; rw [hn] at h3; cases h3
                      | arr a =>
                        rw [hH] at ho
                        rcases ho with ⟨_, h3⟩ | ⟨_, _, _, h3, _⟩ <;> (rw [hn] at h3; cases h3)
                    simp only [Cell.lasts, Cell.last, upd_ne hin] at hzl ⊢
                    exact ⟨hzl, trivial⟩
                  | _ => exact ⟨hzl, rfl⟩
                exact ⟨u, h1, last_R hI1 hz'.1 h2 fun i hi => List.mem_cons_of_mem _ (frozen_mem hzm hzl i hi)⟩⟩
          have hlast : ∀ z ∈ x.cells, z.last (upd H n (.raw 1 x.cells)) = z.last H := fun z hz => by
            have hzl := List.all_eq_true.1 hb2 z hz
            cases z with
            | own i sz e =>
              have hin : i ≠ n := fun h => by
                subst h
                have := frozen_live hb2 i (frozen_mem hz hzl i (by simp [Cell.ids]))
                have ho := hI.own i
                cases hH : H i with
                | dead => rw [hH] at this; exact this
                | raw m cs => rw [hH] at ho; obtain ⟨_, _, _, h3, _⟩ := ho; rw [hn] at h3; cases h3
                | arr a =>
                  rw [hH] at ho
                  rcases ho with ⟨_, h3⟩ | ⟨_, _, _, h3, _⟩ <;> (rw [hn] at h3; cases h3)
              simp only [Cell.last, upd_ne hin]
            | _ => rfl
          rw [List.map_congr_left hlast] at hfl
          have hpl : ∀ y ∈ x.cells.map (Cell.last H), y.plain := fun y hy => by
            obtain ⟨z, hz, rfl⟩ := List.mem_map.1 hy
            exact last_plain (List.all_eq_true.1 hb2 z hz)
          have h7 : cellsR ((C.add n v.cells t 1).fz (n :: frozenIds x.cells)) ((x.cells.take 7).map (Cell.last H)) (v.cells.toList.take 7) :=
            ⟨by simp [hlen, hv8], fun j y hj => by
              rw [List.map_take, List.getElem?_take] at hj
              split at hj
              · rename_i hj7
                obtain ⟨u, h1, h2⟩ := hfl.2 j y hj
                exact ⟨u, by rw [List.getElem?_take, if_pos hj7]; exact h1, h2⟩
              · cases hj⟩
          have hst := elR_of (e := .st s) (stOf_R (allR_of h7 fun y hy => hpl y (by rw [List.map_take] at hy; exact List.mem_of_mem_take hy)) hs)
          have hcell : ∀ j u, v.cells.toList[j]? = some u → ((C.add n v.cells t 1).fz (n :: frozenIds x.cells)).w.cell? ((⟨C.w.heap.size, 0, none⟩ : Addr).add j) = some u := fun j u hu => by
            have ha : (⟨C.w.heap.size, 0, none⟩ : Addr).add j = ⟨C.w.heap.size, j, none⟩ := by unfold Addr.add; split <;> simp_all
            rw [ha]
            show (C.add n v.cells t 1).w.cell? _ = _
            simp only [World.cell?, heap_add_new]
            simpa using hu
          have h8 : x.cells[7]? = some (.mk l 0) := by
            have := congrArg (fun q => q[0]?) hl
            simpa [List.getElem?_drop] using this
          obtain ⟨u8, h9, h10⟩ := hm7.2 7 _ h8
          refine ⟨⟨C.w.heap.size, 0, none⟩, by simp [Addr.add], .inr ⟨n, 1, List.mem_cons_self, add_own⟩, fun j y hj => ?_, u8, hcell 7 u8 h9, cellR_fz (x := .mk l 0) h10⟩
          obtain ⟨u, h11, h12⟩ := hst j y hj
          refine ⟨u, hcell j u ?_, h12⟩
          rw [List.getElem?_take] at h11
          split at h11
          · exact h11
          · cases h11
        · rintro b ⟨j, m, hj, hm⟩ hb
          have hm' := hρ j b m hm hb
          have hjn : j ≠ n := fun h => by rw [h, hn] at hm'; cases hm'
          have hj' := (List.mem_cons.1 hj).resolve_left hjn
          exact ⟨j, m, by rw [List.map_map]; simpa [Function.comp_def] using Or.inr hj', frozen_live hb2 j hj', hm'⟩
        · intro i p hp
          rcases add_new (vs := v.cells) (e := t) i p hp with h | ⟨rfl, h⟩
          · exact .inl h
          · refine .inr ⟨Nat.le_refl _, Nat.lt_succ_self _, fun b hb => .inr ?_⟩
            rw [h] at hb
            simp only [Option.some.injEq] at hb
            omega
    · cases hr
end

theorem rep_spec (k : EK) (m : Nat) : (Arr.rep k m).len = m ∧ (Arr.rep k m).esz = k.size ∧ ∀ j, j < m → (Arr.rep k m).get j = k.zero := by
  refine ⟨by cases k <;> simp [Arr.rep, Arr.len], by cases k <;> rfl, fun j hj => ?_⟩
  cases k <;> simp [Arr.rep, Arr.get, EK.zero, List.getD_eq_getElem?_getD, hj]
theorem zvOf_len (k : EK) : (zvOf k).length = k.size := by cases k <;> rfl
theorem zvOf_R (C : Cx) (k : EK) : elR C k.zero (zvOf k) := by
  refine elR_of ?_
  have h1 := nil_R C.w C.frz 2 .int
  have h2 := nil_R C.w C.frz 2 .bool
  have h3 := nil_R C.w C.frz 2 .pkt
  have h4 := nil_R C.w C.frz 2 .st
  cases k
  · exact ⟨rfl, trivial⟩
  · exact ⟨rfl, trivial⟩
  · exact ⟨rfl, trivial⟩
  · exact ⟨rfl, rfl, rfl, rfl, rfl, rfl, rfl, trivial⟩
  · exact ⟨rfl, rfl, rfl, h3, h2, h2, h1, trivial⟩
  · exact ⟨rfl, h1, h1, rfl, rfl, rfl, rfl, h3, h2, h2, h1, h4, h1, trivial⟩
  · exact ⟨rfl, rfl, rfl, rfl, rfl, rfl, rfl, rfl, rfl, rfl, rfl, trivial⟩
  · exact ⟨rfl, rfl, rfl, trivial⟩
theorem made_get (z : Array Value) (m s j k : Nat) (hs : z.size = s) (hj : j < s) (hk : k < m) : (madeCells z (m * s))[k * s + j]? = z[j]? := by
  have h1 : k * s + j < m * s := by
    have := Nat.mul_le_mul_right s (show k + 1 ≤ m from hk)
    rw [Nat.succ_mul] at this
    omega
  unfold madeCells
  rw [Array.getElem?_map, Array.getElem?_range, if_pos h1]
  have h2 : (k * s + j) % z.size = j := by rw [hs, Nat.mul_comm, Nat.mul_add_mod, Nat.mod_eq_of_lt hj]
  simp only [Option.map_some, h2]
  rw [getElem!_pos z j (by omega), Array.getElem?_eq_getElem (by omega)]
theorem EK.size_pos (k : EK) : 0 < k.size := by cases k <;> decide
section
variable {P : Program} {C : Cx} {H : Hp} {n : Nat}
theorem make_ok {t : Nat} {ti te : TI} {k : EK} (h : TIok P t ti) (he : TIok P ti.elem te) (hk : te.ek = some k) (hz : ti.elem ≠ 0) (hI : Inv C H) (hn : C.ρ n = none) {a b : Int} (hab : a = b ∧ 0 ≤ a ∧ a ≤ 4294967296) :
    ∃ v w', (Instr.makeSlice t (.int .i64 a) (.int .i64 b)).run P C.w = .ok v w' ∧ ∃ C', Left C H n ⟨some (a = b ∧ 0 ≤ a ∧ a ≤ 4294967296), .v (.c (.own n k.size ti.elem)), [], [(n, .arr (.rep k a.toNat))], Nat.succ n⟩ v w' C' := by
  obtain ⟨rfl, h0, hm⟩ := hab
  obtain ⟨d, hd1, _, _, hd4⟩ := h.d
  have hu : P.underlying t = some (.slice ti.elem) := by
    rw [hd1]
    cases d <;> simp [elemD] at hd4 <;> first | (rw [hd4]) | exact absurd hd4.symm hz
  obtain ⟨i, z, hi1, hi2, hi3, hi4, hi5⟩ := he.i
  have hek := he.ek
  rw [hk] at hek
  obtain ⟨hzv, hsk, hby⟩ := hek
  rw [Bool.and_eq_true] at hby
  have hb1 : 0 < te.bytes := by have := hby.1; exact Nat.le_of_ble_eq_true this
  have hb2 : te.bytes ≤ 4096 := Nat.le_of_ble_eq_true hby.2
  have hsz : i.size = k.size := by rw [hi3, hsk]
  obtain ⟨m, rfl⟩ := Int.eq_ofNat_of_zero_le h0
  have hm' : m ≤ 4294967296 := by omega
  have hbytes : (i.bytes : Int) * (m : Int) ≤ 281474976710656 := by
    rw [hi4]
    have : te.bytes * m ≤ 4096 * 4294967296 := Nat.mul_le_mul hb2 hm'
    have h2 : ((te.bytes * m : Nat) : Int) ≤ ((4096 * 4294967296 : Nat) : Int) := Int.ofNat_le.2 this
    rw [Int.natCast_mul] at h2
    omega
  have hrun := run_make (P := P) C.w t ti.elem i z hu hi1 hi2 .i64 .i64 m m (by omega) (by omega) hbytes (by omega)
  simp only [Int.toNat_natCast] at hrun ⊢
  obtain ⟨r1, r2, r3⟩ := rep_spec k m
  have hzs : z.cells.size = k.size := by rw [← Array.length_toList, hi5, hzv, zvOf_len]
  refine ⟨_, _, hrun, C.add n (madeCells z.cells (m * i.size)) ti.elem m, made_left hI hn ?_ rfl rfl ?_⟩
  · refine .inr ⟨_, _, ti.elem, by rw [r1]; exact add_own, (add_fresh hI).1, (add_fresh hI).2, heap_add_new, by rw [r1, r2, size_madeCells, hsz]; exact Nat.le_refl _, by rw [r1]; unfold big; omega, fun j hj l x hx => ?_⟩
    rw [r1] at hj
    rw [r3 j hj] at hx
    obtain ⟨u, h1, h2⟩ := zvOf_R (C.add n (madeCells z.cells (m * i.size)) ti.elem m) k l x hx
    have hl : l < k.size := by have := (List.getElem?_eq_some_iff.1 h1).1; rw [zvOf_len] at this; exact this
    refine ⟨u, ?_, h2⟩
    rw [r2, hsz, made_get _ _ _ _ _ hzs hl hj, ← Array.getElem?_toList, hi5, hzv]
    exact h1
  · refine .inr ⟨_, _, m, _, add_own, rfl, Nat.le_refl _, heap_add_new, by rw [size_madeCells, hsz], by omega⟩
end
end Hw
end Go.Proofs.Ytmhighcagpbmeaa
