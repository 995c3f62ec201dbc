/- The operations one by one. Part 5: what is made; arithmetic; addresses. -/
import Derived.Test.YtceihgojdnkfiaaX6
set_option linter.unusedVariables false
set_option linter.unusedSimpArgs false
namespace Go.Proofs.Ytceihgojdnkfiaa
namespace Hw
open Go

section
variable {P : Program} {C : Cx} {H : Hp} {n : Nat}
theorem made_left {vs : Array Value} {e : TypeId} {m : Nat} {b : Blk} {r : OpR} {v : Value} (hI : Inv C H) (hn : C.ρ n = none) (hb : OwnAt (C.add n vs e m) n b)
    (hws : r.ws = [(n, b)]) (hnid : r.nid = n + 1) (hv : avR (C.add n vs e m) r.v v) : Left C H n r v (C.w.alloc (.cells vs e)) (C.add n vs e m) :=
  ⟨rfl, hv, by rw [hws]; exact add_inv hI hn hb, add_ext _ hn, fun i p hp => by
    rcases add_new i p hp with h | ⟨rfl, h⟩
    · exact .inl h
    · exact .inr ⟨Nat.le_refl _, by rw [hnid]; omega, fun b hb => .inr (by rw [h] at hb; cases hb; exact Nat.le_refl _)⟩⟩
theorem zero_R (C : Cx) {ti : TI} (h : ti.zv.all Value.oneCell' = true) : cellsR C ti.zero ti.zv := by
  refine ⟨by simp [TI.zero], fun j x hj => ?_⟩
  simp only [TI.zero, List.getElem?_map] at hj
  cases hc : ti.zv[j]? with
  | none => rw [hc] at hj; cases hj
  | some u =>
    rw [hc] at hj
    simp only [Option.map_some, Option.some.injEq] at hj
    subst hj
    refine ⟨u, rfl, cellOfVal_R C u ?_⟩
    have := List.all_eq_true.1 h u (List.mem_of_getElem? hc)
    cases u <;> simp_all [oneC, Value.oneCell']
theorem alloc_ok {t : Nat} {ti : TI} (h : TIok P t ti) (hI : Inv C H) (hn : C.ρ n = none) :
    ∃ v w', (Instr.alloc t true (.tuple #[])).run P C.w = .ok v w' ∧ ∃ C', Left C H n ⟨none, .v (.c (.ptr n 0)), [], [(n, .raw 1 ti.zero)], Nat.succ n⟩ v w' C' := by
  obtain ⟨z, h1, h2⟩ := h.run_zero C.w
  refine ⟨.pointer (some ⟨C.w.heap.size, 0, none⟩), C.w.alloc (.cells z.cells t), ?_, C.add n z.cells t 1, made_left hI hn (add_raw hI hn ?_) rfl rfl ?_⟩
  · simp [Instr.alloc, h1, newVar, newRow]
  · rw [h2]; exact zero_R C h.one
  · exact ⟨_, _, add_own, rfl⟩
theorem box_ok {t : Nat} {x : FV} {v : Value} (hI : Inv C H) (hn : C.ρ n = none) (hx : fvR C x v) :
    ∃ u w', (Instr.box t v).run P C.w = .ok u w' ∧ ∃ C', Left C H n ⟨none, .v (.c (.ptr n 0)), [], [(n, .raw 1 x.cells)], Nat.succ n⟩ u w' C' := by
  refine ⟨.pointer (some ⟨C.w.heap.size, 0, none⟩), C.w.alloc (.cells v.cells t), ?_, C.add n v.cells t 1, made_left hI hn (add_raw hI hn (fv_cells hx)) rfl rfl ?_⟩
  · simp [Instr.box, newVar, newRow]
  · exact ⟨_, _, add_own, rfl⟩
end

theorem rep_spec (k : EK) (m : Nat) : (Arr.rep k m).len = m ∧ (Arr.rep k m).esz = k.size ∧ ∀ j, j < m → (Arr.rep k m).get j = k.zero := by
  refine ⟨by cases k <;> simp [Arr.rep, Arr.len], by cases k <;> rfl, fun j hj => ?_⟩
  cases k <;> simp [Arr.rep, Arr.get, EK.zero, List.getD_eq_getElem?_getD, hj]
theorem zvOf_len (k : EK) : (zvOf k).length = k.size := by cases k <;> rfl
theorem zvOf_R (C : Cx) (k : EK) : elR C k.zero (zvOf k) := by
  refine elR_of ?_
  have h1 := nil_R C.w C.frz 2 .int
  have h2 := nil_R C.w C.frz 2 .bool
  have h3 := nil_R C.w C.frz 2 .pkt
  have h4 := nil_R C.w C.frz 2 .st
  cases k
  · exact ⟨rfl, trivial⟩
  · exact ⟨rfl, trivial⟩
  · exact ⟨rfl, trivial⟩
  · exact ⟨rfl, rfl, rfl, rfl, rfl, rfl, rfl, trivial⟩
  · exact ⟨rfl, rfl, rfl, h3, h2, h2, h1, trivial⟩
  · exact ⟨rfl, h1, h1, rfl, rfl, rfl, rfl, h3, h2, h2, h1, h4, h1, trivial⟩
  · exact ⟨rfl, rfl, rfl, rfl, rfl, rfl, rfl, rfl, rfl, rfl, rfl, trivial⟩
  · exact ⟨rfl, rfl, rfl, trivial⟩
theorem made_get (z : Array Value) (m s j k : Nat) (hs : z.size = s) (hj : j < s) (hk : k < m) : (madeCells z (m * s))[k * s + j]? = z[j]? := by
  have h1 : k * s + j < m * s := by
    have := Nat.mul_le_mul_right s (show k + 1 ≤ m from hk)
    rw [Nat.succ_mul] at this
    omega
  unfold madeCells
  rw [Array.getElem?_map, Array.getElem?_range, if_pos h1]
  have h2 : (k * s + j) % z.size = j := by rw [hs, Nat.mul_comm, Nat.mul_add_mod, Nat.mod_eq_of_lt hj]
  simp only [Option.map_some, h2]
  rw [getElem!_pos z j (by omega), Array.getElem?_eq_getElem (by omega)]
theorem EK.size_pos (k : EK) : 0 < k.size := by cases k <;> decide
section
variable {P : Program} {C : Cx} {H : Hp} {n : Nat}
theorem make_ok {t : Nat} {ti te : TI} {k : EK} (h : TIok P t ti) (he : TIok P ti.elem te) (hk : te.ek = some k) (hz : ti.elem ≠ 0) (hI : Inv C H) (hn : C.ρ n = none) {a b : Int} (hab : a = b ∧ 0 ≤ a ∧ a ≤ 4294967296) :
    ∃ v w', (Instr.makeSlice t (.int .i64 a) (.int .i64 b)).run P C.w = .ok v w' ∧ ∃ C', Left C H n ⟨some (a = b ∧ 0 ≤ a ∧ a ≤ 4294967296), .v (.c (.own n k.size ti.elem)), [], [(n, .arr (.rep k a.toNat))], Nat.succ n⟩ v w' C' := by
  obtain ⟨rfl, h0, hm⟩ := hab
  obtain ⟨d, hd1, _, _, hd4⟩ := h.d
  have hu : P.underlying t = some (.slice ti.elem) := by
    rw [hd1]
    cases d <;> simp [elemD] at hd4 <;> first | (rw [hd4]) | exact absurd hd4.symm hz
  obtain ⟨i, z, hi1, hi2, hi3, hi4, hi5⟩ := he.i
  have hek := he.ek
  rw [hk] at hek
  obtain ⟨hzv, hsk, hby⟩ := hek
  rw [Bool.and_eq_true] at hby
  have hb1 : 0 < te.bytes := by have := hby.1; exact Nat.le_of_ble_eq_true this
  have hb2 : te.bytes ≤ 4096 := Nat.le_of_ble_eq_true hby.2
  have hsz : i.size = k.size := by rw [hi3, hsk]
  obtain ⟨m, rfl⟩ := Int.eq_ofNat_of_zero_le h0
  have hm' : m ≤ 4294967296 := by omega
  have hbytes : (i.bytes : Int) * (m : Int) ≤ 281474976710656 := by
    rw [hi4]
    have : te.bytes * m ≤ 4096 * 4294967296 := Nat.mul_le_mul hb2 hm'
    have h2 : ((te.bytes * m : Nat) : Int) ≤ ((4096 * 4294967296 : Nat) : Int) := Int.ofNat_le.2 this
    rw [Int.natCast_mul] at h2
    omega
  have hrun := run_make (P := P) C.w t ti.elem i z hu hi1 hi2 .i64 .i64 m m (by omega) (by omega) hbytes (by omega)
  simp only [Int.toNat_natCast] at hrun ⊢
  obtain ⟨r1, r2, r3⟩ := rep_spec k m
  have hzs : z.cells.size = k.size := by rw [← Array.length_toList, hi5, hzv, zvOf_len]
  refine ⟨_, _, hrun, C.add n (madeCells z.cells (m * i.size)) ti.elem m, made_left hI hn ?_ rfl rfl ?_⟩
  · refine .inr ⟨_, _, ti.elem, by rw [r1]; exact add_own, (add_fresh hI).1, (add_fresh hI).2, heap_add_new, by rw [r1, r2, size_madeCells, hsz]; exact Nat.le_refl _, by rw [r1]; unfold big; omega, fun j hj l x hx => ?_⟩
    rw [r1] at hj
    rw [r3 j hj] at hx
    obtain ⟨u, h1, h2⟩ := zvOf_R (C.add n (madeCells z.cells (m * i.size)) ti.elem m) k l x hx
    have hl : l < k.size := by have := (List.getElem?_eq_some_iff.1 h1).1; rw [zvOf_len] at this; exact this
    refine ⟨u, ?_, h2⟩
    rw [r2, hsz, made_get _ _ _ _ _ hzs hl hj, ← Array.getElem?_toList, hi5, hzv]
    exact h1
  · refine .inr ⟨_, _, m, _, add_own, rfl, Nat.le_refl _, heap_add_new, by rw [size_madeCells, hsz], by omega⟩
end
end Hw
end Go.Proofs.Ytceihgojdnkfiaa
