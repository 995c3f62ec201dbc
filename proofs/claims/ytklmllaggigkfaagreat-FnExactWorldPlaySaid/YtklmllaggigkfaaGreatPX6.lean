/- The operations one by one. Part 4: stores. -/
import Derived.Test.YtklmllaggigkfaaGreatPX2
set_option linter.unusedVariables false
set_option linter.unusedSimpArgs false
namespace Go.Proofs.YtklmllaggigkfaaGreat
namespace Hw
open Go
theorem seg_get {α:Type} (cs:List α) (o:Nat) (xs:List α) (j:Nat) (ho:o + xs.length≤cs.length) :
  (cs.take o ++ xs ++ cs.drop (o + xs.length))[j]? = if o≤j∧j < o + xs.length then xs[j - o]? else cs[j]?:=by
 by_cases h1:j < o
 ·rw [if_neg (by omega),List.append_assoc,List.getElem?_append_left (by rw [List.length_take]; omega),List.getElem?_take,if_pos h1]
 ·by_cases h2:j < o + xs.length
  ·rw [if_pos ⟨by omega,h2⟩,List.append_assoc,List.getElem?_append_right (by rw [List.length_take]; omega),List.length_take,List.getElem?_append_left (by omega)]
   congr 1
   omega
  ·rw [if_neg (by omega),List.getElem?_append_right (by rw [List.length_append,List.length_take]; omega),List.length_append,List.length_take,List.getElem?_drop]
   congr 1
   omega
theorem splice_eq (cs:List Cell) (o:Nat) (xs:List Cell):splice cs o xs = cs.take o ++ xs ++ cs.drop (o + xs.length):=by
 show cs.take o ++ (xs ++ cs.drop (Nat.add o xs.length)) = _
 rw [List.append_assoc]
 rfl
theorem splice_len {cs:List Cell} {o:Nat} {xs:List Cell} (ho:o + xs.length≤cs.length):(splice cs o xs).length = cs.length:=by
 rw [splice_eq]
 simp only [List.length_append,List.length_take,List.length_drop]
 omega
theorem store_run {P:Program} {t:Nat} {ti:TI} (h:TIok P t ti) {w:World} {b o:Nat} {cur:Array Value} {e:TypeId} {sv:Value} (hg:w.heap[b]? = some (.cells cur e (0,0)))
  (hl:sv.cells.toList.length = ti.size) (hfit:o + sv.cells.toList.length≤cur.size) (h1:∀u∈sv.cells.toList,u.oneCell' = true) :
  (Instr.storeAt t (.pointer (some ⟨b,o,none⟩)) sv).run P w = .ok () (w.setRow b (cur.toList.take o ++ sv.cells.toList ++ cur.toList.drop (o + sv.cells.toList.length)).toArray):=by
 have h2:=run_storeCells_at P b o e sv.cells.toList 0 cur w hg (by simpa using hfit) h1
 have hl':sv.cells.size = ti.size:=by simpa using hl
 simp only [Nat.add_zero] at h2
 simp [Instr.storeAt,Instr.sureAddr,storeVar,h.run_size,hl',h2]
theorem frozen_mem {xs:List Cell} {x:Cell} {H:Hp} (hx:x∈xs) (hl:x.lasts H = true):∀i∈x.ids,i∈frozenIds xs:=by
 intro i hi
 unfold frozenIds
 rw [List.mem_flatMap]
 refine ⟨x,hx,?_⟩
 cases x with
 | own j sz e=>exact hi
 | ptr j o=>cases hl
 | ep j sz k o=>cases hl
 | tail j sz e k=>cases hl
 | mp j=>cases hl
 | clo f j=>cases hl
 | _=>cases hi
theorem frozen_live {xs:List Cell} {H:Hp} (hl:xs.all (Cell.lasts H) = true):∀j∈frozenIds xs,(H j).live:=by
 intro j hj
 unfold frozenIds at hj
 rw [List.mem_flatMap] at hj
 obtain ⟨x,hx,hj⟩:=hj
 have h1:=List.all_eq_true.1 hl x hx
 cases x <;> simp only [List.mem_singleton,List.not_mem_nil] at hj
 subst hj
 simp only [Cell.lasts] at h1
 split at h1
 ·rename_i a hH; rw [hH]; trivial
 ·cases h1
theorem nodupN_nodup:∀{l:List Nat},nodupN l = true→l.Nodup
 | [],_=>List.nodup_nil
 | i :: r,h=>by
  unfold nodupN at h
  rw [Bool.and_eq_true] at h
  refine List.nodup_cons.2 ⟨fun hm=>?_,nodupN_nodup h.2⟩
  have:=memN_iff.2 hm
  rw [this] at h
  simp at h
theorem map_last_R {C:Cx} {H:Hp} {xs:List Cell} {us:List Value} (hI:Inv C H) (hl:xs.all (Cell.lasts H) = true) (hx:cellsR C xs us):cellsR (C.fz (frozenIds xs)) (xs.map (Cell.last H)) us :=
 ⟨by rw [List.length_map]; exact hx.1,fun j y hj=>by
  rw [List.getElem?_map] at hj
  cases hc:xs[j]? with
  | none=>rw [hc] at hj; cases hj
  | some x =>
   rw [hc] at hj
   simp only [Option.map_some,Option.some.injEq] at hj
   subst hj
   obtain ⟨u,h1,h2⟩:=hx.2 j x hc
   have hm:=List.mem_of_getElem? hc
   have h3:=List.all_eq_true.1 hl x hm
   exact ⟨u,h1,last_R hI h3 h2 (frozen_mem hm h3)⟩⟩
theorem cellsR_splice {C:Cx} {cs xs:List Cell} {vs us:List Value} {o:Nat} (h1:cellsR C cs vs) (h2:cellsR C xs us) (ho:o + xs.length≤cs.length) :
  cellsR C (splice cs o xs) (vs.take o ++ us ++ vs.drop (o + us.length)):=by
 have e1:=h1.1
 have e2:=h2.1
 refine ⟨?_,fun j y hj=>?_⟩
 ·rw [splice_len ho]
  simp only [List.length_append,List.length_take,List.length_drop]
  omega
 ·rw [splice_eq,seg_get _ _ _ _ ho] at hj
  rw [seg_get _ _ _ _ (by omega),e2]
  split at hj
  ·rename_i hc; rw [if_pos hc]; exact h2.2 _ _ hj
  ·rename_i hc; rw [if_neg hc]; exact h1.2 _ _ hj
theorem splice_plain {cs xs:List Cell} {o:Nat} (h1:∀x∈cs,x.plain) (h2:∀x∈xs,x.plain):∀x∈splice cs o xs,x.plain:=by
 intro x hx
 rw [splice_eq,List.mem_append,List.mem_append] at hx
 rcases hx with (hx | hx) | hx
 ·exact h1 x (List.mem_of_mem_take hx)
 ·exact h2 x hx
 ·exact h1 x (List.mem_of_mem_drop hx)
theorem cells_plain' {e:El} {x:Cell} (h:x∈e.cells true):x.plain:=by
 rcases cells_plain h with ⟨n,rfl⟩ | ⟨n,rfl⟩ | ⟨b,rfl⟩ | ⟨a,rfl⟩ | ⟨f,rfl⟩ <;> trivial
theorem list_seg {α:Type} (l:List α) (p q o n:Nat) (us:List α) (hn:us.length = n) (hq:o + n≤q) (hl:p + q≤l.length) :
  ((l.take (p + o) ++ us ++ l.drop (p + o + us.length)).drop p).take q = ((l.drop p).take q).take o ++ us ++ ((l.drop p).take q).drop (o + us.length):=by
 apply List.ext_getElem?
 intro j
 by_cases hj:j < q
 ·rw [getElem?_seg _ _ _ _ hj,seg_get _ _ _ _ (by omega),seg_get _ _ _ _ (by rw [List.length_take,List.length_drop]; omega),getElem?_seg _ _ _ _ hj]
  by_cases hc:o≤j∧j < o + us.length
  ·rw [if_pos (by omega),if_pos hc]; congr 1; omega
  ·rw [if_neg (by omega),if_neg hc]
 ·rw [List.getElem?_eq_none (by rw [List.length_take]; omega),List.getElem?_eq_none]
  simp only [List.length_append,List.length_take,List.length_drop]
  omega
theorem row_far {k k' sz o j n:Nat} (hk:k'≠k) (hj:j < sz) (hn:o + n≤sz):¬ (k * sz + o≤k' * sz + j∧k' * sz + j < k * sz + o + n):=by
 rcases Nat.lt_or_gt_of_ne hk with h | h
 ·have:(k' + 1) * sz≤k * sz:=Nat.mul_le_mul_right _ h
  rw [Nat.succ_mul] at this
  omega
 ·have:(k + 1) * sz≤k' * sz:=Nat.mul_le_mul_right _ h
  rw [Nat.succ_mul] at this
  omega
theorem row_fit {k n sz len:Nat} (hk:k < n) (hs:n * sz≤len):k * sz + sz≤len:=by
 have:(k + 1) * sz≤n * sz:=Nat.mul_le_mul_right _ hk
 rw [Nat.succ_mul] at this
 omega
theorem aStore_ok {P : Program} {t : Nat} {ti : TI} {C : Cx} {H : Hp} {n : Nat} {p : Cell} {v sv : Value} {xs : List Cell} {r : OpR} (h : TIok P t ti) (hI : Inv C H) (hp : cellR C p v) (hx : cellsR C xs sv.cells.toList)
    (hr : aStore ti H n p xs = some r) (hk : r.ok) : ∃ w', (Instr.storeAt t v sv).run P C.w = .ok () w' ∧ ∃ C', Left C H n r undef w' C' := by
  unfold aStore at hr
  cases hlen : Nat.beq xs.length ti.size with
  | false => rw [hlen] at hr; cases hr
  | true =>
  rw [hlen] at hr
  simp only [cond_true] at hr
  have hlen' : sv.cells.toList.length = ti.size := by rw [hx.1]; exact Nat.eq_of_beq_eq_true hlen
  have hone := cellsR_one hx
  split at hr
  · rename_i i o
    split at hr
    · rename_i m cs hH
      cases hb : Nat.ble (Nat.add o xs.length) cs.length with
      | false => rw [hb] at hr; cases hr
      | true =>
      rw [hb] at hr
      simp only [cond_true, Option.some.injEq] at hr
      subst hr
      have hfit : o + xs.length ≤ cs.length := Nat.le_of_ble_eq_true hb
      have hlive : (H i).live := by rw [hH]; trivial
      have ho := hI.own i
      rw [hH] at ho
      obtain ⟨b, cur, e, h1, h2, h3, h4, h5, h6⟩ := ho
      obtain ⟨b', n', h7, rfl⟩ := hp
      rw [h1] at h7
      cases h7
      have hrun := store_run (sv := sv) h h4 hlen' (by rw [hx.1]; omega) hone (o := o)
      have hsz : (cur.toList.take o ++ sv.cells.toList ++ cur.toList.drop (o + sv.cells.toList.length)).toArray.size = cur.size := by
        simp only [List.size_toArray, List.length_append, List.length_take, List.length_drop, Array.length_toList]
        have := hx.1
        simp only [Array.length_toList] at this
        omega
      refine ⟨_, hrun, C.set b _, rfl, trivial, set_inv hI h1 hlive h4 hsz ?_, set_ext h4 hsz _ ⟨i, m, by simp, hlive, h1⟩, fun j p hp => .inl hp⟩
      have hext := set_ext h4 hsz (fun k => k = b) rfl
      have hoff : Off (fun k => k = b) C := hI.off (fun k hk => ⟨i, m, hlive, by rw [hk]; exact h1⟩)
      refine ⟨b, _, e, h1, h2, h3, setRow_heap C.w b cur _ e _ h4, by rw [hsz, splice_len hfit]; exact h5, fun j x hj => ?_⟩
      have h8 : cellsR C cs cur.toList := ⟨by simpa using h5, fun j x hj => by obtain ⟨u, a, b⟩ := h6 j x hj; exact ⟨u, by simpa using a, b⟩⟩
      obtain ⟨u, h9, h10⟩ := (cellsR_splice (o := o) h8 hx hfit).2 j x hj
      exact ⟨u, by simpa using h9, cellR_ext hext hoff h10⟩
    · cases hr
  · rename_i i sz k o
    split at hr
    · rename_i a hH
      cases hb : (Nat.beq sz a.esz && Nat.ble (Nat.add o xs.length) a.esz && xs.all (Cell.lasts H) && nodupN (i :: frozenIds xs)) with
      | false => rw [hb] at hr; cases hr
      | true =>
      rw [hb] at hr
      simp only [Bool.and_eq_true] at hb
      obtain ⟨⟨⟨hb1, hb2⟩, hb3⟩, hb4⟩ := hb
      have hsz := Nat.eq_of_beq_eq_true hb1
      subst hsz
      have hfit : o + xs.length ≤ a.esz := Nat.le_of_ble_eq_true hb2
      have hnd := nodupN_nodup hb4
      rw [List.nodup_cons] at hnd
      simp only [cond_true, Option.bind_eq_some_iff] at hr
      obtain ⟨el, hel, ar, har, hr⟩ := hr
      simp only [Option.some.injEq] at hr
      subst hr
      have hkl : k < a.len := hk
      obtain ⟨s1, s2, s3, s4⟩ := set_spec har
      have hlive : (H i).live := by rw [hH]; trivial
      have hfl := frozen_live hb3
      have hI1 := fz_inv hI hfl
      have hH1 : wr H ((frozenIds xs).map fun j => (j, .dead)) i = .arr a := by rw [wr_dead, if_neg hnd.1]; exact hH
      have ho := hI1.own i
      rw [hH1] at ho
      rcases ho with ⟨h0, _⟩ | ⟨b, cur, e, h1, h2, h3, h4, h5, h5', h6⟩
      · omega
      obtain ⟨b', n', h7, rfl⟩ := hp
      have h1' : C.ρ i = some (some b, a.len) := h1
      rw [h1'] at h7
      cases h7
      have hrow := row_fit hkl h5
      have hrun := store_run (sv := sv) h (w := C.w) (o := k * a.esz + o) h4 hlen' (by rw [hx.1]; omega) hone
      have hsz : (cur.toList.take (k * a.esz + o) ++ sv.cells.toList ++ cur.toList.drop (k * a.esz + o + sv.cells.toList.length)).toArray.size = cur.size := by
        simp only [List.size_toArray, List.length_append, List.length_take, List.length_drop, Array.length_toList]
        have := hx.1
        simp only [Array.length_toList] at this
        omega
      have hlive1 : (wr H ((frozenIds xs).map fun j => (j, .dead)) i).live := by rw [hH1]; trivial
      refine ⟨_, hrun, (C.fz (frozenIds xs)).set b _, rfl, trivial, ?_, ?_, fun j p hp => .inl hp⟩
      · show Inv _ (wr H (((frozenIds xs).map fun j => (j, Blk.dead)) ++ [(i, .arr ar)]))
        rw [wr_append]
        refine set_inv hI1 h1 hlive1 h4 hsz ?_
        have hext := set_ext (C := C.fz (frozenIds xs)) h4 hsz (fun k => k = b) rfl
        have hoff : Off (fun k => k = b) (C.fz (frozenIds xs)) := hI1.off (fun c hc => ⟨i, a.len, hlive1, by cases hc; exact h1⟩)
        refine .inr ⟨b, _, e, by rw [s1]; exact h1, h2, h3, setRow_heap C.w b cur _ e _ h4, by rw [hsz, s1, s2]; exact h5, by rw [s1]; exact h5', fun k' hk' j x hj => ?_⟩
        rw [s1] at hk'
        have hjl : j < a.esz := by
          have := (List.getElem?_eq_some_iff.1 hj).1
          rw [cells_len, s2] at this
          exact this
        have moved : ∀ y u, elC (arrR C.w (C.fz (frozenIds xs)).frz 3) y u → elC (arrR ((C.fz (frozenIds xs)).set b (cur.toList.take (k * a.esz + o) ++ sv.cells.toList ++ cur.toList.drop (k * a.esz + o + sv.cells.toList.length)).toArray).w ((C.fz (frozenIds xs)).set b (cur.toList.take (k * a.esz + o) ++ sv.cells.toList ++ cur.toList.drop (k * a.esz + o + sv.cells.toList.length)).toArray).frz 3) y u :=
          fun y u hy => elC_imp hy fun _ c _ h9 => arrR_ext (hext.S true) (hext.same hoff true) 3 c u h9
        by_cases hkk : k' = k
        · subst hkk
          rw [s3 hkl] at hj
          have hu0 : cellsR (C.fz (frozenIds xs)) ((a.get k').cells true) ((cur.toList.drop (k' * a.esz)).take a.esz) := by
            refine ⟨?_, fun j x hj => ?_⟩
            · rw [cells_len, List.length_take, List.length_drop, Array.length_toList]; omega
            · have hjl : j < a.esz := by have := (List.getElem?_eq_some_iff.1 hj).1; rw [cells_len] at this; exact this
              obtain ⟨u, h7, h8⟩ := h6 k' hkl j x hj
              exact ⟨u, by rw [getElem?_seg _ _ _ _ hjl]; simpa using h7, elC_cellR (List.mem_of_getElem? hj) h8⟩
          have hsp := cellsR_splice (o := o) hu0 (map_last_R hI hb3 hx) (by rw [List.length_map, cells_len]; exact hfit)
          have hall := allR_of hsp (splice_plain (fun x hx => cells_plain' hx) (fun x hx => by
            obtain ⟨y, hy, rfl⟩ := List.mem_map.1 hx
            exact last_plain (List.all_eq_true.1 hb3 y hy)))
          obtain ⟨u, h7, h8⟩ := ofCells_R hall hel j x hj
          refine ⟨u, ?_, moved _ _ h8⟩
          rw [s2]
          have hseg := list_seg cur.toList (k' * a.esz) a.esz o xs.length sv.cells.toList hx.1 hfit (by rw [Array.length_toList]; exact hrow)
          rw [← hseg, getElem?_seg _ _ _ _ hjl] at h7
          simpa using h7
        · rw [s4 k' hkk] at hj
          obtain ⟨u, h7, h8⟩ := h6 k' hk' j x hj
          refine ⟨u, ?_, moved _ _ h8⟩
          rw [s2]
          have hx1 := hx.1
          rw [List.getElem?_toArray, seg_get _ _ _ _ (by rw [hx1]; have hc : cur.toList.length = cur.size := Array.length_toList; omega), if_neg (row_far hkk hjl (by rw [hx1]; exact hfit))]
          simpa using h7
      · have hmem : ∀ j, j ∈ frozenIds xs ∨ j = i → j ∈ ((((frozenIds xs).map fun j => (j, Blk.dead)) ++ [(i, Blk.arr ar)]).map (·.1)) := by
          intro j hj
          simp only [List.map_append, List.map_map, List.mem_append, List.mem_map, Function.comp, List.map_cons, List.map_nil, List.mem_singleton]
          rcases hj with hj | hj
          · exact .inl ⟨j, hj, rfl⟩
          · exact .inr hj
        refine (fz_ext _ (fun b j m hj hr => ⟨j, m, hmem j (.inl hj), hfl j hj, hr⟩)).trans (set_ext (C := C.fz (frozenIds xs)) h4 hsz (fun k => k = b) rfl) (fun k hk _ => ?_)
        subst hk
        exact ⟨i, a.len, hmem i (.inr rfl), hlive, h1⟩
    · cases hr
  · cases hr
end Hw
end Go.Proofs.YtklmllaggigkfaaGreat
/- The operations one by one. Part 5: what is made; arithmetic; addresses. -/
set_option linter.unusedVariables false
set_option linter.unusedSimpArgs false
namespace Go.Proofs.YtklmllaggigkfaaGreat
namespace Hw
open Go
section
variable {P:Program} {C:Cx} {H:Hp} {n:Nat}
theorem made_left {vs:Array Value} {e:TypeId} {m:Nat} {b:Blk} {r:OpR} {v:Value} (hI:Inv C H) (hn:C.ρ n = none) (hb:OwnAt (C.add n vs e m) n b)
  (hws:r.ws = [(n,b)]) (hnid:r.nid = n + 1) (hv:avR (C.add n vs e m) r.v v):Left C H n r v (C.w.alloc (.cells vs e)) (C.add n vs e m) :=
 ⟨rfl,hv,by rw [hws]; exact add_inv hI hn hb,add_ext _ hn,fun i p hp=>by
  rcases add_new i p hp with h | ⟨rfl,h⟩
  ·exact .inl h
  ·exact .inr ⟨Nat.le_refl _,by rw [hnid]; omega,fun b hb=>.inr (by rw [h] at hb; cases hb; exact Nat.le_refl _)⟩⟩
theorem zero_R (C:Cx) {ti:TI} (h:ti.zv.all Value.oneCell' = true):cellsR C ti.zero ti.zv:=by
 refine ⟨by simp [TI.zero],fun j x hj=>?_⟩
 simp only [TI.zero,List.getElem?_map] at hj
 cases hc:ti.zv[j]? with
 | none=>rw [hc] at hj; cases hj
 | some u =>
  rw [hc] at hj
  simp only [Option.map_some,Option.some.injEq] at hj
  subst hj
  refine ⟨u,rfl,cellOfVal_R C u ?_⟩
  have:=List.all_eq_true.1 h u (List.mem_of_getElem? hc)
  cases u <;> simp_all [oneC,Value.oneCell']
theorem alloc_ok {t:Nat} {ti:TI} (h:TIok P t ti) (hI:Inv C H) (hn:C.ρ n = none) :
  ∃v w',(Instr.alloc t true (.tuple #[])).run P C.w = .ok v w'∧∃C',Left C H n ⟨none,.v (.c (.ptr n 0)),[],[(n,.raw 1 ti.zero)],Nat.succ n⟩ v w' C':=by
 obtain ⟨z,h1,h2⟩:=h.run_zero C.w
 refine ⟨.pointer (some ⟨C.w.heap.size,0,none⟩),C.w.alloc (.cells z.cells t),?_,C.add n z.cells t 1,made_left hI hn (add_raw hI hn ?_) rfl rfl ?_⟩
 ·simp [Instr.alloc,h1,newVar,newRow]
 ·rw [h2]; exact zero_R C h.one
 ·exact ⟨_,_,add_own,rfl⟩
theorem box_ok {t:Nat} {x:FV} {v:Value} (hI:Inv C H) (hn:C.ρ n = none) (hx:fvR C x v) :
  ∃u w',(Instr.box t v).run P C.w = .ok u w'∧∃C',Left C H n ⟨none,.v (.c (.ptr n 0)),[],[(n,.raw 1 x.cells)],Nat.succ n⟩ u w' C':=by
 refine ⟨.pointer (some ⟨C.w.heap.size,0,none⟩),C.w.alloc (.cells v.cells t),?_,C.add n v.cells t 1,made_left hI hn (add_raw hI hn (fv_cells hx)) rfl rfl ?_⟩
 ·simp [Instr.box,newVar,newRow]
 ·exact ⟨_,_,add_own,rfl⟩
theorem aMark_nid {xs:List Cell} {r:OpR} (h:aMark H n xs = some r):r.nid = Nat.succ n:=by
 unfold aMark at h
 cases hb:(Nat.beq xs.length 8 && xs.all (Cell.lasts H) && nodupN (frozenIds xs)) with
 | false=>rw [hb] at h; cases h
 | true =>
  rw [hb] at h
  simp only [cond_true] at h
  split at h
  ·cases hs:stOf ((xs.take 7).map (Cell.last H)) with
   | none=>rw [hs] at h; cases h
   | some s=>rw [hs] at h; simp only [Option.map_some,Option.some.injEq] at h; subst h; rfl
  ·cases h
theorem aMark_ok {t:Nat} {x:FV} {v:Value} {r:OpR} (hI:Inv C H) (hn:C.ρ n = none) (hx:fvR C x v) (hr:aMark H n x.cells = some r) :
  ∃u w',(Instr.box t v).run P C.w = .ok u w'∧∃C',Left C H n r u w' C':=by
 unfold aMark at hr
 cases hb:(Nat.beq x.cells.length 8 && x.cells.all (Cell.lasts H) && nodupN (frozenIds x.cells)) with
 | false=>rw [hb] at hr; cases hr
 | true =>
  rw [hb] at hr
  simp only [cond_true] at hr
  simp only [Bool.and_eq_true] at hb
  obtain ⟨⟨hb1,hb2⟩,hb3⟩:=hb
  have hlen:=Nat.eq_of_beq_eq_true hb1
  split at hr
  ·rename_i l hl
   cases hs:stOf ((x.cells.take 7).map (Cell.last H)) with
   | none=>rw [hs] at hr; cases hr
   | some s =>
    rw [hs] at hr
    simp only [Option.map_some,Option.some.injEq] at hr
    subst hr
    have hc:=fv_cells hx
    have hv8:v.cells.toList.length = 8:=by rw [hc.1]; exact hlen
    have hI1:=add_inv hI hn (add_raw (m:=1) (e:=t) (vs:=v.cells) hI hn hc)
    have hlive:∀j∈n :: frozenIds x.cells,(upd H n (.raw 1 x.cells) j).live:=fun j hj=>by
     by_cases hjn:j = n
     ·subst hjn; rw [upd_self]; trivial
     ·rw [upd_ne hjn]
      exact frozen_live hb2 j ((List.mem_cons.1 hj).resolve_left hjn)
    have hI2:=fz_inv (js:=n :: frozenIds x.cells) hI1 hlive
    have hHeq:wr (upd H n (.raw 1 x.cells)) ((n :: frozenIds x.cells).map fun j=>(j,.dead)) = wr H ((n :: frozenIds x.cells).map fun j=>(j,.dead)):=by
     funext i
     rw [wr_dead,wr_dead]
     by_cases hi:i∈n :: frozenIds x.cells
     ·rw [if_pos hi,if_pos hi]
     ·rw [if_neg hi,if_neg hi,upd_ne (fun h=>hi (by rw [h]; exact List.mem_cons_self))]
    rw [hHeq] at hI2
    have hE1:∀T,Ext T C (C.add n v.cells t 1):=fun T=>add_ext T hn
    have hE2:Ext (fun b=>∃j m,j∈n :: frozenIds x.cells∧(C.add n v.cells t 1).ρ j = some (some b,m)) (C.add n v.cells t 1) ((C.add n v.cells t 1).fz (n :: frozenIds x.cells)):=fz_ext _ fun b j m hj hm=>⟨j,m,hj,hm⟩
    have hρ:∀j b m,(C.add n v.cells t 1).ρ j = some (some b,m)→b < C.w.heap.size→C.ρ j = some (some b,m):=fun j b m h hb=>by
     rcases add_new j _ h with h | ⟨_,h⟩
     ·exact h
     ·simp only [Option.some.injEq] at h; omega
    refine ⟨.pointer (some ⟨C.w.heap.size,0,none⟩),C.w.alloc (.cells v.cells t),by simp [Instr.box,newVar,newRow],(C.add n v.cells t 1).fz (n :: frozenIds x.cells),rfl,?_,hI2,(hE1 _).trans hE2 ?_,?_⟩
    ·
     have hm7:cellsR (C.add n v.cells t 1) x.cells v.cells.toList:=cellsR_ext (hE1 fun _=>False) ⟨fun _ _ h=>h,fun _ _ h=>h,hI.frz,hI.vis⟩ hc
     have hfl:cellsR ((C.add n v.cells t 1).fz (n :: frozenIds x.cells)) (x.cells.map (Cell.last (upd H n (.raw 1 x.cells)))) v.cells.toList :=
      ⟨by rw [List.length_map]; exact hm7.1,fun j y hj=>by
       rw [List.getElem?_map] at hj
       cases hcj:x.cells[j]? with
       | none=>rw [hcj] at hj; cases hj
       | some z =>
        rw [hcj] at hj
        simp only [Option.map_some,Option.some.injEq] at hj
        subst hj
        obtain ⟨u,h1,h2⟩:=hm7.2 j z hcj
        have hzm:=List.mem_of_getElem? hcj
        have hzl:=List.all_eq_true.1 hb2 z hzm
        have hz':z.lasts (upd H n (.raw 1 x.cells)) = true∧z.last (upd H n (.raw 1 x.cells)) = z.last H:=by
         cases z with
         | own i sz e =>
          have hin:i≠n:=fun h=>by
           subst h
           have:=frozen_live hb2 i (frozen_mem hzm hzl i (by simp [Cell.ids]))
           have ho:=hI.own i
           cases hH:H i with
           | dead=>rw [hH] at this; exact this
           | mp l=>rw [hH] at ho; obtain ⟨_,_,h3,_⟩:=ho; rw [hn] at h3; cases h3
           | raw m cs=>rw [hH] at ho; obtain ⟨_,_,_,h3,_⟩:=ho; rw [hn] at h3; cases h3
           | arr a =>
            rw [hH] at ho
            rcases ho with ⟨_,h3⟩ | ⟨_,_,_,h3,_⟩ <;> (rw [hn] at h3; cases h3)
          simp only [Cell.lasts,Cell.last,upd_ne hin] at hzl ⊢
          exact ⟨hzl,trivial⟩
         | _=>exact ⟨hzl,rfl⟩
        exact ⟨u,h1,last_R hI1 hz'.1 h2 fun i hi=>List.mem_cons_of_mem _ (frozen_mem hzm hzl i hi)⟩⟩
     have hlast:∀z∈x.cells,z.last (upd H n (.raw 1 x.cells)) = z.last H:=fun z hz=>by
      have hzl:=List.all_eq_true.1 hb2 z hz
      cases z with
      | own i sz e =>
       have hin:i≠n:=fun h=>by
        subst h
        have:=frozen_live hb2 i (frozen_mem hz hzl i (by simp [Cell.ids]))
        have ho:=hI.own i
        cases hH:H i with
        | dead=>rw [hH] at this; exact this
        | mp l=>rw [hH] at ho; obtain ⟨_,_,h3,_⟩:=ho; rw [hn] at h3; cases h3
        | raw m cs=>rw [hH] at ho; obtain ⟨_,_,_,h3,_⟩:=ho; rw [hn] at h3; cases h3
        | arr a =>
         rw [hH] at ho
         rcases ho with ⟨_,h3⟩ | ⟨_,_,_,h3,_⟩ <;> (rw [hn] at h3; cases h3)
       simp only [Cell.last,upd_ne hin]
      | _=>rfl
     rw [List.map_congr_left hlast] at hfl
     have hpl:∀y∈x.cells.map (Cell.last H),y.plain:=fun y hy=>by
      obtain ⟨z,hz,rfl⟩:=List.mem_map.1 hy
      exact last_plain (List.all_eq_true.1 hb2 z hz)
     have h7:cellsR ((C.add n v.cells t 1).fz (n :: frozenIds x.cells)) ((x.cells.take 7).map (Cell.last H)) (v.cells.toList.take 7) :=
      ⟨by simp [hlen,hv8],fun j y hj=>by
       rw [List.map_take,List.getElem?_take] at hj
       split at hj
       ·rename_i hj7
        obtain ⟨u,h1,h2⟩:=hfl.2 j y hj
        exact ⟨u,by rw [List.getElem?_take,if_pos hj7]; exact h1,h2⟩
       ·cases hj⟩
     have hst:=elR_of (e:=.st s) (stOf_R (allR_of h7 fun y hy=>hpl y (by rw [List.map_take] at hy; exact List.mem_of_mem_take hy)) hs)
     have hcell:∀j u,v.cells.toList[j]? = some u→((C.add n v.cells t 1).fz (n :: frozenIds x.cells)).w.cell? ((⟨C.w.heap.size,0,none⟩:Addr).add j) = some u:=fun j u hu=>by
      have ha:(⟨C.w.heap.size,0,none⟩:Addr).add j = ⟨C.w.heap.size,j,none⟩:=by unfold Addr.add; split <;> simp_all
      rw [ha]
      show (C.add n v.cells t 1).w.cell? _ = _
      simp only [World.cell?,heap_add_new]
      simpa using hu
     have h8:x.cells[7]? = some (.mk l 0):=by
      have:=congrArg (fun q=>q[0]?) hl
      simpa [List.getElem?_drop] using this
     obtain ⟨u8,h9,h10⟩:=hm7.2 7 _ h8
     refine ⟨⟨⟨C.w.heap.size,0,none⟩,by simp [Addr.add],.inr ⟨n,1,List.mem_cons_self,add_own⟩,fun j y hj=>?_,u8,hcell 7 u8 h9,(cellR_fz (x:=.mk l 0) h10).1⟩,fun _ e=>by cases e⟩
     obtain ⟨u,h11,h12⟩:=hst j y hj
     refine ⟨u,hcell j u ?_,h12⟩
     rw [List.getElem?_take] at h11
     split at h11
     ·exact h11
     ·cases h11
    ·rintro b ⟨j,m,hj,hm⟩ hb
     have hm':=hρ j b m hm hb
     have hjn:j≠n:=fun h=>by rw [h,hn] at hm'; cases hm'
     have hj':=(List.mem_cons.1 hj).resolve_left hjn
     exact ⟨j,m,by rw [List.map_map]; simpa [Function.comp_def] using Or.inr hj',frozen_live hb2 j hj',hm'⟩
    ·intro i p hp
     rcases add_new (vs:=v.cells) (e:=t) i p hp with h | ⟨rfl,h⟩
     ·exact .inl h
     ·refine .inr ⟨Nat.le_refl _,Nat.lt_succ_self _,fun b hb=>.inr ?_⟩
      rw [h] at hb
      simp only [Option.some.injEq] at hb
      omega
  ·cases hr
end
theorem rep_spec (k:EK) (m:Nat):(Arr.rep k m).len = m∧(Arr.rep k m).esz = k.size∧∀j,j < m→(Arr.rep k m).get j = k.zero:=by
 refine ⟨by cases k <;> simp [Arr.rep,Arr.len],by cases k <;> rfl,fun j hj=>?_⟩
 cases k <;> simp [Arr.rep,Arr.get,EK.zero,List.getD_eq_getElem?_getD,hj]
theorem zvOf_len (k:EK):(zvOf k).length = k.size:=by cases k <;> rfl
theorem zvOf_R (C:Cx) (k:EK):elR C k.zero (zvOf k):=by
 refine elR_of ?_
 have h1:=nil_R C.w C.frz 2 .int
 have h2:=nil_R C.w C.frz 2 .bool
 have h3:=nil_R C.w C.frz 2 .pkt
 have h4:=nil_R C.w C.frz 2 .st
 cases k
 ·exact ⟨rfl,trivial⟩
 ·exact ⟨rfl,trivial⟩
 ·exact ⟨rfl,trivial⟩
 ·exact ⟨rfl,rfl,rfl,rfl,rfl,rfl,rfl,trivial⟩
 ·exact ⟨rfl,rfl,rfl,h3,h2,h2,h1,trivial⟩
 ·exact ⟨rfl,h1,h1,rfl,rfl,rfl,rfl,h3,h2,h2,h1,h4,h1,trivial⟩
 ·exact ⟨rfl,rfl,rfl,rfl,rfl,rfl,rfl,rfl,rfl,rfl,rfl,trivial⟩
 ·exact ⟨rfl,rfl,rfl,trivial⟩
theorem made_get (z:Array Value) (m s j k:Nat) (hs:z.size = s) (hj:j < s) (hk:k < m):(madeCells z (m * s))[k * s + j]? = z[j]?:=by
 have h1:k * s + j < m * s:=by
  have:=Nat.mul_le_mul_right s (show k + 1≤m from hk)
  rw [Nat.succ_mul] at this
  omega
 unfold madeCells
 rw [Array.getElem?_map,Array.getElem?_range,if_pos h1]
 have h2:(k * s + j) % z.size = j:=by rw [hs,Nat.mul_comm,Nat.mul_add_mod,Nat.mod_eq_of_lt hj]
 simp only [Option.map_some,h2]
 rw [getElem!_pos z j (by omega),Array.getElem?_eq_getElem (by omega)]
theorem EK.size_pos (k:EK):0 < k.size:=by cases k <;> decide
section
variable {P:Program} {C:Cx} {H:Hp} {n:Nat}
theorem make_ok {t:Nat} {ti te:TI} {k:EK} (h:TIok P t ti) (he:TIok P ti.elem te) (hk:te.ek = some k) (hz:ti.elem≠0) (hI:Inv C H) (hn:C.ρ n = none) {a b:Int} (hab:a = b∧0≤a∧a≤4294967296) :
  ∃v w',(Instr.makeSlice t (.int .i64 a) (.int .i64 b)).run P C.w = .ok v w'∧∃C',Left C H n ⟨some (a = b∧0≤a∧a≤4294967296),.v (.c (.own n k.size ti.elem)),[],[(n,.arr (.rep k a.toNat))],Nat.succ n⟩ v w' C':=by
 obtain ⟨rfl,h0,hm⟩:=hab
 obtain ⟨d,hd1,_,_,hd4⟩:=h.d
 have hu:P.underlying t = some (.slice ti.elem):=by
  rw [hd1]
  cases d <;> simp [elemD] at hd4 <;> first | (rw [hd4]) | exact absurd hd4.symm hz
 obtain ⟨i,z,hi1,hi2,hi3,hi4,hi5⟩:=he.i
 have hek:=he.ek
 rw [hk] at hek
 obtain ⟨hzv,hsk,hby⟩:=hek
 rw [Bool.and_eq_true] at hby
 have hb1:0 < te.bytes:=by have:=hby.1; exact Nat.le_of_ble_eq_true this
 have hb2:te.bytes≤4096:=Nat.le_of_ble_eq_true hby.2
 have hsz:i.size = k.size:=by rw [hi3,hsk]
 obtain ⟨m,rfl⟩:=Int.eq_ofNat_of_zero_le h0
 have hm':m≤4294967296:=by omega
 have hbytes:(i.bytes:Int) * (m:Int)≤281474976710656:=by
  rw [hi4]
  have:te.bytes * m≤4096 * 4294967296:=Nat.mul_le_mul hb2 hm'
  have h2:((te.bytes * m:Nat):Int)≤((4096 * 4294967296:Nat):Int):=Int.ofNat_le.2 this
  rw [Int.natCast_mul] at h2
  omega
 have hrun:=run_make (P:=P) C.w t ti.elem i z hu hi1 hi2 .i64 .i64 m m (by omega) (by omega) hbytes (by omega)
 simp only [Int.toNat_natCast] at hrun ⊢
 obtain ⟨r1,r2,r3⟩:=rep_spec k m
 have hzs:z.cells.size = k.size:=by rw [← Array.length_toList,hi5,hzv,zvOf_len]
 refine ⟨_,_,hrun,C.add n (madeCells z.cells (m * i.size)) ti.elem m,made_left hI hn ?_ rfl rfl ?_⟩
 ·refine .inr ⟨_,_,ti.elem,by rw [r1]; exact add_own,(add_fresh hI).1,(add_fresh hI).2,heap_add_new,by rw [r1,r2,size_madeCells,hsz]; exact Nat.le_refl _,by rw [r1]; unfold big; omega,fun j hj l x hx=>?_⟩
  rw [r1] at hj
  rw [r3 j hj] at hx
  obtain ⟨u,h1,h2⟩:=zvOf_R (C.add n (madeCells z.cells (m * i.size)) ti.elem m) k l x hx
  have hl:l < k.size:=by have:=(List.getElem?_eq_some_iff.1 h1).1; rw [zvOf_len] at this; exact this
  refine ⟨u,?_,h2⟩
  rw [r2,hsz,made_get _ _ _ _ _ hzs hl hj,← Array.getElem?_toList,hi5,hzv]
  exact h1
 ·refine .inr ⟨_,_,m,_,add_own,rfl,Nat.le_refl _,heap_add_new,by rw [size_madeCells,hsz],by omega⟩
end
end Hw
end Go.Proofs.YtklmllaggigkfaaGreat
/- The operations one by one. Part 6: append; literals of slices and structs. -/
set_option linter.unusedVariables false
set_option linter.unusedSimpArgs false
namespace Go.Proofs.YtklmllaggigkfaaGreat
namespace Hw
open Go
theorem app_spec {a b c:Arr} (h:a.app b = some c):c.len = a.len + b.len∧c.esz = a.esz∧b.esz = a.esz∧(∀j,j < a.len→c.get j = a.get j)∧∀j,j < b.len→c.get (a.len + j) = b.get j:=by
 cases a <;> cases b <;> simp only [Arr.app,Option.some.injEq,reduceCtorEq] at h
 all_goals
  subst h
  refine ⟨by simp [Arr.len],rfl,rfl,fun j hj=>?_,fun j hj=>?_⟩
  ·simp only [Arr.len] at hj
   simp [Arr.get,List.getD_eq_getElem?_getD,List.getElem?_append_left hj]
  ·simp only [Arr.len] at hj ⊢
   simp [Arr.get,List.getD_eq_getElem?_getD,List.getElem?_append_right]
theorem nil_spec (k:EK):(Arr.nil k).len = 0∧(Arr.nil k).esz = k.size:=by cases k <;> exact ⟨rfl,rfl⟩
def rowL (C:Cx) (a:Arr) (us:List Value):Prop:=us.length = a.len * a.esz∧∀k:Nat,k < a.len→∀(j:Nat) (x:Cell),((a.get k).cells true)[j]? = some x→∃u,us[k * a.esz + j]? = some u∧elC (arrR C.w C.frz 3) x u
theorem elC_one {R:Arr→Value→Prop} (hR:∀a v,R a v→v.oneCell' = true) {x:Cell} {u:Value} (h:elC R x u):u.oneCell' = true:=by
 cases x <;> simp only [elC] at h <;> first | (subst h; rfl) | (subst h; unfold fnVal; split <;> rfl) | exact hR _ _ h
theorem arrR_one {w:World} {S:Nat→Prop} {d:Nat} {a:Arr} {v:Value} (h:arrR w S d a v):v.oneCell' = true:=by
 cases d with
 | zero=>exact h.elim
 | succ d=>obtain ⟨A,c,rfl,_⟩:=h; rfl
theorem rowL_one {C:Cx} {a:Arr} {us:List Value} (hs:0 < a.esz) (h:rowL C a us):∀u∈us,u.oneCell' = true:=by
 intro u hu
 obtain ⟨q,hq,rfl⟩:=List.mem_iff_getElem.1 hu
 have hk:q / a.esz < a.len:=by rw [Nat.div_lt_iff_lt_mul hs,← h.1]; exact hq
 have hj:q % a.esz < ((a.get (q / a.esz)).cells true).length:=by rw [cells_len]; exact Nat.mod_lt _ hs
 obtain ⟨u,h1,h2⟩:=h.2 _ hk _ _ (List.getElem?_eq_getElem hj)
 have e:q / a.esz * a.esz + q % a.esz = q:=by rw [Nat.mul_comm]; exact Nat.div_add_mod _ _
 rw [e,List.getElem?_eq_getElem hq,Option.some.injEq] at h1
 rw [h1]
 exact elC_one (fun _ _ h=>arrR_one h) h2
theorem esz_pos (a:Arr):0 < a.esz:=a.ek.size_pos
theorem rowL_app {C:Cx} {a b c:Arr} {us vs:List Value} (h:a.app b = some c) (ha:rowL C a us) (hb:rowL C b vs):rowL C c (us ++ vs):=by
 obtain ⟨s1,s2,s3,s4,s5⟩:=app_spec h
 refine ⟨by rw [List.length_append,ha.1,hb.1,s1,s2,s3,Nat.add_mul],fun k hk j x hj=>?_⟩
 rw [s1] at hk
 have hjl:j < a.esz:=by have:=(List.getElem?_eq_some_iff.1 hj).1; rw [cells_len,s2] at this; exact this
 by_cases hka:k < a.len
 ·rw [s4 k hka] at hj
  obtain ⟨u,h1,h2⟩:=ha.2 k hka j x hj
  refine ⟨u,?_,h2⟩
  have:=row_fit hka (Nat.le_refl (a.len * a.esz))
  rw [s2,List.getElem?_append_left (by rw [ha.1]; omega)]
  exact h1
 ·obtain ⟨q,rfl⟩:∃q,k = a.len + q:=⟨k - a.len,by omega⟩
  have hq:q < b.len:=by omega
  rw [s5 q hq] at hj
  obtain ⟨u,h1,h2⟩:=hb.2 q hq j x hj
  refine ⟨u,?_,h2⟩
  rw [s2,List.getElem?_append_right (by rw [ha.1,Nat.add_mul]; omega),ha.1,Nat.add_mul]
  rw [s3] at h1
  rw [show a.len * a.esz + q * a.esz + j - a.len * a.esz = q * a.esz + j by omega]
  exact h1
theorem list_of_cells (w:World) (ad:Addr) (n:Nat) (h:∀q,q < n→∃u,w.cell? (ad.add q) = some u):∃us:List Value,us.length = n∧∀q u,us[q]? = some u↔q < n∧w.cell? (ad.add q) = some u:=by
 refine ⟨(List.range n).map fun q=>(w.cell? (ad.add q)).getD undef,by simp,fun q u=>?_⟩
 by_cases hq:q < n
 ·obtain ⟨u',h1⟩:=h q hq
  rw [List.getElem?_map,List.getElem?_range hq]
  simp [h1,hq]
 ·rw [List.getElem?_eq_none (by simp; omega)]
  simp [hq]
theorem src_ok {C : Cx} {H : Hp} {k : EK} {x : Cell} {v : Value} {b : Arr} {rd : List Nat} (hI : Inv C H) (hx : cellR C x v) (h : asSrc k H x = some (b, rd)) :
    ∃ A c news, v = .slice A b.len c ∧ rowL C b news ∧ (b.len : Int) ≤ big ∧ ((A = none ∧ news = []) ∨ ∃ ad, A = some ad ∧ ∀ j u, news[j]? = some u → C.w.cell? (ad.add j) = some u) := by
  have gen : ∀ (A : Option Addr) (hr : ∀ k : Nat, k < b.len → ∃ ad, A = some ad ∧ ∀ (j : Nat) (x : Cell), ((b.get k).cells true)[j]? = some x → ∃ u, C.w.cell? (ad.add (k * b.esz + j)) = some u ∧ elC (arrR C.w C.frz 3) x u),
      ∃ news, rowL C b news ∧ ((A = none ∧ news = []) ∨ ∃ ad, A = some ad ∧ ∀ j u, news[j]? = some u → C.w.cell? (ad.add j) = some u) := by
    intro A hr
    cases A with
    | none =>
      have h0 : b.len = 0 := by
        rcases Nat.eq_zero_or_pos b.len with h0 | h0
        · exact h0
        · obtain ⟨ad, h1, _⟩ := hr 0 h0; cases h1
      exact ⟨[], ⟨by simp [h0], fun k hk => by omega⟩, .inl ⟨rfl, rfl⟩⟩
    | some ad =>
      obtain ⟨us, h1, h2⟩ := list_of_cells C.w ad (b.len * b.esz) (fun q hq => by
        have hs := esz_pos b
        have hk : q / b.esz < b.len := by rw [Nat.div_lt_iff_lt_mul hs]; exact hq
        have hj : q % b.esz < ((b.get (q / b.esz)).cells true).length := by rw [cells_len]; exact Nat.mod_lt _ hs
        obtain ⟨ad', e, h3⟩ := hr _ hk
        cases e
        obtain ⟨u, h4, _⟩ := h3 _ _ (List.getElem?_eq_getElem hj)
        have e : q / b.esz * b.esz + q % b.esz = q := by rw [Nat.mul_comm]; exact Nat.div_add_mod _ _
        rw [e] at h4
        exact ⟨u, h4⟩)
      refine ⟨us, ⟨h1, fun k hk j x hj => ?_⟩, .inr ⟨ad, rfl, fun j u hu => ((h2 j u).1 hu).2⟩⟩
      obtain ⟨ad', e, h3⟩ := hr k hk
      cases e
      obtain ⟨u, h4, h5⟩ := h3 j x hj
      have hjl : j < b.esz := by have := (List.getElem?_eq_some_iff.1 hj).1; rw [cells_len] at this; exact this
      exact ⟨u, (h2 _ u).2 ⟨by have := row_fit hk (Nat.le_refl (b.len * b.esz)); omega, h4⟩, h5⟩
  unfold asSrc at h
  split at h
  · rename_i z b'
    cases hz : (z || b'.flat) with
    | false => rw [hz] at h; cases h
    | true =>
      rw [hz] at h
      simp only [cond_true, Option.some.injEq, Prod.mk.injEq] at h
      obtain ⟨rfl, rfl⟩ := h
      obtain ⟨A, c, rfl, h1, h2, h3⟩ := hx
      obtain ⟨news, h4, h5⟩ := gen A (fun k hk => by
        obtain ⟨ad, e, _, h4⟩ := h3 k hk
        refine ⟨ad, e, fun j x hj => ?_⟩
        obtain ⟨u, h5, h6⟩ := h4 j x hj
        refine ⟨u, h5, ?_⟩
        cases z with
        | true => exact h6
        | false =>
          refine elC_imp h6 fun y a he _ => ?_
          subst he
          have := cells_rk (List.mem_of_getElem? hj)
          cases b' <;> simp [Arr.rk, Arr.flat] at this hz)
      exact ⟨A, c, news, rfl, h4, h2, h5⟩
  · simp only [Option.some.injEq, Prod.mk.injEq] at h
    obtain ⟨rfl, rfl⟩ := h
    simp only [cellR] at hx
    subst hx
    have hn := nil_spec k
    exact ⟨none, 0, [], by rw [hn.1], ⟨by rw [hn.1]; simp, fun j hj => by rw [hn.1] at hj; omega⟩, by rw [hn.1]; decide, .inl ⟨rfl, rfl⟩⟩
  · rename_i j sz e
    cases hH : H j with
    | dead => rw [hH] at h; cases h
    | mp l => rw [hH] at h; cases h
    | raw m cs => rw [hH] at h; cases h
    | arr b' =>
      rw [hH] at h
      simp only at h
      cases hz : Nat.beq sz b'.esz with
      | false => rw [hz] at h; cases h
      | true =>
        rw [hz] at h
        simp only [cond_true, Option.some.injEq, Prod.mk.injEq] at h
        obtain ⟨rfl, rfl⟩ := h
        have ho := hI.own j
        rw [hH] at ho
        rcases ho with ⟨h0, h0'⟩ | ⟨g, vs, e', h1, h2, h3, h4, h5, h5', h6⟩
        · rcases hx with ⟨_, rfl⟩ | ⟨g', n, c, vs', h7, _⟩
          · exact ⟨none, 0, [], by rw [h0], ⟨by rw [h0]; simp, fun j hj => by rw [h0] at hj; omega⟩, by rw [h0]; decide, .inl ⟨rfl, rfl⟩⟩
          · rw [h0'] at h7; cases h7
        rcases hx with ⟨h7, _⟩ | ⟨g', n, c, vs', h7, rfl, h8, h9, h10⟩
        · rw [h1] at h7; cases h7
        rw [h1] at h7
        cases h7
        obtain ⟨news, h11, h12⟩ := gen (some ⟨g, 0, none⟩) (fun k hk => ⟨_, rfl, fun j x hj => by
          obtain ⟨u, h11, h12⟩ := h6 k hk j x hj
          refine ⟨u, ?_, h12⟩
          have ha : (⟨g, 0, none⟩ : Addr).add (k * b'.esz + j) = ⟨g, k * b'.esz + j, none⟩ := by unfold Addr.add; split <;> simp_all
          rw [ha]
          simp [World.cell?, h4, h11]⟩)
        exact ⟨_, c, news, rfl, h11, h5', h12⟩
  · cases h
def Cx.draw (C:Cx):Cx:=⟨C.w.drew,C.frz,C.vis,C.ρ⟩
section
variable {P:Program} {C:Cx} {H:Hp} {n:Nat}
theorem draw_ext (T:Nat→Prop):Ext T C C.draw:=⟨rfl,rfl,rfl,Nat.le_refl _,fun _ _ _=>rfl,fun b vs e h=>⟨vs,h,rfl⟩,fun b o h0 h=>h0 o h,fun _ h=>h,fun _ h=>.inl h,rfl,fun _ _ h=>h⟩
theorem draw_inv (h:Inv C H):Inv C.draw H:=⟨fun i=>OwnAt_ext (draw_ext fun _=>False) ⟨fun _ _ h=>h,fun _ _ h=>h,h.frz,h.vis⟩ (h.own i) fun _ _ _ h=>h,h.inj,h.frz,h.vis⟩
theorem rowL_ext {C':Cx} {T:Nat→Prop} (h:Ext T C C') (o:Off T C) {a:Arr} {us:List Value} (hr:rowL C a us):rowL C' a us :=
 ⟨hr.1,fun k hk j x hj=>by
  obtain ⟨u,h1,h2⟩:=hr.2 k hk j x hj
  exact ⟨u,h1,elC_imp h2 fun _ b _ h3=>arrR_ext (h.S true) (h.same o true) 3 b u h3⟩⟩
theorem off_none (hI:Inv C H):Off (fun _=>False) C:=⟨fun _ _ h=>h,fun _ _ h=>h,hI.frz,hI.vis⟩
theorem add_arr (hI:Inv C H) (hn:C.ρ n = none) {vs:Array Value} {e:TypeId} {a:Arr} {us:List Value} (hr:rowL C a us) (hp:∀(j:Nat) (u:Value),us[j]? = some u→vs[j]? = some u) (hl:us.length≤vs.size) (hb:(a.len:Int)≤big) :
  OwnAt (C.add n vs e a.len) n (.arr a) :=
 .inr ⟨_,vs,e,add_own,(add_fresh hI).1,(add_fresh hI).2,heap_add_new,by rw [← hr.1]; exact hl,hb,fun k hk j x hj=>by
  obtain ⟨u,h1,h2⟩:=(rowL_ext (add_ext _ hn) (off_none hI) hr).2 k hk j x hj
  exact ⟨u,hp _ _ h1,h2⟩⟩
theorem swap_inv {i:Nat} {nb:Blk} (hI:Inv C (upd H i .dead)) (hn:C.ρ n = none) {b m:Nat} (hb:∀j k,(upd H i .dead j).live→C.ρ j = some (some b,k)→False)
  (ho:OwnAt ⟨C.w,C.frz,C.vis,upd C.ρ n (some (some b,m))⟩ n nb) (hne:i≠n):Inv ⟨C.w,C.frz,C.vis,upd C.ρ n (some (some b,m))⟩ (upd (upd H i .dead) n nb) where
 own:=fun j=>by
  by_cases hj:j = n
  ·subst hj; rw [upd_self]; exact ho
  ·rw [upd_ne hj]
   refine OwnAt_ext (T:=fun _=>False) (C:=C) (C':=⟨C.w,C.frz,C.vis,upd C.ρ n (some (some b,m))⟩) ⟨rfl,rfl,rfl,Nat.le_refl _,fun _ _ _=>rfl,fun b vs e h=>⟨vs,h,rfl⟩,fun b o h0 h=>h0 o h,fun _ h=>h,fun _ h=>.inl h,rfl,fun k p hp=>?_⟩ (off_none hI) (hI.own j) (fun _ _ _ h=>h)
   by_cases hk:k = n
   ·subst hk; rw [hn] at hp; cases hp
   ·show upd C.ρ n _ k = _
    rw [upd_ne hk]; exact hp
 inj:=fun j k c x y hj hk hrj hrk=>by
  have old:∀j x,j≠n→(upd (upd H i .dead) n nb j).live→upd C.ρ n (some (some b,m)) j = some (some c,x)→(upd H i .dead j).live∧C.ρ j = some (some c,x):=by
   intro j x hne hl hr
   rw [upd_ne hne] at hl hr
   exact ⟨hl,hr⟩
  have new:∀x,upd C.ρ n (some (some b,m)) n = some (some c,x)→c = b:=by
   intro x hr
   rw [upd_self] at hr
   cases hr
   rfl
  by_cases h1:j = n
  ·by_cases h2:k = n
   ·rw [h1,h2]
   ·subst h1
    obtain ⟨a1,a2⟩:=old k y h2 hk hrk
    rw [new _ hrj] at a2
    exact (hb k y a1 a2).elim
  ·by_cases h2:k = n
   ·subst h2
    obtain ⟨a1,a2⟩:=old j x h1 hj hrj
    rw [new _ hrk] at a2
    exact (hb j x a1 a2).elim
   ·obtain ⟨a1,a2⟩:=old j x h1 hj hrj
    obtain ⟨b1,b2⟩:=old k y h2 hk hrk
    exact hI.inj j k c x y a1 b1 a2 b2
 frz:=hI.frz
 vis:=hI.vis
theorem dead_inv (hI:Inv C H) (i:Nat):Inv C (upd H i .dead) where
 own:=fun j=>by
  by_cases hj:j = i
  ·subst hj; rw [upd_self]; trivial
  ·rw [upd_ne hj]; exact hI.own j
 inj:=fun j k b x y hj hk=>by
  have key:∀j,(upd H i .dead j).live→(H j).live:=by
   intro j h
   by_cases hj:j = i
   ·subst hj; rw [upd_self] at h; exact h.elim
   ·rw [upd_ne hj] at h; exact h
  exact hI.inj j k b x y (key j hj) (key k hk)
 frz:=hI.frz
 vis:=hI.vis
end
end Hw
end Go.Proofs.YtklmllaggigkfaaGreat
