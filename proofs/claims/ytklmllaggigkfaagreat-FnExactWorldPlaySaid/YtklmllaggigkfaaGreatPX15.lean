/- What an operation says hangs on its operands and on the blocks that it reads alone. -/
import Derived.Test.YtklmllaggigkfaaGreatPX14
set_option linter.unusedVariables false
set_option linter.unusedSimpArgs false
namespace Go.Proofs.YtklmllaggigkfaaGreat
namespace Hw
open Go
section
variable {E:Env} {H H':Hp} {n:Nat}
theorem aLoad_loc {ti:TI} {p:Cell} {r:OpR} (h:aLoad ti H n p = some r) (hH:∀j∈r.rd,H' j = H j):aLoad ti H' n p = some r:=by
 unfold aLoad at h ⊢
 split at h
 ·rename_i i o
  cases hHi:H i with
  | dead=>rw [hHi] at h; cases h
  | mp l=>rw [hHi] at h; cases h
  | arr a=>rw [hHi] at h; cases h
  | raw m cs =>
   rw [hHi] at h
   simp only at h
   cases hb:Nat.ble (Nat.add o ti.size) cs.length with
   | false=>rw [hb] at h; cases h
   | true =>
    have h':=h
    rw [hb] at h'
    simp only [cond_true] at h'
    cases hv:fvOfCells ti.agg ((cs.drop o).take ti.size) with
    | none=>rw [hv] at h'; cases h'
    | some v =>
     rw [hv] at h'
     simp only [Option.map_some,Option.some.injEq] at h'
     subst h'
     simp only [hH i (by simp),hHi]
     exact h
 ·rename_i i sz k o
  cases hHi:H i with
  | dead=>rw [hHi] at h; cases h
  | mp l=>rw [hHi] at h; cases h
  | raw m cs=>rw [hHi] at h; cases h
  | arr a =>
   rw [hHi] at h
   simp only at h
   cases hb:(Nat.beq sz a.esz && Nat.ble (Nat.add o ti.size) a.esz) with
   | false=>rw [hb] at h; cases h
   | true =>
    have h':=h
    rw [hb] at h'
    simp only [cond_true] at h'
    cases hv:fvOfCells ti.agg ((((a.get k).cells true).drop o).take ti.size) with
    | none=>rw [hv] at h'; cases h'
    | some v =>
     rw [hv] at h'
     simp only [Option.map_some,Option.some.injEq] at h'
     subst h'
     simp only [hH i (by simp),hHi]
     exact h
 ·exact h
 ·exact h
 ·cases h
theorem frozen_loc {xs:List Cell} (hH:∀j∈frozenIds xs,H' j = H j):xs.all (Cell.lasts H') = xs.all (Cell.lasts H)∧xs.map (Cell.last H') = xs.map (Cell.last H):=by
 have key:∀x∈xs,x.lasts H' = x.lasts H∧x.last H' = x.last H:=by
  intro x hx
  cases x with
  | own i sz e =>
   have:i∈frozenIds xs:=List.mem_flatMap.2 ⟨_,hx,by simp⟩
   simp only [Cell.lasts,Cell.last,hH i this,and_self]
  | _=>exact ⟨rfl,rfl⟩
 constructor
 ·clear hH
  induction xs with
  | nil=>rfl
  | cons x xs ih=>rw [List.all_cons,List.all_cons,(key x List.mem_cons_self).1,ih fun y hy=>key y (List.mem_cons_of_mem _ hy)]
 ·exact List.map_congr_left fun x hx=>(key x hx).2
theorem aMark_loc {xs:List Cell} {r:OpR} (h:aMark H n xs = some r) (hH:∀j∈r.rd,H' j = H j):aMark H' n xs = some r:=by
 have hrd:r.rd = frozenIds xs:=by
  unfold aMark at h
  cases hb:(Nat.beq xs.length 8 && xs.all (Cell.lasts H) && nodupN (frozenIds xs)) with
  | false=>rw [hb] at h; cases h
  | true =>
   rw [hb] at h
   simp only [cond_true] at h
   split at h
   ·cases hs:stOf ((xs.take 7).map (Cell.last H)) with
    | none=>rw [hs] at h; cases h
    | some s=>rw [hs] at h; simp only [Option.map_some,Option.some.injEq] at h; subst h; rfl
   ·cases h
 rw [hrd] at hH
 obtain ⟨f1,f2⟩:=frozen_loc hH
 unfold aMark at h ⊢
 rw [f1,List.map_take,f2,← List.map_take]
 exact h
theorem aStore_loc {ti:TI} {p:Cell} {xs:List Cell} {r:OpR} (h:aStore ti H n p xs = some r) (hH:∀j∈r.rd,H' j = H j):aStore ti H' n p xs = some r:=by
 unfold aStore at h ⊢
 cases hl:Nat.beq xs.length ti.size with
 | false=>rw [hl] at h; cases h
 | true =>
 rw [hl] at h
 simp only [cond_true] at h ⊢
 split at h
 ·rename_i i o
  cases hHi:H i with
  | dead=>rw [hHi] at h; cases h
  | mp l=>rw [hHi] at h; cases h
  | arr a=>rw [hHi] at h; cases h
  | raw m cs =>
   rw [hHi] at h
   simp only at h
   have h':=h
   cases hb:Nat.ble (Nat.add o xs.length) cs.length with
   | false=>rw [hb] at h'; cases h'
   | true =>
    rw [hb] at h'
    simp only [cond_true,Option.some.injEq] at h'
    subst h'
    simp only [hH i (by simp),hHi]
    exact h
 ·rename_i i sz k o
  cases hHi:H i with
  | dead=>rw [hHi] at h; cases h
  | mp l=>rw [hHi] at h; cases h
  | raw m cs=>rw [hHi] at h; cases h
  | arr a =>
   rw [hHi] at h
   simp only at h
   have h':=h
   cases hb:(Nat.beq sz a.esz && Nat.ble (Nat.add o xs.length) a.esz && xs.all (Cell.lasts H) && nodupN (i :: frozenIds xs)) with
   | false=>rw [hb] at h'; cases h'
   | true =>
    rw [hb] at h'
    simp only [cond_true] at h'
    cases he:El.ofCells a.ek (splice ((a.get k).cells true) o (xs.map (Cell.last H))) with
    | none=>rw [he] at h'; cases h'
    | some e =>
     rw [he] at h'
     simp only [Option.bind_some] at h'
     cases hs:a.set k e with
     | none=>rw [hs] at h'; cases h'
     | some b =>
      rw [hs] at h'
      simp only [Option.bind_some,Option.some.injEq] at h'
      subst h'
      obtain ⟨f1,f2⟩:=frozen_loc (H:=H) (H':=H') (xs:=xs) (fun j hj=>hH j (List.mem_cons_of_mem _ hj))
      simp only [hH i List.mem_cons_self,hHi,f1,f2]
      exact h
 ·cases h
theorem aLen_loc {x:Cell} {r:OpR} (h:aLen H n x = some r) (hH:∀j∈r.rd,H' j = H j):aLen H' n x = some r:=by
 unfold aLen at h ⊢
 split at h
 ·exact h
 ·rename_i i _ _
  cases hHi:H i with
  | dead=>rw [hHi] at h; cases h
  | mp l=>rw [hHi] at h; cases h
  | raw m cs =>
   rw [hHi] at h
   simp only [Option.some.injEq] at h
   subst h
   simp only [hH i (by simp),hHi]
  | arr a =>
   rw [hHi] at h
   simp only [Option.some.injEq] at h
   subst h
   simp only [hH i (by simp),hHi]
 ·exact h
 ·rename_i i _ _ k
  cases hHi:H i with
  | dead=>rw [hHi] at h; cases h
  | mp l=>rw [hHi] at h; cases h
  | arr a=>rw [hHi] at h; cases h
  | raw m cs =>
   rw [hHi] at h
   simp only [Option.some.injEq] at h
   subst h
   simp only [hH i (by simp),hHi]
 ·cases h
theorem aIndexAddr_loc {ch:Option Nat} {s:Nat} {x:Cell} {i:Int} {r:OpR} (h:aIndexAddr ch s H n x i = some r) (hH:∀j∈r.rd,H' j = H j):aIndexAddr ch s H' n x i = some r:=by
 unfold aIndexAddr at h ⊢
 split at h
 ·exact h
 ·rename_i j sz _
  cases hb:Nat.beq s sz with
  | false=>rw [hb] at h; cases h
  | true =>
  rw [hb] at h
  simp only [Bool.not_true,cond_false] at h ⊢
  cases hHi:H j with
  | dead=>rw [hHi] at h; cases h
  | mp l=>rw [hHi] at h; cases h
  | raw m cs =>
   rw [hHi] at h
   simp only at h
   cases ch with
   | none =>
    simp only [Option.some.injEq] at h
    subst h
    rw [hH j (by simp),hHi]
   | some k =>
    simp only at h
    have h':=h
    cases hk:Nat.blt k m with
    | false=>rw [hk] at h'; cases h'
    | true =>
     rw [hk] at h'
     simp only [cond_true,Option.some.injEq] at h'
     subst h'
     rw [hH j (by simp),hHi]
     exact h
  | arr a =>
   rw [hHi] at h
   simp only [Option.some.injEq] at h
   subst h
   simp only [hH j (by simp),hHi]
 ·rename_i j sz _ q
  cases hb:Nat.beq s sz with
  | false=>rw [hb] at h; cases h
  | true =>
  rw [hb] at h
  simp only [Bool.not_true,cond_false] at h ⊢
  cases hHi:H j with
  | dead=>rw [hHi] at h; cases h
  | mp l=>rw [hHi] at h; cases h
  | arr a=>rw [hHi] at h; cases h
  | raw m cs =>
   rw [hHi] at h
   simp only at h
   cases ch with
   | none=>cases h
   | some k =>
    simp only at h
    have h':=h
    cases hk:Nat.blt k m with
    | false=>rw [hk] at h'; cases h'
    | true =>
     rw [hk] at h'
     simp only [cond_true,Option.some.injEq] at h'
     subst h'
     rw [hH j (by simp),hHi]
     exact h
 ·cases h
theorem asSrc_loc {k:EK} {x:Cell} {y:Arr×List Nat} (h:asSrc k H x = some y) (hH:∀j∈y.2,H' j = H j):asSrc k H' x = some y:=by
 unfold asSrc at h ⊢
 split at h
 ·exact h
 ·exact h
 ·rename_i j sz _
  cases hHi:H j with
  | dead=>rw [hHi] at h; cases h
  | mp l=>rw [hHi] at h; cases h
  | raw m cs=>rw [hHi] at h; cases h
  | arr a =>
   rw [hHi] at h
   simp only at h
   cases hb:Nat.beq sz a.esz with
   | false=>rw [hb] at h; cases h
   | true =>
    rw [hb] at h
    simp only [cond_true,Option.some.injEq] at h
    subst h
    simp only [hH j (by simp),hHi,hb,cond_true]
 ·cases h
theorem aAppend_loc {k:EK} {e:Nat} {s x:Cell} {r:OpR} (h:aAppend k e H n s x = some r) (hH:∀j∈r.rd,H' j = H j):aAppend k e H' n s x = some r:=by
 unfold aAppend at h ⊢
 cases hs:asSrc k H x with
 | none=>rw [hs] at h; cases h
 | some y =>
  rw [hs] at h
  simp only [Option.bind_some] at h
  split at h
  ·cases hc:(Arr.nil k).app y.1 with
   | none=>rw [hc] at h; cases h
   | some c =>
    rw [hc] at h
    simp only [Option.map_some,Option.some.injEq] at h
    subst h
    rw [asSrc_loc hs hH]
    simp only [Option.bind_some,hc,Option.map_some]
  ·rename_i i sz' e'
   cases hHi:H i with
   | dead=>rw [hHi] at h; cases h
   | mp l=>rw [hHi] at h; cases h
   | raw m cs=>rw [hHi] at h; cases h
   | arr a =>
    rw [hHi] at h
    simp only at h
    cases hb:(memN i y.2 || !Nat.beq sz' a.esz || !Nat.beq sz' k.size || !Nat.beq e e' || !Nat.beq a.ek.code k.code) with
    | true=>rw [hb] at h; cases h
    | false =>
     rw [hb] at h
     simp only [cond_false] at h
     cases hc:a.app y.1 with
     | none=>rw [hc] at h; cases h
     | some c =>
      rw [hc] at h
      simp only [Option.map_some,Option.some.injEq] at h
      subst h
      rw [asSrc_loc hs fun j hj=>hH j (List.mem_cons_of_mem _ hj)]
      simp only [Option.bind_some,hH i List.mem_cons_self,hHi,hb,cond_false,hc,Option.map_some]
  ·cases h
theorem aCopy_loc {k:EK} {e:Nat} {s x:Cell} {r:OpR} (h:aCopy k e H n s x = some r) (hH:∀j∈r.rd,H' j = H j):aCopy k e H' n s x = some r:=by
 unfold aCopy at h ⊢
 cases hs:asSrc k H x with
 | none=>rw [hs] at h; cases h
 | some y =>
  rw [hs] at h
  simp only [Option.bind_some] at h
  split at h
  ·rename_i i sz' e'
   cases hHi:H i with
   | dead=>rw [hHi] at h; cases h
   | mp l=>rw [hHi] at h; cases h
   | raw m cs=>rw [hHi] at h; cases h
   | arr a =>
    rw [hHi] at h
    simp only at h
    cases hb:(memN i y.2 || !Nat.beq sz' a.esz || !Nat.beq sz' k.size || !Nat.beq e e' || !Nat.beq y.1.ek.code k.code) with
    | true=>rw [hb] at h; cases h
    | false =>
     rw [hb] at h
     simp only [cond_false,Option.some.injEq] at h
     subst h
     rw [asSrc_loc hs fun j hj=>hH j (List.mem_cons_of_mem _ hj)]
     simp only [Option.bind_some,hH i List.mem_cons_self,hHi,hb,cond_false]
  ·cases h
theorem aBuildSlice_loc {k:EK} {e:Nat} {raw:Bool} {len:Nat} {js:List Nat} {xs:List FV} {r:OpR} (h:aBuildSlice k e raw len H n js xs = some r) (hH:∀j∈r.rd,H' j = H j):aBuildSlice k e raw len H' n js xs = some r:=by
 unfold aBuildSlice at h ⊢
 cases hb:(Nat.beq xs.length len && Nat.beq js.length len && inOrder js 0 && Nat.ble len 1000 && xs.all (fun x=>Nat.beq x.cells.length k.size)) with
 | false=>rw [hb] at h; cases h
 | true =>
  rw [hb] at h
  simp only [cond_true] at h ⊢
  cases raw with
  | true=>exact h
  | false =>
   simp only [cond_false] at h ⊢
   have h':=h
   cases hc:((xs.flatMap FV.cells).all (Cell.lasts H) && nodupN (frozenIds (xs.flatMap FV.cells))) with
   | false=>rw [hc] at h'; cases h'
   | true =>
    rw [hc] at h'
    simp only [cond_true] at h'
    cases hes:elsOf k (xs.map fun x=>x.cells.map (Cell.last H)) with
    | none=>rw [hes] at h'; cases h'
    | some es =>
     rw [hes] at h'
     simp only [Option.bind_some] at h'
     cases ha:Arr.ofEls k es with
     | none=>rw [ha] at h'; cases h'
     | some a =>
      rw [ha] at h'
      simp only [Option.map_some,Option.some.injEq] at h'
      subst h'
      obtain ⟨f1,f2⟩:=frozen_loc (H:=H) (H':=H') (xs:=xs.flatMap FV.cells) hH
      have f3:(xs.map fun x=>x.cells.map (Cell.last H')) = xs.map fun x=>x.cells.map (Cell.last H):=by
       refine List.map_congr_left fun x hx=>(frozen_loc (H:=H) (H':=H') (xs:=x.cells) fun j hj=>hH j ?_).2
       obtain ⟨y,hy,hj⟩:=List.mem_flatMap.1 hj
       exact List.mem_flatMap.2 ⟨y,List.mem_flatMap.2 ⟨x,hx,hy⟩,hj⟩
      simp only [f1,f3]
      exact h
theorem gather_sub (H:Hp):∀(f:Nat) (l acc:List Nat),∀i∈acc,i∈gather H f l acc
 | 0,l,acc,i,h=>h
 | f + 1,[],acc,i,h=>h
 | f + 1,j :: r,acc,i,h=>by
  unfold gather
  cases memN j acc with
  | true=>exact gather_sub H f r acc i h
  | false=>exact gather_sub H f _ _ i (List.mem_append_left _ h)
theorem gather_loc:∀(f:Nat) (l acc:List Nat),(∀j∈gather H f l acc,H' j = H j)→gather H' f l acc = gather H f l acc
 | 0,l,acc,_=>rfl
 | f + 1,[],acc,_=>rfl
 | f + 1,j :: r,acc,h=>by
  unfold gather at h ⊢
  cases hm:memN j acc with
  | true=>rw [hm] at h; exact gather_loc f r acc h
  | false =>
   rw [hm] at h
   simp only [cond_false] at h ⊢
   have hj:H' j = H j:=h j (gather_sub H f _ _ j (List.mem_append_right _ (List.mem_singleton.2 rfl)))
   rw [hj]
   exact gather_loc f _ _ h
theorem mixA_loc {f:Nat→Nat}:∀{vw:List Bool} {args:List FV},(∀x∈viewedOf vw args,x.view H' = x.view H)→mixA H' f vw args = mixA H f vw args
 | [],[],h=>rfl
 | [],y :: r,h=>by
  simp only [mixA]
  rw [mixA_loc (vw:=[]) (args:=r) fun x hx=>by cases r <;> simp [viewedOf] at hx]
 | true :: vw,[],h=>rfl
 | false :: vw,[],h=>rfl
 | true :: vw,y :: r,h=>by
  simp only [mixA,viewedOf] at h ⊢
  rw [h y List.mem_cons_self,mixA_loc fun x hx=>h x (List.mem_cons_of_mem _ hx)]
 | false :: vw,y :: r,h=>by
  simp only [mixA,viewedOf] at h ⊢
  rw [mixA_loc h]
theorem idsOk_loc {ids:List Nat} {xs:List FV} (hH:∀j∈ids,H' j = H j):idsOk H' n ids xs = idsOk H n ids xs:=by
 unfold idsOk
 congr 1
 have:∀(l:List Nat),(∀j∈l,H' j = H j)→(l.all fun j=>allIn (H' j).ids ids) = l.all fun j=>allIn (H j).ids ids:=by
  intro l
  induction l with
  | nil=>intro _; rfl
  | cons x l ih=>intro hl; rw [List.all_cons,List.all_cons,hl x List.mem_cons_self,ih fun y hy=>hl y (List.mem_cons_of_mem _ hy)]
 exact this _ hH
theorem aCall_loc {c:Ctr} {args:List FV} {r:OpR} (h:aCall c H n args = some r) (hH:∀j∈r.rd,H' j = H j):aCall c H' n args = some r:=by
 unfold aCall at h ⊢
 have h':=h
 simp only at h'
 cases hid:(idsOk H n (gather H 64 ((handedOf c.vw args).flatMap FV.ids) []) (handedOf c.vw args) && idsOk H n (gather H 64 ((viewedOf c.vw args).flatMap FV.ids) []) (viewedOf c.vw args) && ((viewedOf c.vw args).all fun x=>(x.view H).ids.isEmpty) && (gather H 64 ((viewedOf c.vw args).flatMap FV.ids) []).all (fun i=>!memN i (gather H 64 ((handedOf c.vw args).flatMap FV.ids) []))) with
 | false=>rw [hid] at h'; cases h'
 | true =>
  rw [hid] at h'
  simp only [cond_true] at h'
  have hv:=hid
  simp only [Bool.and_eq_true] at hv
  obtain ⟨j1,j2,j3,j4⟩:=idsOk_of hv.1.1.2
  cases hF:c.F (handed H (gather H 64 ((handedOf c.vw args).flatMap FV.ids) [])) (mixA H (fun i=>idx i (gather H 64 ((handedOf c.vw args).flatMap FV.ids) [])) c.vw args) with
  | none=>rw [hF] at h'; cases h'
  | some y =>
   obtain ⟨p,q,bs⟩:=y
   rw [hF] at h'
   simp only at h'
   cases hb:(stillDead (handed H (gather H 64 ((handedOf c.vw args).flatMap FV.ids) [])) bs && ((viewedOf c.vw args).isEmpty || (q.safe && bs.all Blk.safe))) with
   | false=>rw [hb] at h'; cases h'
   | true =>
    rw [hb] at h'
    simp only [cond_true,Option.some.injEq] at h'
    subst h'
    have hH1:∀j∈gather H 64 ((handedOf c.vw args).flatMap FV.ids) [],H' j = H j:=fun j hj=>hH j (List.mem_append_right _ hj)
    have hH2:∀j∈gather H 64 ((viewedOf c.vw args).flatMap FV.ids) [],H' j = H j:=fun j hj=>hH j (List.mem_append_left _ hj)
    have hg1:=gather_loc _ _ _ hH1
    have hg2:=gather_loc _ _ _ hH2
    have hh:handed H' (gather H 64 ((handedOf c.vw args).flatMap FV.ids) []) = handed H (gather H 64 ((handedOf c.vw args).flatMap FV.ids) []):=List.map_congr_left fun j hj=>by simp only [hH1 j hj]
    have hvw:∀x∈viewedOf c.vw args,x.view H' = x.view H:=fun x hx=>view_loc hH2 (j3 x hx) j4
    have e3:((viewedOf c.vw args).all fun x=>(x.view H').ids.isEmpty) = (viewedOf c.vw args).all fun x=>(x.view H).ids.isEmpty:=by
     clear h hb hF hH hid hv j1 j2 j3 j4 hH1 hH2 hg1 hg2 hh
     generalize viewedOf c.vw args = l at hvw
     induction l with
     | nil=>rfl
     | cons x xs ih=>rw [List.all_cons,List.all_cons,hvw x List.mem_cons_self,ih fun y hy=>hvw y (List.mem_cons_of_mem _ hy)]
    simp only [hg1,hg2,hh,idsOk_loc hH1,idsOk_loc hH2,e3,mixA_loc hvw]
    exact h
theorem aFro_loc {x:Cell} {lo:Int} {esz:Nat} {r:OpR} (h:aFro H n x lo esz = some r) (hH:∀j∈r.rd,H' j = H j):aFro H' n x lo esz = some r:=by
 unfold aFro at h ⊢
 have h':=h
 cases hb:froOk H n (gather H 64 x.ids []) [.c x] with
 | false=>rw [hb] at h'; cases h'
 | true =>
  rw [hb] at h'
  simp only [cond_true] at h'
  have hb':=hb
  unfold froOk at hb'
  simp only [Bool.and_eq_true] at hb'
  obtain ⟨i1,i2,i3,i4⟩:=idsOk_of hb'.1.1.1.1
  have key:(∀j∈gather H 64 x.ids [],H' j = H j)→aFro H' n x lo esz = some r:=by
   intro hH
   have e1:=gather_loc _ _ _ hH
   have e2:(FV.c x).view H' = (FV.c x).view H:=view_loc hH (i3 (.c x) (List.mem_singleton.2 rfl)) i4
   have e3:x.view H' = x.view H:=by
    simp only [FV.view,FV.c.injEq] at e2
    exact e2
   have all1:∀(f:Blk→Bool) (l:List Nat),(∀j∈l,H' j = H j)→(l.all fun j=>f (H' j)) = l.all fun j=>f (H j):=by
    intro f l
    induction l with
    | nil=>intro _; rfl
    | cons x l ih=>intro hl; rw [List.all_cons,List.all_cons,hl x List.mem_cons_self,ih fun y hy=>hl y (List.mem_cons_of_mem _ hy)]
   have e4:froOk H' n (gather H 64 x.ids []) [.c x] = froOk H n (gather H 64 x.ids []) [.c x]:=by
    unfold froOk allLive
    rw [idsOk_loc hH,all1 (fun b=>!b.isDead) _ hH,all1 (fun b=>b.safe) _ hH]
    simp only [List.all_cons,List.all_nil,e2]
   unfold aFro
   rw [e1,e4,e3]
   exact h
  have:=key
  unfold aFro at this
  refine this ?_
  split at h'
  ·rename_i z b hv
   cases hq:Nat.beq b.esz esz with
   | true =>
    rw [hq] at h'
    simp only [cond_true,Option.some.injEq] at h'
    subst h'
    exact hH
   | false=>rw [hq] at h'; cases h'
  ·cases h'
theorem aFro_mem {x:Cell} {lo:Int} {esz:Nat} {r:OpR} (h:aFro H n x lo esz = some r):∀i∈x.ids,i∈r.rd:=by
 unfold aFro at h
 cases hf:froOk H n (gather H 64 x.ids []) [.c x] with
 | false=>rw [hf] at h; cases h
 | true =>
  rw [hf] at h
  simp only [cond_true] at h
  unfold froOk at hf
  simp only [Bool.and_eq_true] at hf
  obtain ⟨_,_,i3,_⟩:=idsOk_of hf.1.1.1.1
  split at h
  ·rename_i z b hv
   cases hq:Nat.beq b.esz esz with
   | true =>
    rw [hq] at h
    simp only [cond_true,Option.some.injEq] at h
    subst h
    exact fun i hi=>i3 (.c x) (List.mem_singleton.2 rfl) i hi
   | false=>rw [hq] at h; cases h
  ·cases h
theorem evOp_loc {o:Oper} {π:List (Nat×Bool)} {fr fr':Fr} {r:OpR} (hf:∀t,Operand.tmp t∈o.op.operands.toList→fr' t = fr t) (hH:∀j∈r.rd,H' j = H j) (h:evOp E o π fr H n = some r):evOp E o π fr' H' n = some r:=by
 have ho:∀x∈o.op.operands.toList,∀π,opnd fr' π x = opnd fr π x:=by
  intro x hx π
  cases x with
  | tmp t=>simp only [opnd,hf t hx]
  | _=>rfl
 have hm:∀xs:List Operand,(∀x∈xs,x∈o.op.operands.toList)→xs.map (opnd fr' π) = xs.map (opnd fr π):=fun xs hx=>List.map_congr_left fun x hx'=>ho x (hx x hx') π
 unfold evOp at h ⊢
 split at h
 ·rename_i x hop
  rw [ho x (by simp [hop,Op.operands])]
  exact h
 ·rename_i x hop
  rw [ho x (by simp [hop,Op.operands])]
  exact h
 ·rename_i d x y hop
  rw [ho (.tmp d) (by simp [hop,Op.operands])]
  split at h
  ·rename_i g hg
   rw [ho x (by simp [hop,Op.operands]),ho y (by simp [hop,Op.operands])]
   exact h
  ·cases h
 ·rename_i t hop
  exact h
 ·rename_i t x hop
  rw [ho x (by simp [hop,Op.operands])]
  cases hx:asFV (opnd fr π x) with
  | none=>rw [hx] at h; cases h
  | some v =>
   rw [hx] at h
   simp only [Option.bind_some] at h ⊢
   cases hm:Nat.beq t E.markT with
   | true =>
    rw [hm] at h
    simp only [cond_true] at h ⊢
    exact aMark_loc h hH
   | false =>
    rw [hm] at h
    exact h
 ·rename_i t x hop
  rw [ho x (by simp [hop,Op.operands])]
  cases ht:E.T.get t with
  | none=>rw [ht] at h; cases h
  | some ti =>
   rw [ht] at h
   cases hx:asC (opnd fr π x) with
   | none=>rw [hx] at h; cases h
   | some p =>
    rw [hx] at h
    simp only [Option.bind_some] at h ⊢
    exact aLoad_loc h hH
 ·rename_i t x y hop
  rw [ho x (by simp [hop,Op.operands]),ho y (by simp [hop,Op.operands])]
  cases ht:E.T.get t with
  | none=>rw [ht] at h; cases h
  | some ti =>
   rw [ht] at h
   cases hx:asC (opnd fr π x) with
   | none=>rw [hx] at h; cases h
   | some p =>
    rw [hx] at h
    cases hy:asFV (opnd fr π y) with
    | none=>rw [hy] at h; cases h
    | some v =>
     rw [hy] at h
     simp only [Option.bind_some] at h ⊢
     exact aStore_loc h hH
 ·rename_i x hop
  rw [ho x (by simp [hop,Op.operands])]
  exact h
 ·rename_i op t x y ty hop
  rw [ho x (by simp [hop,Op.operands]),ho y (by simp [hop,Op.operands])]
  exact h
 ·rename_i t x hop
  rw [ho x (by simp [hop,Op.operands])]
  exact h
 ·rename_i t x hop
  rw [ho x (by simp [hop,Op.operands])]
  exact h
 ·rename_i t x f hop
  rw [ho x (by simp [hop,Op.operands])]
  exact h
 ·rename_i t x i hop
  rw [ho x (by simp [hop,Op.operands]),ho i (by simp [hop,Op.operands])]
  cases ht:elemOf E.T t with
  | none=>rw [ht] at h; cases h
  | some te =>
   rw [ht] at h
   simp only [Option.bind_some] at h ⊢
   split at h
   ·rename_i y j hx hi
    exact aIndexAddr_loc h hH
   ·cases h
 ·rename_i t parts hop
  have e:(parts.toList.map fun e=>opnd fr' π e.2) = parts.toList.map fun e=>opnd fr π e.2 :=
   List.map_congr_left fun x hx=>ho x.2 (by simp only [hop,Op.operands]; exact List.mem_map.2 ⟨x,hx,rfl⟩) π
  rw [e]
  exact h
 ·rename_i t len parts hop
  have e:(parts.toList.map fun e=>opnd fr' π e.2) = parts.toList.map fun e=>opnd fr π e.2 :=
   List.map_congr_left fun x hx=>ho x.2 (by simp only [hop,Op.operands]; exact List.mem_map.2 ⟨x,hx,rfl⟩) π
  rw [e]
  cases ht:elemOf E.T t with
  | none=>rw [ht] at h; cases h
  | some te =>
   rw [ht] at h
   simp only [Option.bind_some] at h ⊢
   cases hke:te.2.ek with
   | none=>rw [hke] at h; cases h
   | some k =>
    rw [hke] at h
    simp only [Option.bind_some] at h ⊢
    cases hx:fvs (parts.toList.map fun e=>opnd fr π e.2) with
    | none=>rw [hx] at h; cases h
    | some xs =>
     rw [hx] at h
     simp only [Option.bind_some] at h ⊢
     exact aBuildSlice_loc h hH
 ·rename_i t x y hop
  rw [ho x (by simp [hop,Op.operands]),ho y (by simp [hop,Op.operands])]
  exact h
 ·rename_i t x hop
  cases x with
  | none=>exact h
  | some x =>
   have e:=ho x (by simp [hop,Op.operands]) π
   simp only [e] at h ⊢
   exact h
 ·rename_i t m k ok hop
  rw [ho m (by simp [hop,Op.operands]),ho k (by simp [hop,Op.operands])]
  cases hm:(ok || !mapOk E t) with
  | true=>rw [hm] at h; cases h
  | false =>
   rw [hm] at h
   simp only [cond_false] at h ⊢
   split at h
   ·rename_i i j hp hq
    split at h
    ·rename_i l hl
     simp only [Option.some.injEq] at h
     subst h
     rw [hH i (by simp),hl]
    ·cases h
   ·cases h
 ·rename_i t m k x hop
  rw [ho m (by simp [hop,Op.operands]),ho k (by simp [hop,Op.operands]),ho x (by simp [hop,Op.operands])]
  cases hm:mapOk E t with
  | false=>rw [hm] at h; cases h
  | true =>
   rw [hm] at h
   simp only [Bool.not_true,cond_false] at h ⊢
   split at h
   ·rename_i i j y hp hq hy
    split at h
    ·rename_i l hl
     simp only [Option.some.injEq] at h
     subst h
     rw [hH i (by simp),hl]
    ·cases h
   ·cases h
 ·rename_i t x hop
  rw [ho x (by simp [hop,Op.operands])]
  exact h
 ·rename_i x _ t ok hop
  rw [ho x (by simp [hop,Op.operands])]
  exact h
 ·rename_i s t x hop
  rw [ho x (by simp [hop,Op.operands])]
  exact h
 ·rename_i t x lo hi mx hop
  rw [ho x (by simp [hop,Op.operands])]
  cases hmx:mx.isSome with
  | true=>rw [hmx] at h; cases h
  | false =>
  rw [hmx] at h
  simp only [cond_false] at h ⊢
  cases ht:elemOf E.T t with
  | none=>rw [ht] at h; cases h
  | some te =>
  rw [ht] at h
  simp only [Option.bind_some] at h ⊢
  cases lo with
  | none =>
   cases hi with
   | none=>exact h
   | some y =>
    have e:∀π,opnd fr' π y = opnd fr π y:=ho y (by simp [hop,Op.operands])
    simp only [e] at h ⊢
    exact h
  | some l =>
   cases hi with
   | some y=>exact h
   | none =>
    have e:∀π,opnd fr' π l = opnd fr π l:=ho l (by simp [hop,Op.operands])
    simp only [e] at h ⊢
    split at h
    ·rename_i i sz e' j hx hl
     have hi:H' i = H i:=by
      cases hHi:H i with
      | raw m cs =>
       rw [hHi] at h
       simp only at h
       cases hb:(Nat.beq sz te.2.size && Nat.beq e' te.1) with
       | false=>rw [hb] at h; cases h
       | true =>
        rw [hb] at h
        simp only [cond_true,Option.some.injEq] at h
        subst h
        rw [← hHi]
        exact hH i (by simp)
      | _ =>
       rw [hHi] at h
       rw [← hHi]
       exact hH i (aFro_mem h i (by simp [Cell.ids]))
     rw [hi]
     cases hHi:H i with
     | raw m cs=>rw [hHi] at h; exact h
     | _=>rw [hHi] at h; exact aFro_loc h hH
    ·exact aFro_loc h hH
    ·cases h
 ·rename_i x i hop
  rw [ho x (by simp [hop,Op.operands])]
  exact h
 ·rename_i f first cap hop
  split at h
  ·rename_i x hf hc
   have hx:x∈o.op.operands.toList:=by simp [hop,Op.operands,hf]
   rw [ho x hx]
   exact h
  ·cases h
 ·rename_i c1 args ats hop
  split at h
  ·rename_i x t hargs hats
   have hx:x∈o.op.operands.toList:=by simp [hop,Op.operands,Call.operands,hargs]
   rw [ho x hx]
   cases ht:elemOf E.T t with
   | none=>rw [ht] at h; cases h
   | some te =>
    rw [ht] at h
    simp only [Option.bind_some] at h ⊢
    cases hx:asC (opnd fr π x) with
    | none=>rw [hx] at h; cases h
    | some c =>
     rw [hx] at h
     simp only [Option.bind_some] at h ⊢
     exact aLen_loc h hH
  ·cases h
 ·rename_i c1 args ats hop
  split at h
  ·rename_i x y hargs
   have h1:x∈o.op.operands.toList:=by simp [hop,Op.operands,Call.operands,hargs]
   have h2:y∈o.op.operands.toList:=by simp [hop,Op.operands,Call.operands,hargs]
   rw [ho x h1,ho y h2]
   exact h
  ·cases h
 ·rename_i c1 args ats hop
  split at h
  ·rename_i x y hargs
   have h1:x∈o.op.operands.toList:=by simp [hop,Op.operands,Call.operands,hargs]
   have h2:y∈o.op.operands.toList:=by simp [hop,Op.operands,Call.operands,hargs]
   rw [ho x h1,ho y h2]
   exact h
  ·cases h
 ·rename_i c1 args ats hop
  split at h
  ·rename_i s x t u hargs hats
   have h1:s∈o.op.operands.toList:=by simp [hop,Op.operands,Call.operands,hargs]
   have h2:x∈o.op.operands.toList:=by simp [hop,Op.operands,Call.operands,hargs]
   rw [ho s h1,ho x h2]
   cases htu:Nat.beq t u with
   | false=>rw [htu] at h; cases h
   | true =>
    rw [htu] at h
    simp only [cond_true] at h ⊢
    cases ht:elemOf E.T t with
    | none=>rw [ht] at h; cases h
    | some te =>
     rw [ht] at h
     simp only [Option.bind_some] at h ⊢
     cases hke:te.2.ek with
     | none=>rw [hke] at h; cases h
     | some k =>
      rw [hke] at h
      simp only [Option.bind_some] at h ⊢
      cases hs:asC (opnd fr π s) with
      | none=>rw [hs] at h; cases h
      | some cs =>
       rw [hs] at h
       cases hx:asC (opnd fr π x) with
       | none=>rw [hx] at h; cases h
       | some cx =>
        rw [hx] at h
        simp only [Option.bind_some] at h ⊢
        exact aAppend_loc h hH
  ·cases h
 ·rename_i c1 args ats hop
  split at h
  ·rename_i s x t u hargs hats
   have h1:s∈o.op.operands.toList:=by simp [hop,Op.operands,Call.operands,hargs]
   have h2:x∈o.op.operands.toList:=by simp [hop,Op.operands,Call.operands,hargs]
   rw [ho s h1,ho x h2]
   cases htu:Nat.beq t u with
   | false=>rw [htu] at h; cases h
   | true =>
    rw [htu] at h
    simp only [cond_true] at h ⊢
    cases ht:elemOf E.T t with
    | none=>rw [ht] at h; cases h
    | some te =>
     rw [ht] at h
     simp only [Option.bind_some] at h ⊢
     cases hke:te.2.ek with
     | none=>rw [hke] at h; cases h
     | some k =>
      rw [hke] at h
      simp only [Option.bind_some] at h ⊢
      cases hs:asC (opnd fr π s) with
      | none=>rw [hs] at h; cases h
      | some cs =>
       rw [hs] at h
       cases hx:asC (opnd fr π x) with
       | none=>rw [hx] at h; cases h
       | some cx =>
        rw [hx] at h
        simp only [Option.bind_some] at h ⊢
        exact aCopy_loc h hH
  ·cases h
 ·rename_i c1 f args ats hop
  rw [hm args.toList (fun x hx=>by simp only [hop,Op.operands,Call.operands]; simp; exact .inr (by simpa using hx))]
  cases hc:ctrAt E.G f ((E.at o.dst).getD 0) with
  | none=>rw [hc] at h; cases h
  | some c =>
   rw [hc] at h
   simp only [Option.bind_some] at h ⊢
   cases hx:fvs (args.toList.map (opnd fr π)) with
   | none=>rw [hx] at h; cases h
   | some xs =>
    rw [hx] at h
    simp only [Option.bind_some] at h ⊢
    exact aCall_loc h hH
 ·rename_i c1 d args ats hop
  have hd:opnd fr' π (.tmp d) = opnd fr π (.tmp d):=ho _ (by simp only [hop,Op.operands,Call.operands]; simp) π
  rw [hm args.toList (fun x hx=>by simp only [hop,Op.operands,Call.operands]; simp; exact .inr (by simpa using hx)),hd]
  cases hy:asC (opnd fr π (.tmp d)) with
  | none=>rw [hy] at h; cases h
  | some y =>
   rw [hy] at h
   cases y <;> try cases h
   case clo f i =>
    dsimp only at h ⊢
    cases hc:ctrAt E.G f 0 with
    | none=>rw [hc] at h; cases h
    | some c =>
     rw [hc] at h
     simp only [Option.bind_some] at h ⊢
     cases hx:fvs (args.toList.map (opnd fr π)) with
     | none=>rw [hx] at h; cases h
     | some xs =>
      rw [hx] at h
      simp only [Option.bind_some] at h ⊢
      exact aCall_loc h hH
   rename_i f
   dsimp only at h ⊢
   cases hc:E.G[(E.at o.dst).getD 0]? with
   | none=>simp only [hc] at h; cases h
   | some c =>
    simp only [hc] at h
    simp only [Option.bind_some] at h ⊢
    cases hx:fvs (args.toList.map (opnd fr π)) with
    | none=>rw [hx] at h; cases h
    | some xs =>
     rw [hx] at h
     simp only [Option.bind_some,Option.map_eq_some_iff] at h ⊢
     obtain ⟨r',hr',rfl⟩:=h
     exact ⟨r',aCall_loc hr' hH,rfl⟩
 ·rename_i c1 d m args ats hop
  have hd:opnd fr' π (.tmp d) = opnd fr π (.tmp d):=ho _ (by simp only [hop,Op.operands,Call.operands]; simp) π
  rw [hm args.toList (fun x hx=>by simp only [hop,Op.operands,Call.operands]; simp; exact .inr (by simpa using hx)),hd]
  cases hy:asC (opnd fr π (.tmp d)) with
  | none=>rw [hy] at h; cases h
  | some y =>
   rw [hy] at h
   cases y <;> try cases h
   dsimp only at h ⊢
   cases hc:E.G[(E.at o.dst).getD 0]? with
   | none=>simp only [hc] at h; cases h
   | some c =>
    simp only [hc] at h
    simp only [Option.bind_some] at h ⊢
    cases hm:E.mth.find? fun e=>Nat.beq e.2.2 c.fid && decide (e.2.1 = m) with
    | none=>simp only [hm] at h; cases h
    | some e =>
     simp only [hm] at h
     simp only [Option.bind_some] at h ⊢
     cases hx:fvs (args.toList.map (opnd fr π)) with
     | none=>rw [hx] at h; cases h
     | some xs =>
      rw [hx] at h
      simp only [Option.bind_some,Option.map_eq_some_iff] at h ⊢
      obtain ⟨r',hr',rfl⟩:=h
      exact ⟨r',aCall_loc hr' hH,rfl⟩
 ·cases h
end
end Hw
end Go.Proofs.YtklmllaggigkfaaGreat
set_option linter.unusedVariables false
set_option linter.unusedSimpArgs false
namespace Go.Proofs.YtklmllaggigkfaaGreat
namespace Hw
open Go
def runF:List Item→(Nat→Bool)→Nat→Fr→Fr
 | [],_,_,fr=>fr
 | x :: r,S,k,fr=>runF r S (k + 1) (if S k = true then fr.put x.o.dst ⟨x.π,x.r.v⟩ else fr)
def runH:List Item→(Nat→Bool)→Nat→Hp→Hp
 | [],_,_,H=>H
 | x :: r,S,k,H=>runH r S (k + 1) (if S k = true then wr H x.r.ws else H)
theorem put_ne {fr:Fr} {d:Option Nat} {s:Slot} {t:Nat} (h:d≠some t):fr.put d s t = fr t:=by
 cases d with
 | none=>rfl
 | some d=>exact upd_ne fun e=>h (by rw [e])
theorem put_eq {fr:Fr} {s:Slot} {t:Nat}:fr.put (some t) s t = s:=upd_self _ _ _
theorem wr_on:∀(ws:List (Nat×Blk)) (H G:Hp) (j:Nat),j∈ws.map (·.1)∨H j = G j→wr H ws j = wr G ws j
 | [],H,G,j,h=>by
  rcases h with h | h
  ·cases h
  ·exact h
 | (i,b) :: r,H,G,j,h=>by
  refine wr_on r (upd H i b) (upd G i b) j ?_
  by_cases hj:j = i
  ·subst hj; exact .inr (by rw [upd_self,upd_self])
  ·rcases h with h | h
   ·simp only [List.map_cons,List.mem_cons] at h
    rcases h with h | h
    ·exact absurd h hj
    ·exact .inl h
   ·exact .inr (by rw [upd_ne hj,upd_ne hj]; exact h)
theorem runF_cong {S S':Nat→Bool} {t:Nat}:∀(its:List Item) (k:Nat) (fr fr':Fr),(∀q x,its[q]? = some x→S (k + q)≠S' (k + q)→x.o.dst≠some t)→fr t = fr' t→runF its S k fr t = runF its S' k fr' t
 | [],_,_,_,_,h=>h
 | x :: r,k,fr,fr',hd,h=>by
  refine runF_cong r (k + 1) _ _ (fun q y hy hn=>hd (q + 1) y (by simpa using hy) (by rw [show k + (q + 1) = k + 1 + q by omega]; exact hn)) ?_
  have h0:=hd 0 x rfl
  rw [Nat.add_zero] at h0
  cases hs:S k <;> cases hs':S' k
  ·simpa using h
  ·have:=h0 (by rw [hs,hs']; simp)
   simp only [Bool.false_eq_true,if_false,if_true]; rw [put_ne this]; exact h
  ·have:=h0 (by rw [hs,hs']; simp)
   simp only [Bool.false_eq_true,if_false,if_true]; rw [put_ne this]; exact h
  ·simp only [if_true]
   by_cases hd:x.o.dst = some t
   ·rw [hd,put_eq,put_eq]
   ·rw [put_ne hd,put_ne hd]; exact h
theorem runH_cong {S S':Nat→Bool} {j:Nat}:∀(its:List Item) (k:Nat) (H H':Hp),(∀q x,its[q]? = some x→S (k + q)≠S' (k + q)→j ∉ x.ids)→H j = H' j→runH its S k H j = runH its S' k H' j
 | [],_,_,_,_,h=>h
 | x :: r,k,fr,fr',hd,h=>by
  refine runH_cong r (k + 1) _ _ (fun q y hy hn=>hd (q + 1) y (by simpa using hy) (by rw [show k + (q + 1) = k + 1 + q by omega]; exact hn)) ?_
  have h0:=hd 0 x rfl
  rw [Nat.add_zero] at h0
  cases hs:S k <;> cases hs':S' k
  ·simpa using h
  ·have:=h0 (by rw [hs,hs']; simp)
   simp only [Bool.false_eq_true,if_false,if_true]; rw [wr_off _ _ _ this]; exact h
  ·have:=h0 (by rw [hs,hs']; simp)
   simp only [Bool.false_eq_true,if_false,if_true]; rw [wr_off _ _ _ this]; exact h
  ·simp only [if_true]
   exact wr_on _ _ _ _ (.inr h)
theorem runF_none:∀(r:List Item) (k:Nat) (fr:Fr),runF r (fun _=>false) k fr = fr
 | [],_,_=>rfl
 | x :: r,k,fr=>runF_none r (k + 1) fr
theorem runH_none:∀(r:List Item) (k:Nat) (H:Hp),runH r (fun _=>false) k H = H
 | [],_,_=>rfl
 | x :: r,k,H=>runH_none r (k + 1) H
theorem runF_last {S:Nat→Bool} {t:Nat} (its:List Item) (k i:Nat) (fr:Fr) (x:Item) (hx:its[i]? = some x) (hS:S (k + i) = true) (hd:x.o.dst = some t) (hl:∀q y,i < q→its[q]? = some y→S (k + q) = true→y.o.dst≠some t):runF its S k fr t = ⟨x.π,x.r.v⟩:=by
 induction its generalizing k i fr with
 | nil=>simp at hx
 | cons y r ih =>
  cases i with
  | zero =>
   simp only [List.getElem?_cons_zero,Option.some.injEq] at hx
   subst hx
   rw [Nat.add_zero] at hS
   have:runF r S (k + 1) (fr.put y.o.dst ⟨y.π,y.r.v⟩) t = runF r (fun _=>false) (k + 1) (fr.put y.o.dst ⟨y.π,y.r.v⟩) t :=
    runF_cong r (k + 1) _ _ (fun q z hz hn=>hl (q + 1) z (by omega) (by simpa using hz) (by
     rw [show k + (q + 1) = k + 1 + q by omega]
     cases hs:S (k + 1 + q)
     ·exact absurd hs hn
     ·rfl)) rfl
   rw [runF,if_pos hS,this,runF_none,hd,put_eq]
  | succ i =>
   rw [runF]
   exact ih (k + 1) i _ (by simpa using hx) (by rw [show k + 1 + i = k + (i + 1) by omega]; exact hS) (fun q z hq hz hs=>hl (q + 1) z (by omega) (by simpa using hz) (by rw [show k + (q + 1) = k + 1 + q by omega]; exact hs))
theorem runH_last {S:Nat→Bool} {j:Nat} (its:List Item) (k i:Nat) (H G:Hp) (x:Item) (hx:its[i]? = some x) (hS:S (k + i) = true) (hd:j∈x.ids) (hl:∀q y,i < q→its[q]? = some y→S (k + q) = true→j ∉ y.ids):runH its S k H j = wr G x.r.ws j:=by
 induction its generalizing k i H with
 | nil=>simp at hx
 | cons y r ih =>
  cases i with
  | zero =>
   simp only [List.getElem?_cons_zero,Option.some.injEq] at hx
   subst hx
   rw [Nat.add_zero] at hS
   have:runH r S (k + 1) (wr H y.r.ws) j = runH r (fun _=>false) (k + 1) (wr H y.r.ws) j :=
    runH_cong r (k + 1) _ _ (fun q z hz hn=>hl (q + 1) z (by omega) (by simpa using hz) (by
     rw [show k + (q + 1) = k + 1 + q by omega]
     cases hs:S (k + 1 + q)
     ·exact absurd hs hn
     ·rfl)) rfl
   rw [runH,if_pos hS,this,runH_none]
   exact wr_on _ _ _ _ (.inl hd)
  | succ i =>
   rw [runH]
   exact ih (k + 1) i _ (by simpa using hx) (by rw [show k + 1 + i = k + (i + 1) by omega]; exact hS) (fun q z hq hz hs=>hl (q + 1) z (by omega) (by simpa using hz) (by rw [show k + (q + 1) = k + 1 + q by omega]; exact hs))
theorem runF_shift:∀(its:List Item) (S:Nat→Bool) (k:Nat) (fr:Fr),runF its S (k + 1) fr = runF its (fun j=>S (j + 1)) k fr
 | [],_,_,_=>rfl
 | x :: r,S,k,fr=>by rw [runF,runF,runF_shift r S (k + 1)]
theorem runH_shift:∀(its:List Item) (S:Nat→Bool) (k:Nat) (H:Hp),runH its S (k + 1) H = runH its (fun j=>S (j + 1)) k H
 | [],_,_,_=>rfl
 | x :: r,S,k,H=>by rw [runH,runH,runH_shift r S (k + 1)]
def below (i:Nat):Nat→Bool:=fun j=>Nat.blt j i
theorem below_iff {i j:Nat}:below i j = true↔j < i:=⟨fun h=>Nat.le_of_ble_eq_true h,fun h=>Nat.ble_eq_true_of_le h⟩
def lo (its:List Item) (n:Nat):Nat→Nat
 | 0=>n
 | k + 1=>match its[k]? with
  | some x=>x.r.nid
  | none=>n
structure Fact (E:Env) (ops:List Oper) (its:List Item) (seen:List Nat) (fr:Fr) (H:Hp) (n:Nat) (l:List Oper) (i:Nat) (x:Item):Prop where
 op:l[i]? = some x.o
 g:guardOf ops (runF its (below i) 0 fr) x.o = some x.π
 ev:(evOp E x.o x.π (runF its (below i) 0 fr) (runH its (below i) 0 H) (lo its n i)).bind (calm x.π (runF its (below i) 0 fr) (runH its (below i) 0 H)) = some x.r
 c:x.c = chkOf (runF its (below i) 0 fr) x.π x.r.chk
 mono:lo its n i≤x.r.nid
 ws:wsOk (runH its (below i) 0 H) (lo its n i) x.r.nid x.r.ws = true
 was:∀e∈x.π,e.1∈seen∨∃q y,q < i∧its[q]? = some y∧y.o.dst = some e.1
 dst:∀d,x.o.dst = some d→d ∉ seen∧∀q y,q < i→its[q]? = some y→y.o.dst≠some d
theorem below_zero_F (its:List Item) (k:Nat) (fr:Fr):runF its (below 0) k fr = fr:=by
 induction its generalizing k fr with
 | nil=>rfl
 | cons x r ih=>rw [runF,if_neg (by simp [below,Nat.blt,Nat.ble]),ih]
theorem below_zero_H (its:List Item) (k:Nat) (H:Hp):runH its (below 0) k H = H:=by
 induction its generalizing k H with
 | nil=>rfl
 | cons x r ih=>rw [runH,if_neg (by simp [below,Nat.blt,Nat.ble]),ih]
theorem tr_fact {E:Env} {ops:List Oper}:∀(l:List Oper) (seen:List Nat) (fr:Fr) (H:Hp) (n:Nat) (its:List Item) (fr':Fr) (H':Hp) (n':Nat),tr E ops l seen fr H n = some (its,fr',H',n') →
  its.length = l.length∧(∀i x,its[i]? = some x→Fact E ops its seen fr H n l i x)∧fr' = runF its (fun _=>true) 0 fr∧H' = runH its (fun _=>true) 0 H∧n' = lo its n its.length
 | [],seen,fr,H,n,its,fr',H',n',h=>by
  simp only [tr,Option.some.injEq,Prod.mk.injEq] at h
  obtain ⟨rfl,rfl,rfl,rfl⟩:=h
  exact ⟨rfl,fun i x hx=>by simp at hx,rfl,rfl,rfl⟩
 | o :: l,seen,fr,H,n,its,fr',H',n',h=>by
  rw [tr] at h
  cases hg:guardOf ops fr o with
  | none=>rw [hg] at h; cases h
  | some π =>
   rw [hg] at h
   simp only [Option.bind_some] at h
   cases he:(evOp E o π fr H n).bind (calm π fr H) with
   | none=>rw [he] at h; cases h
   | some r =>
    rw [he] at h
    simp only [Option.bind_some] at h
    generalize hb:(Nat.ble n r.nid && wsOk H n r.nid r.ws && π.all (fun e=>memN e.1 seen) && (match o.dst with
     | some d=>!memN d seen
     | none=>true)) = b at h
    cases b with
    | false=>cases h
    | true =>
     simp only [cond_true] at h
     simp only [Bool.and_eq_true] at hb
     obtain ⟨⟨⟨b1,b2⟩,b4⟩,b5⟩:=hb
     cases ht:tr E ops l (List.append o.dst.toList seen) (fr.put o.dst ⟨π,r.v⟩) (wr H r.ws) r.nid with
     | none=>rw [ht] at h; cases h
     | some y =>
      obtain ⟨its',fr1,H1,n1⟩:=y
      rw [ht] at h
      simp only [Option.map_some,Option.some.injEq,Prod.mk.injEq] at h
      obtain ⟨rfl,rfl,rfl,rfl⟩:=h
      obtain ⟨i1,i2,i3,i4,i5⟩:=tr_fact l _ _ _ _ _ _ _ _ ht
      have hlo:∀k,lo (⟨o,π,r,chkOf fr π r.chk⟩ :: its') n (k + 1) = lo its' r.nid k∨its'.length < k:=by
       intro k
       cases k with
       | zero=>exact .inl rfl
       | succ k =>
        simp only [lo,List.getElem?_cons_succ]
        cases hk:its'[k]? with
        | some x=>exact .inl rfl
        | none=>rw [List.getElem?_eq_none_iff] at hk; exact .inr (by omega)
      refine ⟨by simp [i1],fun i x hx=>?_,?_,?_,?_⟩
      ·cases i with
       | zero =>
        simp only [List.getElem?_cons_zero,Option.some.injEq] at hx
        subst hx
        refine ⟨rfl,?_,?_,?_,Nat.le_of_ble_eq_true b1,?_,fun e he'=>.inl (memN_iff.1 (List.all_eq_true.1 b4 e he')),fun d hd=>⟨?_,fun q y hq=>by omega⟩⟩
        ·rw [below_zero_F]; exact hg
        ·rw [below_zero_F,below_zero_H]; exact he
        ·rw [below_zero_F]
        ·rw [below_zero_H]; exact b2
        ·simp only at hd
         rw [hd] at b5
         intro hm
         have b5':(!memN d seen) = true:=b5
         rw [memN_iff.2 hm] at b5'
         cases b5'
       | succ i =>
        simp only [List.getElem?_cons_succ] at hx
        have f:=i2 i x hx
        have eF:runF (⟨o,π,r,chkOf fr π r.chk⟩ :: its') (below (i + 1)) 0 fr = runF its' (below i) 0 (fr.put o.dst ⟨π,r.v⟩):=by
         rw [runF,if_pos (below_iff.2 (by omega)),runF_shift]; rfl
        have eH:runH (⟨o,π,r,chkOf fr π r.chk⟩ :: its') (below (i + 1)) 0 H = runH its' (below i) 0 (wr H r.ws):=by
         rw [runH,if_pos (below_iff.2 (by omega)),runH_shift]; rfl
        have hil:i < its'.length:=(List.getElem?_eq_some_iff.1 hx).1
        have eL:lo (⟨o,π,r,chkOf fr π r.chk⟩ :: its') n (i + 1) = lo its' r.nid i:=by
         rcases hlo i with h | h
         ·exact h
         ·omega
        refine ⟨by simpa using f.op,by rw [eF]; exact f.g,by rw [eF,eH,eL]; exact f.ev,by rw [eF]; exact f.c,by rw [eL]; exact f.mono,by rw [eH,eL]; exact f.ws,fun e he'=>?_,fun d hd=>?_⟩
        ·rcases f.was e he' with h | ⟨q,y,h1,h2,h3⟩
         ·rcases List.mem_append.1 (show e.1∈o.dst.toList ++ seen from h) with h | h
          ·refine .inr ⟨0,_,by omega,rfl,?_⟩
           simpa using h
          ·exact .inl h
         ·exact .inr ⟨q + 1,y,by omega,by simpa using h2,h3⟩
        ·obtain ⟨d1,d2⟩:=f.dst d hd
         have d1':d ∉ o.dst.toList ++ seen:=d1
         rw [List.mem_append,not_or] at d1'
         refine ⟨d1'.2,fun q y hq hy=>?_⟩
         cases q with
         | zero =>
          simp only [List.getElem?_cons_zero,Option.some.injEq] at hy
          subst hy
          intro hh
          exact d1'.1 (by simpa using hh)
         | succ q=>exact d2 q y (by omega) (by simpa using hy)
      ·rw [i3,runF,if_pos rfl,runF_shift]
      ·rw [i4,runH,if_pos rfl,runH_shift]
      ·rw [i5,List.length_cons]
       rcases hlo its'.length with h | h
       ·exact h.symm
       ·omega
theorem allC_of {its:List Item} {p:Prop} (h:allC its p):(∀(i:Nat) (x:Item),its[i]? = some x→∀q,x.c = some q→q)∧p:=by
 induction its with
 | nil=>exact ⟨fun i x hx=>by simp at hx,h⟩
 | cons y its ih =>
  unfold allC at h
  cases hc:y.c with
  | none =>
   rw [hc] at h
   obtain ⟨h1,h2⟩:=ih h
   refine ⟨fun i x hx q hq=>?_,h2⟩
   cases i with
   | zero=>simp only [List.getElem?_cons_zero,Option.some.injEq] at hx; subst hx; rw [hc] at hq; cases hq
   | succ i=>exact h1 i x (by simpa using hx) q hq
  | some c =>
   rw [hc] at h
   obtain ⟨h1,h2⟩:=ih h.2
   refine ⟨fun i x hx q hq=>?_,h2⟩
   cases i with
   | zero=>simp only [List.getElem?_cons_zero,Option.some.injEq] at hx; subst hx; rw [hc] at hq; cases hq; exact h.1
   | succ i=>exact h1 i x (by simpa using hx) q hq
end Hw
end Go.Proofs.YtklmllaggigkfaaGreat
/- Regions, part 2: a step in any order; the whole. -/
set_option linter.unusedVariables false
set_option linter.unusedSimpArgs false
namespace Go.Proofs.YtklmllaggigkfaaGreat
namespace Hw
open Go
structure Hist (C0:Cx) (H0:Hp) (n0:Nat) (C:Cx) (H:Hp):Prop where
 ext:Ext (fun b=>∃i m,(H0 i).live∧C0.ρ i = some (some b,m)) C0 C
 new:∀i p,C.ρ i = some p→C0.ρ i = some p∨(n0≤i∧∀b,p.1 = some b→(∃j m,(H0 j).live∧C0.ρ j = some (some b,m))∨C0.w.heap.size≤b)
 liv:∀i b m,(H i).live→C.ρ i = some (some b,m)→(∃j k,(H0 j).live∧C0.ρ j = some (some b,k))∨C0.w.heap.size≤b
theorem live_rho {C:Cx} {H:Hp} (hI:Inv C H) {i:Nat} (h:(H i).live):∃p,C.ρ i = some p:=by
 have ho:=hI.own i
 cases hb:H i with
 | dead=>rw [hb] at h; exact h.elim
 | raw m cs=>rw [hb] at ho; obtain ⟨b,vs,e,h1,_⟩:=ho; exact ⟨_,h1⟩
 | mp l=>rw [hb] at ho; obtain ⟨b,m,h1,_⟩:=ho; exact ⟨_,h1⟩
 | arr a =>
  rw [hb] at ho
  rcases ho with ⟨_,h1⟩ | ⟨b,vs,e,h1,_⟩ <;> exact ⟨_,h1⟩
theorem dead_live {b:Blk}:b.isDead = true↔¬ b.live:=by cases b <;> simp [Blk.isDead,Blk.live]
theorem wr_dead_of:∀(ws:List (Nat×Blk)) (H:Hp) (j:Nat),j∈ws.map (·.1)→(∀e∈ws,e.1 = j→e.2.isDead = true)→¬ (wr H ws j).live
 | [],_,_,h,_=>by cases h
 | (i,b) :: r,H,j,h,hd=>by
  by_cases hr:j∈r.map (·.1)
  ·exact wr_dead_of r _ j hr fun e he=>hd e (List.mem_cons_of_mem _ he)
  ·rw [wr,wr_off _ _ _ hr]
   have hij:j = i:=by
    simp only [List.map_cons,List.mem_cons] at h
    rcases h with h | h
    ·exact h
    ·exact absurd h hr
   subst hij
   rw [upd_self]
   exact dead_live.1 (hd (j,b) List.mem_cons_self rfl)
section
variable {C0:Cx} {H0:Hp} {n0:Nat} {C C':Cx} {H:Hp} {n:Nat} {r:OpR} {v:Value} {w':World}
theorem Hist.refl (hI:Inv C0 H0):Hist C0 H0 n0 C0 H0:=⟨Ext.refl _ _,fun i p h=>.inl h,fun i b m h1 h2=>.inl ⟨i,m,h1,h2⟩⟩
theorem Hist.step (h:Hist C0 H0 n0 C H) (hI:Inv C H) (hn:n0≤n) (hfr:∀i,n≤i→i < r.nid→C.ρ i = none) (L:Left C H n r v w' C') (hw:wsOk H n r.nid r.ws = true):Hist C0 H0 n0 C' (wr H r.ws):=by
 have hT:∀b,(∃i m,i∈r.ws.map (·.1)∧(H i).live∧C.ρ i = some (some b,m))→(∃j k,(H0 j).live∧C0.ρ j = some (some b,k))∨C0.w.heap.size≤b:=fun b ⟨i,m,_,h2,h3⟩=>h.liv i b m h2 h3
 have hN:∀i p,C'.ρ i = some p→C.ρ i = some p∨(n≤i∧∀b,p.1 = some b→(∃j m,(H0 j).live∧C0.ρ j = some (some b,m))∨C0.w.heap.size≤b):=by
  intro i p hp
  rcases L.new i p hp with h1 | ⟨h1,h2,h3⟩
  ·exact .inl h1
  ·refine .inr ⟨h1,fun b hb=>?_⟩
   rcases h3 b hb with h3 | h3
   ·exact hT _ h3
   ·exact .inr (Nat.le_trans h.ext.size h3)
 refine ⟨Ext.trans h.ext L.ext (fun b hb hl=>?_),fun i p hp=>?_,fun i b m hl hr=>?_⟩
 ·rcases hT b hb with h1 | h1
  ·exact h1
  ·omega
 ·rcases hN i p hp with h1 | ⟨h1,h2⟩
  ·exact h.new i p h1
  ·exact .inr ⟨by omega,h2⟩
 ·rcases hN i _ hr with h1 | ⟨h1,h2⟩
  ·by_cases hi:i∈r.ws.map (·.1)
   ·by_cases hd:(H i).live
    ·exact h.liv i b m hd h1
    ·refine absurd hl (wr_dead_of _ _ _ hi fun e he hei=>?_)
     have:=List.all_eq_true.1 hw e he
     simp only [Bool.and_eq_true,Bool.or_eq_true,Bool.not_eq_true'] at this
     obtain ⟨a1,a2⟩:=this
     rw [hei] at a1 a2
     have a1:i < r.nid:=Nat.le_of_ble_eq_true a1
     rcases a2 with (a2 | a2) | a2
     ·exact a2
     ·have:=hfr i (Nat.le_of_ble_eq_true a2) a1
      rw [h1] at this; cases this
     ·rw [dead_live.2 hd] at a2; cases a2
   ·rw [wr_off _ _ _ hi] at hl
    exact h.liv i b m hl h1
  ·exact h2 b rfl
end
theorem holds_put {π:List (Nat×Bool)} {tmps:Array Value} {d:Nat} {u:Value} (h:∀e∈π,e.1≠d):holds π (tmps.setIfInBounds d u)↔holds π tmps:=by
 constructor
 ·intro hh e he
  have:=hh e he
  rwa [Array.getElem?_setIfInBounds,if_neg (fun x=>h e he x.symm)] at this
 ·intro hh e he
  rw [Array.getElem?_setIfInBounds,if_neg (fun x=>h e he x.symm)]
  exact hh e he
def putT (d:Option Nat) (tmps:Array Value) (u:Value):Array Value :=
 match d with
 | some d=>tmps.setIfInBounds d u
 | none=>tmps
theorem FrR_put {C C':Cx} {fr:Fr} {tmps:Array Value} {d:Option Nat} {π:List (Nat×Bool)} {v:AV} {u:Value} (h:FrR C fr tmps) (hx:∀(x:AV) (v:Value),avR C x v→avR C' x v) (hd:∀t,d = some t→t < tmps.size)
  (hg:∀d',d = some d'→∀t,t≠d'→∀e∈(fr t).g,e.1≠d') (hπ:∀d',d = some d'→∀e∈π,e.1≠d') (hon:holds π tmps→avR C' v u) (hoff:¬ holds π tmps→u = undef):FrR C' (fr.put d ⟨π,v⟩) (putT d tmps u):=by
 cases d with
 | none=>exact ⟨fun t ht=>(h.slot t ht).imp_right fun ⟨v,h1,h2⟩=>⟨v,h1,hx _ _ h2⟩,h.off⟩
 | some d =>
  have hdl:=hd d rfl
  show FrR C' (fr.put (some d) ⟨π,v⟩) (tmps.setIfInBounds d u)
  refine ⟨fun t ht=>?_,fun t ht=>?_⟩
  ·by_cases htd:t = d
   ·subst htd
    rw [put_eq] at ht ⊢
    simp only at ht ⊢
    rw [holds_put (hπ t rfl)] at ht
    exact .inr ⟨u,by simp [hdl],hon ht⟩
   ·rw [put_ne (fun e=>htd (by cases e; rfl))] at ht ⊢
    rw [holds_put (hg d rfl t htd)] at ht
    rw [Array.getElem?_setIfInBounds,if_neg (fun e=>htd e.symm)]
    exact (h.slot t ht).imp_right fun ⟨v,h1,h2⟩=>⟨v,h1,hx _ _ h2⟩
  ·by_cases htd:t = d
   ·subst htd
    rw [put_eq] at ht
    simp only at ht
    rw [holds_put (hπ t rfl)] at ht
    exact .inl (by simp [hdl,hoff ht])
   ·rw [put_ne (fun e=>htd (by cases e; rfl))] at ht
    rw [holds_put (hg d rfl t htd)] at ht
    rw [Array.getElem?_setIfInBounds,if_neg (fun e=>htd e.symm)]
    exact h.off t ht
def Chain (fr:Fr):List (Nat×Bool)→Prop
 | []=>True
 | (d,b) :: r=>(∃x,(fr d).v = .v (.c (.bool x)))∧(fr d).g = r∧Chain fr r
theorem Chain.cong {fr fr':Fr}:∀{π:List (Nat×Bool)},(∀e∈π,fr' e.1 = fr e.1)→Chain fr π→Chain fr' π
 | [],_,_=>trivial
 | (d,b) :: r,h,⟨⟨x,h1⟩,h2,h3⟩=>by
  have hd:=h (d,b) List.mem_cons_self
  simp only at hd
  refine ⟨⟨x,by rw [hd]; exact h1⟩,by rw [hd]; exact h2,Chain.cong (fun e he=>h e (List.mem_cons_of_mem _ he)) h3⟩
theorem holds_cons {d:Nat} {b:Bool} {r:List (Nat×Bool)} {tmps:Array Value}:holds ((d,b) :: r) tmps↔tmps[d]? = some (.bool b)∧holds r tmps:=by
 constructor
 ·intro h
  exact ⟨h (d,b) List.mem_cons_self,fun e he=>h e (List.mem_cons_of_mem _ he)⟩
 ·rintro ⟨h1,h2⟩ e he
  rcases List.mem_cons.1 he with rfl | he
  ·exact h1
  ·exact h2 e he
theorem pathB_iff {C:Cx} {fr:Fr} {tmps:Array Value} (hF:FrR C fr tmps):∀{π:List (Nat×Bool)},Chain fr π→(pathB fr π = true↔holds π tmps)
 | [],_=>⟨fun _ e he=>absurd he (by simp),fun _=>rfl⟩
 | (d,b) :: r,⟨⟨x,hx⟩,hg,hr⟩=>by
  have ih:=pathB_iff hF hr
  have e:pathB fr ((d,b) :: r) = and (pathB fr r) (lit b x):=by
   cases r with
   | nil=>simp [pathB,hx]
   | cons a l=>simp only [pathB,hx]
  have key:holds r tmps→(lit b x = true↔tmps[d]? = some (.bool b)):=by
   intro h
   rcases hF.slot d (by rw [hg]; exact h) with h3 | ⟨u,h3,h4⟩
   ·rw [hx] at h3; cases h3
   ·rw [hx] at h4
    have h4:u = .bool x:=h4
    rw [h3,h4]
    cases b <;> cases x <;> simp [lit]
  rw [e,holds_cons]
  show (pathB fr r && lit b x) = true↔_
  rw [Bool.and_eq_true,ih]
  exact ⟨fun ⟨h1,h2⟩=>⟨(key h1).1 h2,h1⟩,fun ⟨h1,h2⟩=>⟨h2,(key h2).2 h1⟩⟩
theorem mergeB_spec {c:Bool} {b o:Blk} {y:Prop×Blk} (h:mergeB c b o = some y):(c = true→y.1→y.2 = b)∧(c = false→y.2 = o):=by
 unfold mergeB at h
 split at h
 ·rename_i m z a p m' z' a' p'
  generalize hb:(Nat.beq m m' && eqB z z') = q at h
  cases q with
  | false=>cases h
  | true =>
   simp only [cond_true,Option.some.injEq] at h
   rw [Bool.and_eq_true] at hb
   obtain ⟨h1,h2⟩:=hb
   have h1:=Nat.eq_of_beq_eq_true h1
   have h2:=eqB_true h2
   subst h1 h2 h
   exact ⟨fun hc ha=>by subst hc; simp only at ha; subst ha; rfl,fun hc=>by subst hc; rfl⟩
 ·cases h
theorem calm_shape {π:List (Nat×Bool)} {fr:Fr} {H:Hp} {r0 r:OpR} (h:calm π fr H r0 = some r):(π = []∧r = r0)∨(r0.ws = []∧r = r0)∨∃i b y,π≠[]∧r0.ws = [(i,b)]∧mergeB (pathB fr π) b (H i) = some y∧r = ⟨andC y.1 r0.chk,r0.v,r0.rd,[(i,y.2)],r0.nid⟩:=by
 obtain ⟨chk,v,rd,ws,nid⟩:=r0
 cases π with
 | nil=>exact .inl ⟨rfl,(Option.some.inj h).symm⟩
 | cons e l =>
  cases ws with
  | nil=>exact .inr (.inl ⟨rfl,(Option.some.inj h).symm⟩)
  | cons a t =>
   obtain ⟨i,b⟩:=a
   cases t with
   | cons _ _=>cases h
   | nil =>
    have h':(mergeB (pathB fr (e :: l)) b (H i)).map (fun y=>(⟨andC y.1 chk,v,rd,[(i,y.2)],nid⟩:OpR)) = some r:=h
    cases hm:mergeB (pathB fr (e :: l)) b (H i) with
    | none=>rw [hm] at h'; cases h'
    | some y =>
     rw [hm] at h'
     exact .inr (.inr ⟨i,b,y,by simp,rfl,hm,(Option.some.inj h').symm⟩)
theorem calm_mk {π:List (Nat×Bool)} {fr:Fr} {H:Hp} {r0:OpR} {i:Nat} {b:Blk} {y:Prop×Blk} (hπ:π≠[]) (hw:r0.ws = [(i,b)]) (hm:mergeB (pathB fr π) b (H i) = some y):calm π fr H r0 = some ⟨andC y.1 r0.chk,r0.v,r0.rd,[(i,y.2)],r0.nid⟩:=by
 obtain ⟨chk,v,rd,ws,nid⟩:=r0
 simp only at hw
 subst hw
 cases π with
 | nil=>exact absurd rfl hπ
 | cons e l =>
  show (mergeB (pathB fr (e :: l)) b (H i)).map _ = _
  rw [hm]
  rfl
theorem calm_same {π:List (Nat×Bool)} {fr:Fr} {H:Hp} {r0 r:OpR} (h:calm π fr H r0 = some r):r.v = r0.v∧r.rd = r0.rd∧r.nid = r0.nid∧r.ws.map (·.1) = r0.ws.map (·.1):=by
 rcases calm_shape h with ⟨_,rfl⟩ | ⟨_,rfl⟩ | ⟨i,b,y,_,hw,hm,rfl⟩
 ·exact ⟨rfl,rfl,rfl,rfl⟩
 ·exact ⟨rfl,rfl,rfl,rfl⟩
 ·exact ⟨rfl,rfl,rfl,by rw [hw]; rfl⟩
theorem calm_on {π:List (Nat×Bool)} {fr:Fr} {H:Hp} {r0 r:OpR} (h:calm π fr H r0 = some r) (hp:pathB fr π = true) (hok:r.ok):r0.ok∧r.ws = r0.ws:=by
 rcases calm_shape h with ⟨_,rfl⟩ | ⟨_,rfl⟩ | ⟨i,b,y,_,hw,hm,rfl⟩
 ·exact ⟨hok,rfl⟩
 ·exact ⟨hok,rfl⟩
 ·have hm2:=(mergeB_spec hm).1 hp
  have hk:r0.ok∧y.1:=by
   unfold OpR.ok at hok ⊢
   cases hc:r0.chk with
   | none=>simp only [hc,andC] at hok; exact ⟨trivial,hok⟩
   | some q=>simp only [hc,andC] at hok; exact hok
  exact ⟨hk.1,by rw [hw,hm2 hk.2]⟩
theorem calm_off {π:List (Nat×Bool)} {fr:Fr} {H:Hp} {r0 r:OpR} (h:calm π fr H r0 = some r) (hp:pathB fr π = false):wr H r.ws = H:=by
 rcases calm_shape h with ⟨rfl,_⟩ | ⟨hw,rfl⟩ | ⟨i,b,y,_,hw,hm,rfl⟩
 ·cases hp
 ·rw [hw]; rfl
 ·have hm2:=(mergeB_spec hm).2 hp
  show upd H i y.2 = H
  funext j
  by_cases hj:j = i
  ·subst hj; rw [upd_self,hm2]
  ·rw [upd_ne hj]
theorem pathB_cong {fr fr':Fr}:∀{π:List (Nat×Bool)},(∀e∈π,fr' e.1 = fr e.1)→pathB fr' π = pathB fr π
 | [],_=>rfl
 | [(d,b)],h=>by
  have hd:=h (d,b) List.mem_cons_self
  simp only at hd
  simp only [pathB,hd]
 | (d,b) :: e :: r,h=>by
  have hd:=h (d,b) List.mem_cons_self
  simp only at hd
  have ih:=pathB_cong (π:=e :: r) fun x hx=>h x (List.mem_cons_of_mem _ hx)
  simp only [pathB,hd] at ih ⊢
  split
  ·rename_i x hx
   exact congrArg (fun q=>and q (lit b x)) ih
  ·rfl
theorem calm_cong {π:List (Nat×Bool)} {fr fr':Fr} {H H':Hp} {r0 r:OpR} (hf:∀e∈π,fr' e.1 = fr e.1) (hh:∀j∈r0.ws.map (·.1),H' j = H j) (h:calm π fr H r0 = some r):calm π fr' H' r0 = some r:=by
 rcases calm_shape h with ⟨rfl,rfl⟩ | ⟨hw,rfl⟩ | ⟨i,b,y,hπ,hw,hm,rfl⟩
 ·rfl
 ·obtain ⟨chk,v,rd,ws,nid⟩:=r
  simp only at hw
  subst hw
  cases π <;> rfl
 ·refine calm_mk hπ hw ?_
  rw [pathB_cong hf,hh i (by rw [hw]; simp)]
  exact hm
theorem guardOf_shape {ops:List Oper} {fr:Fr} {o:Oper} {π:List (Nat×Bool)} (h:guardOf ops fr o = some π):π = []∨∃d b x,π = (d,b) :: (fr d).g∧(fr d).v = .v (.c (.bool x)):=by
 unfold guardOf at h
 cases hgd:o.guard with
 | none=>rw [hgd] at h; cases h; exact .inl rfl
 | some jb =>
  obtain ⟨j,b⟩:=jb
  rw [hgd] at h
  simp only at h
  cases ho:ops[j]? with
  | none=>rw [ho] at h; cases h
  | some oj =>
   rw [ho] at h
   simp only at h
   cases hd:oj.dst with
   | none=>rw [hd] at h; cases h
   | some d =>
    rw [hd] at h
    simp only at h
    split at h
    ·rename_i x hv
     simp only [Option.some.injEq] at h
     exact .inr ⟨d,b,x,h.symm,hv⟩
    ·cases h
theorem chain_fact {E : Env} {ops l : List Oper} {its : List Item} {fr0 : Fr} {H0 : Hp} {n0 : Nat} (hF : ∀ i x, its[i]? = some x → Fact E ops its [] fr0 H0 n0 l i x) (h0 : ∀ t, (fr0 t).g = []) :
    ∀ (N i : Nat) (x : Item), i < N → its[i]? = some x → Chain (runF its (below i) 0 fr0) x.π
  | 0, i, x, h, _ => by omega
  | N + 1, i, x, h, hx => by
    rcases guardOf_shape (hF i x hx).g with h1 | ⟨d, b, u, h1, h2⟩
    · rw [h1]; trivial
    · rw [h1]
      refine ⟨⟨u, h2⟩, rfl, ?_⟩
      by_cases hex : ∃ q y, q < i ∧ its[q]? = some y ∧ y.o.dst = some d
      · obtain ⟨q, y, h3, h4, h5⟩ := hex
        have e : runF its (below i) 0 fr0 d = ⟨y.π, y.r.v⟩ := runF_last its 0 q fr0 y h4 (by rw [Nat.zero_add]; exact below_iff.2 h3) h5 (fun k z hk hz _ hd => ((hF k z hz).dst d hd).2 q y hk h4 h5)
        rw [e]
        have ih := chain_fact hF h0 N q y (by omega) h4
        refine Chain.cong (fun e he => ?_) ih
        refine runF_cong its 0 _ _ (fun k z hz hn hd => ?_) rfl
        rw [Nat.zero_add] at hn
        have hkq : q ≤ k := by
          by_cases hk : k < q
          · rw [below_iff.2 hk, below_iff.2 (show k < i by omega)] at hn; exact absurd rfl hn
          · omega
        rcases (hF q y h4).was e he with h | ⟨j, w, g1, g2, g3⟩
        · cases h
        · exact ((hF k z hz).dst e.1 hd).2 j w (by omega) g2 g3
      · have : runF its (below i) 0 fr0 d = fr0 d := by
          have := runF_cong (S := below i) (S' := fun _ => false) (t := d) its 0 fr0 fr0 (fun q y hy hn hd => hex ⟨q, y, by
            rw [Nat.zero_add] at hn
            cases hb : below i q with
            | true => exact below_iff.1 hb
            | false => rw [hb] at hn; exact absurd rfl hn, hy, hd⟩) rfl
          rw [runF_none] at this
          exact this
        rw [this, h0]
        trivial
structure RS (its:List Item) (fr0:Fr) (H0:Hp) (n0:Nat) (Cb:Cx) (Hb:Hp) (nb:Nat) (sz:Nat) (df:List Deferred) (S:Nat→Bool) (C:Cx) (a:Act):Prop where
 frm:FrR C (runF its S 0 fr0) a.tmps
 inv:Inv C (runH its S 0 H0)
 rho:∀j p,C.ρ j = some p→j < n0∨∃k x,S k = true∧its[k]? = some x∧lo its n0 k≤j∧j < x.r.nid
 hist:Hist Cb Hb nb C (runH its S 0 H0)
 size:a.tmps.size = sz
 df:a.defers = df
theorem lo_mono {E : Env} {ops l : List Oper} {its : List Item} {seen : List Nat} {fr0 : Fr} {H0 : Hp} {n0 : Nat} (hF : ∀ i x, its[i]? = some x → Fact E ops its seen fr0 H0 n0 l i x) : ∀ i j, i ≤ j → j ≤ its.length → lo its n0 i ≤ lo its n0 j := by
  intro i j hij hj
  induction j with
  | zero => have : i = 0 := by omega
            subst this; exact Nat.le_refl _
  | succ j ih =>
    by_cases h : i = j + 1
    · subst h; exact Nat.le_refl _
    · have h1 := ih (by omega) (by omega)
      have hx := List.getElem?_eq_getElem (show j < its.length by omega)
      have h2 := (hF j _ hx).mono
      have h3 : lo its n0 (j + 1) = its[j].r.nid := by simp only [lo, hx]
      omega
theorem wanted_iff {C:Cx} {fr:Fr} {a:Act} {ops:Array Oper} {o:Oper} {π:List (Nat×Bool)} (hF:FrR C fr a.tmps) (hg:guardOf ops.toList fr o = some π):(Region.wanted o (yielded ops a.tmps) = true↔holds π a.tmps)∧(o.guard = none→π = []):=by
 unfold guardOf at hg
 cases hgd:o.guard with
 | none =>
  rw [hgd] at hg
  simp only [Option.some.injEq] at hg
  subst hg
  exact ⟨⟨fun _ e he=>absurd he (by simp),fun _=>by simp [Region.wanted,hgd]⟩,fun _=>rfl⟩
 | some jb =>
  obtain ⟨j,b⟩:=jb
  rw [hgd] at hg
  simp only at hg
  refine ⟨?_,fun h=>by cases h⟩
  cases ho:ops.toList[j]? with
  | none=>rw [ho] at hg; cases hg
  | some oj =>
   rw [ho] at hg
   simp only at hg
   cases hd:oj.dst with
   | none=>rw [hd] at hg; cases hg
   | some d =>
    rw [hd] at hg
    simp only at hg
    split at hg
    ·rename_i x hv
     simp only [Option.some.injEq] at hg
     subst hg
     have ho':ops[j]? = some oj:=by simpa using ho
     have hw:Region.wanted o (yielded ops a.tmps) = true↔a.tmps[d]? = some (.bool b):=by
      simp only [Region.wanted,hgd,yielded,ho',Option.bind_some,hd]
      cases ht:a.tmps[d]? with
      | none=>simp
      | some u=>cases u <;> simp
     rw [hw]
     constructor
     ·intro ht e he
      rcases List.mem_cons.1 he with rfl | he
      ·exact ht
      ·by_cases hh:holds (fr d).g a.tmps
       ·exact hh e he
       ·rcases hF.off d hh with h | h <;> rw [ht] at h <;> cases h
     ·intro hh
      exact hh (d,b) List.mem_cons_self
    ·cases hg
theorem pathP_of {C:Cx} {fr:Fr} {tmps:Array Value} (hF:FrR C fr tmps):∀{π:List (Nat×Bool)},holds π tmps→pathP fr π
 | [],_=>trivial
 | (d,b) :: r,h=>by
  refine ⟨?_,pathP_of hF fun e he=>h e (List.mem_cons_of_mem _ he)⟩
  have ht:=h (d,b) List.mem_cons_self
  split
  ·rename_i x hv
   by_cases hh:holds (fr d).g tmps
   ·rcases hF.slot d hh with h1 | ⟨u,h1,h2⟩
    ·rw [hv] at h1; cases h1
    ·rw [hv] at h2
     have h2:u = .bool x:=h2
     rw [ht,h2] at h1
     cases h1; rfl
   ·rcases hF.off d hh with h1 | h1 <;> rw [ht] at h1 <;> cases h1
  ·trivial
theorem pathP_cong {fr fr':Fr}:∀{π:List (Nat×Bool)},(∀e∈π,fr e.1 = fr' e.1)→(pathP fr π↔pathP fr' π)
 | [],_=>Iff.rfl
 | (d,b) :: r,h=>by
  unfold pathP
  rw [h (d,b) List.mem_cons_self,pathP_cong fun e he=>h e (List.mem_cons_of_mem _ he)]
theorem guardOf_cong {ops:List Oper} {fr fr':Fr} {o:Oper} {π:List (Nat×Bool)} (h:guardOf ops fr o = some π) (he:∀e∈π,fr' e.1 = fr e.1):guardOf ops fr' o = some π:=by
 unfold guardOf at h ⊢
 cases hgd:o.guard with
 | none=>rw [hgd] at h; exact h
 | some jb =>
  obtain ⟨j,b⟩:=jb
  rw [hgd] at h
  simp only at h ⊢
  cases ho:ops[j]? with
  | none=>rw [ho] at h; cases h
  | some oj =>
   rw [ho] at h
   simp only at h ⊢
   cases hd:oj.dst with
   | none=>rw [hd] at h; cases h
   | some d =>
    rw [hd] at h
    simp only at h ⊢
    have:fr' d = fr d:=by
     split at h
     ·simp only [Option.some.injEq] at h
      subst h
      exact he (d,b) List.mem_cons_self
     ·cases h
    rw [this]
    exact h
theorem meet_false {l m:List Nat} (h:meet l m = false):∀i∈l,i ∉ m:=by
 induction l with
 | nil=>intro i hi; cases hi
 | cons x l ih =>
  unfold meet at h
  rw [Bool.or_eq_false_iff] at h
  intro i hi hm
  rcases List.mem_cons.1 hi with rfl | hi
  ·rw [memN_iff.2 hm] at h; cases h.1
  ·exact ih h.2 i hi hm
def flip (S:Nat→Bool) (i:Nat):Nat→Bool:=fun j=>if j = i then true else S j
section
variable {P:Program} {E:Env} {ops:Array Oper} {its:List Item} {fr0:Fr} {H0:Hp} {n0:Nat} {Cb:Cx} {Hb:Hp} {nb sz:Nat} {df:List Deferred}
theorem step_ok (hE : TyOK P E) (hG : ∀ c ∈ E.G, Good P c) (hF : ∀ i x, its[i]? = some x → Fact E ops.toList its [] fr0 H0 n0 ops.toList i x) (hc : ∀ (i : Nat) (x : Item), its[i]? = some x → ∀ q, x.c = some q → q) (h0 : ∀ t, (fr0 t).g = []) (hnb : nb ≤ n0)
    (hsz : ∀ o ∈ ops.toList, ∀ d, o.dst = some d → d < sz) {S : Nat → Bool} {C : Cx} {a : Act} (hS : RS its fr0 H0 n0 Cb Hb nb sz df S C a) {i : Nat} {x : Item} (hx : its[i]? = some x) (hi : S i = false)
    (r1 : ∀ k y, its[k]? = some y → i < k → S k = true → x.clash y = false) (r2 : ∀ k y, its[k]? = some y → k < i → S k = false → y.clash x = false)
    {K : Act → World → Prop} {Q : Exit → Act → World → Prop} (hK : ∀ C' a', RS its fr0 H0 n0 Cb Hb nb sz df (flip S i) C' a' → K a' C'.w) :
    if Region.wanted x.o (yielded ops a.tmps) then x.o.wp P a C.w K Q else K (a.put x.o.dst undef) C.w := by
  have f := hF i x hx
  have hil : i < its.length := (List.getElem?_eq_some_iff.1 hx).1
  have diff : ∀ k, S k ≠ below i k → (i < k ∧ S k = true) ∨ (k < i ∧ S k = false) := by
    intro k hk
    rcases Nat.lt_trichotomy k i with h | h | h
    · rw [below_iff.2 h] at hk
      exact .inr ⟨h, by cases hs : S k with | true => rw [hs] at hk; exact absurd rfl hk | false => rfl⟩
    · subst h
      have : below k k = false := by cases hb : below k k with | true => exact absurd (below_iff.1 hb) (Nat.lt_irrefl _) | false => rfl
      rw [hi, this] at hk; exact absurd rfl hk
    · have : below i k = false := by cases hb : below i k with | true => have := below_iff.1 hb; omega | false => rfl
      rw [this] at hk
      exact .inl ⟨h, by cases hs : S k with | true => rfl | false => rw [hs] at hk; exact absurd rfl hk⟩
  have apart : ∀ k y, its[k]? = some y → S k ≠ below i k → (∀ d, y.o.dst = some d → d ∉ x.uses) ∧ (∀ j ∈ y.ids, j ∉ x.r.rd) ∧ (∀ j ∈ y.ids, j ∉ x.ids) := by
    intro k y hy hk
    rcases diff k hk with ⟨h1, h2⟩ | ⟨h1, h2⟩
    · have := r1 k y hy h1 h2
      unfold Item.clash at this
      simp only [Bool.or_eq_false_iff] at this
      obtain ⟨⟨⟨⟨c1, c2⟩, c3⟩, c4⟩, c5⟩ := this
      refine ⟨fun d hd => meet_false c2 d (by simp [hd]), fun j hj hr => meet_false c5 j hr hj, fun j hj hr => meet_false c4 j hr hj⟩
    · have := r2 k y hy h1 h2
      unfold Item.clash at this
      simp only [Bool.or_eq_false_iff] at this
      obtain ⟨⟨⟨⟨c1, c2⟩, c3⟩, c4⟩, c5⟩ := this
      exact ⟨fun d hd => meet_false c1 d (by simp [hd]), fun j hj hr => meet_false c3 j hj hr, fun j hj hr => meet_false c4 j hj hr⟩
  have eqF : ∀ t ∈ x.uses, runF its S 0 fr0 t = runF its (below i) 0 fr0 t := fun t ht => runF_cong its 0 _ _ (fun q y hy hn hd => by
    rw [Nat.zero_add] at hn
    exact (apart q y hy hn).1 t hd ht) rfl
  have eqH : ∀ j, j ∈ x.r.rd ∨ j ∈ x.ids → runH its S 0 H0 j = runH its (below i) 0 H0 j := fun j hj => runH_cong its 0 _ _ (fun q y hy hn hd => by
    rw [Nat.zero_add] at hn
    rcases hj with hj | hj
    · exact (apart q y hy hn).2.1 j hd hj
    · exact (apart q y hy hn).2.2 j hd hj) rfl
  have huse : ∀ e ∈ x.π, e.1 ∈ x.uses := fun e he => List.mem_append_left _ (List.mem_map.2 ⟨e, he, rfl⟩)
  obtain ⟨r0, he0, hca0⟩ := Option.bind_eq_some_iff.1 f.ev
  obtain ⟨sv, srd, snid, sws⟩ := calm_same hca0
  have hev : evOp E x.o x.π (runF its S 0 fr0) (runH its S 0 H0) (lo its n0 i) = some r0 := by
    refine evOp_loc (fun t ht => eqF t ?_) (fun j hj => eqH j (.inl (by rw [srd]; exact hj))) he0
    refine List.mem_append_right _ (List.mem_flatMap.2 ⟨_, ht, by simp⟩)
  have hca : calm x.π (runF its S 0 fr0) (runH its S 0 H0) r0 = some x.r := calm_cong (fun e he => eqF e.1 (huse e he)) (fun j hj => eqH j (.inr (by unfold Item.ids; rw [sws]; exact hj))) hca0
  have hch : Chain (runF its S 0 fr0) x.π := Chain.cong (fun e he => eqF e.1 (huse e he)) (chain_fact hF h0 (i + 1) i x (by omega) hx)
  have hpb := pathB_iff hS.frm hch
  have hgd := guardOf_cong f.g (fun e he => eqF e.1 (huse e he))
  obtain ⟨w1, w2⟩ := wanted_iff hS.frm hgd
  have hws : wsOk (runH its S 0 H0) (lo its n0 i) x.r.nid x.r.ws = true := by
    have := f.ws
    unfold wsOk at this ⊢
    rw [List.all_eq_true] at this ⊢
    intro e he
    have h2 := this e he
    rw [eqH e.1 (.inr (List.mem_map.2 ⟨e, he, rfl⟩))]
    exact h2
  have hn0 : n0 ≤ lo its n0 i := lo_mono hF 0 i (Nat.zero_le _) (by omega)
  have hlo : lo its n0 (i + 1) = x.r.nid := by simp only [lo, hx]
  have hfr : ∀ j, lo its n0 i ≤ j → j < x.r.nid → C.ρ j = none := by
    intro j h1 h2
    cases hr : C.ρ j with
    | none => rfl
    | some p =>
      rcases hS.rho j p hr with h3 | ⟨k, y, h3, h4, h5, h6⟩
      · omega
      · have hkl : k < its.length := (List.getElem?_eq_some_iff.1 h4).1
        have hlk : lo its n0 (k + 1) = y.r.nid := by simp only [lo, h4]
        rcases Nat.lt_trichotomy k i with h | h | h
        · have := lo_mono hF (k + 1) i h (by omega); omega
        · subst h; rw [hi] at h3; cases h3
        · have := lo_mono hF (i + 1) k h (by omega); omega
  have newF : runF its (flip S i) 0 fr0 = (runF its S 0 fr0).put x.o.dst ⟨x.π, x.r.v⟩ := by
    funext t
    by_cases hd : x.o.dst = some t
    · rw [hd, put_eq]
      refine runF_last its 0 i fr0 x hx (by rw [Nat.zero_add]; simp [flip]) hd (fun q y hq hy hs hd' => ?_)
      exact ((hF q y hy).dst t hd').2 i x hq hx hd
    · rw [put_ne hd]
      refine runF_cong its 0 _ _ (fun q y hy hn => ?_) rfl
      rw [Nat.zero_add] at hn
      by_cases hq : q = i
      · subst hq; rw [hx] at hy; cases hy; exact hd
      · exact absurd (by simp [flip, hq]) hn
  have newH : runH its (flip S i) 0 H0 = wr (runH its S 0 H0) x.r.ws := by
    funext j
    by_cases hj : j ∈ x.ids
    · refine runH_last its 0 i H0 _ x hx (by rw [Nat.zero_add]; simp [flip]) hj (fun q y hq hy hs hjy => ?_)
      rw [Nat.zero_add] at hs
      have hqi : q ≠ i := by omega
      have hs' : S q = true := by simpa [flip, hqi] using hs
      have : S q ≠ below i q := by
        rw [hs']
        intro hb
        have := below_iff.1 hb.symm
        omega
      exact (apart q y hy this).2.2 j hjy hj
    · rw [wr_off _ _ _ hj]
      refine runH_cong its 0 _ _ (fun q y hy hn => ?_) rfl
      rw [Nat.zero_add] at hn
      by_cases hq : q = i
      · subst hq; rw [hx] at hy; cases hy; exact hj
      · exact absurd (by simp [flip, hq]) hn
  have hpi : ∀ d', x.o.dst = some d' → ∀ e ∈ x.π, e.1 ≠ d' := by
    intro d' hd' e he hed
    rcases f.was e he with h | ⟨q, y, h1, h2, h3⟩
    · cases h
    · exact (f.dst d' hd').2 q y h1 h2 (by rw [h3, hed])
  have hslots : ∀ d', x.o.dst = some d' → ∀ t, t ≠ d' → ∀ e ∈ (runF its S 0 fr0 t).g, e.1 ≠ d' := by
    intro d' hd' t htd e he hed
    by_cases hex : ∃ k y, its[k]? = some y ∧ S k = true ∧ y.o.dst = some t
    · obtain ⟨k, y, h1, h2, h3⟩ := hex
      have : runF its S 0 fr0 t = ⟨y.π, y.r.v⟩ := runF_last its 0 k fr0 y h1 (by rw [Nat.zero_add]; exact h2) h3 (fun q z hq hz _ hd => ((hF q z hz).dst t hd).2 k y hq h1 h3)
      rw [this] at he
      have hki : k ≠ i := fun h => by subst h; rw [hi] at h2; cases h2
      rcases (hF k y h1).was e he with h | ⟨q, z, g1, g2, g3⟩
      · cases h
      · rw [hed] at g3
        have hqi : q = i := by
          rcases Nat.lt_trichotomy q i with h | h | h
          · exact absurd g3 ((f.dst d' hd').2 q z h g2)
          · exact h
          · exact absurd hd' (((hF q z g2).dst d' g3).2 i x h hx)
        subst hqi
        have := r1 k y h1 g1 h2
        unfold Item.clash at this
        simp only [Bool.or_eq_false_iff] at this
        refine meet_false this.1.1.1.1 d' (by simp [hd']) ?_
        exact List.mem_append_left _ (List.mem_map.2 ⟨e, he, hed⟩)
    · have : runF its S 0 fr0 t = fr0 t := by
        rw [← runF_none its 0 fr0]
        rw [runF_none its 0 fr0]
        have := runF_cong (S := S) (S' := fun _ => false) (t := t) its 0 fr0 fr0 (fun q y hy hn hd => hex ⟨q, y, hy, by rw [Nat.zero_add] at hn; cases hs : S q with | true => rfl | false => rw [hs] at hn; exact absurd rfl hn, hd⟩) rfl
        rw [runF_none] at this
        exact this
      rw [this, h0] at he
      cases he
  have hdl : ∀ t, x.o.dst = some t → t < a.tmps.size := fun t ht => by
    rw [hS.size]
    exact hsz x.o (List.mem_of_getElem? f.op) t ht
  have hput : ∀ u, (a.put x.o.dst u).tmps = putT x.o.dst a.tmps u := fun u => by cases x.o.dst <;> rfl
  have hputs : ∀ u, (a.put x.o.dst u).tmps.size = sz := fun u => by rw [hput, ← hS.size]; cases x.o.dst <;> simp [putT]
  have hputd : ∀ u, (a.put x.o.dst u).defers = df := fun u => by rw [← hS.df]; cases x.o.dst <;> rfl
  split
  · rename_i hw
    have hh := w1.1 hw
    have hok : x.r.ok := by
      unfold OpR.ok
      cases hch : x.r.chk with
      | none => trivial
      | some p =>
        have hcx := f.c
        rw [hch] at hcx
        unfold chkOf at hcx
        simp only at hcx ⊢
        cases hπ : x.π with
        | nil => rw [hπ] at hcx; exact hc i x hx p hcx
        | cons e r =>
          rw [hπ] at hcx
          simp only at hcx
          refine hc i x hx _ hcx ?_
          rw [← hπ]
          exact (pathP_cong fun e he => eqF e.1 (huse e he)).1 (pathP_of hS.frm hh)
    obtain ⟨hok0, hws0⟩ := calm_on hca (hpb.2 hh) hok
    have hop := evOp_ok hE hG hS.frm hh hS.inv (by rw [← snid]; exact hfr) hev hok0
    refine RunsTo.wp hop fun v w' ⟨C', L0⟩ => ?_
    have L : Left C (runH its S 0 H0) (lo its n0 i) x.r v w' C' := ⟨L0.w, by rw [sv]; exact L0.v, by rw [hws0]; exact L0.inv, by rw [hws0]; exact L0.ext, by rw [hws0, snid]; exact L0.new⟩
    rw [← L.w]
    refine hK C' _ ⟨?_, ?_, fun j p hp => ?_, ?_, hputs v, hputd v⟩
    · rw [newF, hput]
      have hoff := hS.inv.off (T := fun b => ∃ i m, i ∈ x.r.ws.map (·.1) ∧ (runH its S 0 H0 i).live ∧ C.ρ i = some (some b, m)) (fun b ⟨i, m, _, h1, h2⟩ => ⟨i, m, h1, h2⟩)
      exact FrR_put hS.frm (fun y u hy => avR_ext L.ext hoff hy) hdl hslots hpi (fun _ => L.v) (fun hn => absurd hh hn)
    · rw [newH]; exact L.inv
    · rcases L.new j p hp with h | ⟨h1, h2, _⟩
      · rcases hS.rho j p h with h | ⟨k, y, h3, h4⟩
        · exact .inl h
        · exact .inr ⟨k, y, by simp only [flip]; split <;> first | rfl | exact h3, h4⟩
      · exact .inr ⟨i, x, by simp [flip], hx, h1, h2⟩
    · rw [newH]
      exact hS.hist.step hS.inv (Nat.le_trans hnb hn0) hfr L hws
  · rename_i hw
    have hnh : ¬ holds x.π a.tmps := fun h => hw (w1.2 h)
    have hempty : wr (runH its S 0 H0) x.r.ws = runH its S 0 H0 := calm_off hca (by
      cases hb : pathB (runF its S 0 fr0) x.π with
      | false => rfl
      | true => exact absurd (hpb.1 hb) hnh)
    refine hK C _ ⟨?_, ?_, fun j p hp => ?_, ?_, hputs _, hputd _⟩
    · rw [newF, hput]
      exact FrR_put hS.frm (fun _ _ h => h) hdl hslots hpi (fun h => absurd h hnh) (fun _ => rfl)
    · rw [newH, hempty]; exact hS.inv
    · rcases hS.rho j p hp with h | ⟨k, y, h3, h4⟩
      · exact .inl h
      · exact .inr ⟨k, y, by simp only [flip]; split <;> first | rfl | exact h3, h4⟩
    · rw [newH, hempty]; exact hS.hist
end
end Hw
end Go.Proofs.YtklmllaggigkfaaGreat
