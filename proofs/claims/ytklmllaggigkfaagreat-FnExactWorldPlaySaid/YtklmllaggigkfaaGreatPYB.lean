/- A new pair: the walk. -/
import Derived.Shelf.Abstract
import Derived.RangeFuncBox
import Derived.WalkKit
import Derived.OwnWalkIn
import Derived.TacticsInMore
import Derived.LoopNIn
import Derived.LoopIn
import Derived.Stop.RegionWithIn
import Derived.RegionIn
import Derived.BigRegionIn
import Derived.Test.YtklmllaggigkfaaGreatPXW
namespace Go.Proofs.YtklmllaggigkfaaGreat
namespace Hw
open Go Go.RowKit
attribute [local go_sem] Oper.semAt_some
set_option maxRecDepth 100000
set_option linter.unusedVariables false
set_option linter.unusedSimpArgs false
set_option maxHeartbeats 10000000
def lkN (k:Int):Lk:=⟨⟨[10,10,10],[0,0,0],0⟩,k,⟨0,1,0,[],[],[],List.replicate 8 0⟩,⟨[],some (.pointer none)⟩,0,[]⟩
def nwCs (k:Int):List Cell:=[.own 1 1 3,.own 2 1 3,.int 0,.int k,.int 0,.int 1,.int 0,.own 3 7 46,.own 4 1 4,.own 5 1 4,.own 6 1 3,.mk ⟨[],some (.pointer none)⟩ 0,.int 0,.nilS]
structure NewLk (W W':World) (k:Int) (b:Nat) (D:Cx):Prop where
 w:D.w = W'
 nw:Nw W W'
 ρ:D.ρ 0 = some (some b,1)
 inv:Inv D (hpOf [.raw 1 (nwCs k),.arr (.ints [10,10,10]),.arr (.ints [0,0,0]),.arr (.pkts []),.arr (.bools []),.arr (.bools []),.arr (.ints (List.replicate 8 0))])
 new:∀i b m,D.ρ i = some (some b,m)→W.heap.size≤b
theorem new_out (k:Int):∀r,(Zeo (k,())).Q r→((Zeo (k,())).e r).2 = [.raw 1 (nwCs k),.arr (.ints [10,10,10]),.arr (.ints [0,0,0]),.arr (.pkts []),.arr (.bools []),.arr (.bools []),.arr (.ints (List.replicate 8 0))]:=by
 rintro ⟨r1,r2,r3,r4,r5,r6,r7,r8,r9,r10,r11⟩ ⟨⟨q1,q2,q3,q4,q5,q6⟩,⟨q7,q8,q9,q10⟩,q11,-⟩
 simp only at q1 q2 q3 q4 q5 q6 q7 q8 q9 q10 q11
 subst q1 q2 q3 q4 q5 q6 q7 q8 q9 q10 q11
 rfl
theorem linkNew_in {k:Int} {W:World} {n:Nat}:CallsIn Fence.wide n Tryz.prog 44 #[.int .i64 k] W fun e W'=>∃b D,e = .returned (.pointer (some ⟨b,0,none⟩))∧NewLk W W' k b D:=by
 refine (callsIn_wide.2 (vcall Zeo.good (k,()) rfl (fun p h=>by cases h) (W:=W) (vs:=[.int .i64 k]) ⟨rfl,trivial⟩)).mono ?_
 rintro e W' ⟨v,D,rfl,h0,h1,-,h2,h3,h4⟩
 have q:=qF Zeo.X (k,()) trivial
 obtain ⟨b,m,h5,rfl⟩:cellR D (.ptr 0 0) v:=h1
 have h3':Inv D (hpOf (Zeo.c.out (k,())).2):=h3
 have e:(Zeo.c.out (k,())).2 = [.raw 1 (nwCs k),.arr (.ints [10,10,10]),.arr (.ints [0,0,0]),.arr (.pkts []),.arr (.bools []),.arr (.bools []),.arr (.ints (List.replicate 8 0))]:=by
  exact new_out k _ q
 rw [e] at h3'
 obtain ⟨b',vs,ty,k1,-⟩:=(h3'.own 0:OwnAt D 0 (.raw 1 (nwCs k)))
 rw [h5] at k1
 cases k1
 exact ⟨_,D,rfl,h0,h2,h5,h3',h4⟩
theorem own_move {C D:Cx} {i j sz:Nat} {e:TypeId} {u:Value} (h:cellR D (.own i sz e) u) (hr:C.ρ j = D.ρ i) (hb:∀b m,D.ρ i = some (some b,m)→C.w.heap[b]? = D.w.heap[b]?):cellR C (.own j sz e) u:=by
 rcases h with ⟨h1,h2⟩ | ⟨b,n,c,vs,h1,h2,h3,h4,h5⟩
 ·exact .inl ⟨hr.trans h1,h2⟩
 ·exact .inr ⟨b,n,c,vs,hr.trans h1,h2,h3,(hb b n h1).trans h4,h5⟩
theorem arr_move {C D:Cx} {i j:Nat} {a:Arr} (h:OwnAt D i (.arr a)) (hf:∀(k j:Nat) (x:Cell),((a.get k).cells true)[j]? = some x→(∃n,x = .int n)∨∃t,x = .bool t) (hr:C.ρ j = D.ρ i) (hb:∀b m,D.ρ i = some (some b,m)→C.w.heap[b]? = D.w.heap[b]?) (hz:∀b,¬ C.frz b) (hv:∀b,¬ C.vis b):OwnAt C j (.arr a):=by
 rcases h with ⟨h1,h2⟩ | ⟨b,vs,e,h1,h2,h3,h4,h5,h6,h7⟩
 ·exact .inl ⟨h1,hr.trans h2⟩
 ·refine .inr ⟨b,vs,e,hr.trans h1,hz b,hv b,(hb b _ h1).trans h4,h5,h6,fun k hk j x hx=>?_⟩
  obtain ⟨u,g1,g2⟩:=h7 k hk j x hx
  refine ⟨u,g1,?_⟩
  rcases hf k j x hx with ⟨n,rfl⟩ | ⟨t,rfl⟩ <;> exact g2
section
variable {W W':World} {k:Int} {b:Nat} {D C:Cx} {j:Nat}
theorem NewLk.at (h:NewLk W W' k b D) (hr:∀i,i < 7→C.ρ (j + i) = D.ρ i) (h7:C.ρ (j + 7) = some (none,0)) (hb:∀i b m,i < 7→D.ρ i = some (some b,m)→C.w.heap[b]? = D.w.heap[b]?) (hz:∀b,¬ C.frz b) (hv:∀b,¬ C.vis b):∀i,i < 8→OwnAt C (j + i) (hpOf (lkB j (lkN k)) i):=by
 have o1:OwnAt D 1 (.arr (.ints [10,10,10])):=h.inv.own 1
 have o2:OwnAt D 2 (.arr (.ints [0,0,0])):=h.inv.own 2
 have o3:OwnAt D 3 (.arr (.pkts [])):=h.inv.own 3
 have o4:OwnAt D 4 (.arr (.bools [])):=h.inv.own 4
 have o5:OwnAt D 5 (.arr (.bools [])):=h.inv.own 5
 have o6:OwnAt D 6 (.arr (.ints (List.replicate 8 0))):=h.inv.own 6
 intro i hi
 match i,hi with
 | 0,_ =>
  obtain ⟨b',vs,e,k1,k2,k3,k4,k5,k6⟩:=(h.inv.own 0:OwnAt D 0 (.raw 1 (nwCs k)))
  refine (⟨b',vs,e,(hr 0 (by decide)).trans k1,hz _,hv _,(hb 0 _ _ (by decide) k1).trans k4,k5,fun t x ht=>?_⟩:OwnAt C (j + 0) (.raw 1 (lkCs j (lkN k))))
  have go:∀x',(nwCs k)[t]? = some x'→(∀u,cellR D x' u→cellR C x u)→∃u,vs[t]? = some u∧cellR C x u:=fun x' hx' hc=>by
   obtain ⟨u,g1,g2⟩:=k6 t x' hx'
   exact ⟨u,g1,hc u g2⟩
  match t,ht with
  | 0,ht=>cases ht; exact go _ rfl fun u hu=>own_move hu (hr 1 (by decide)) fun b m=>hb 1 b m (by decide)
  | 1,ht=>cases ht; exact go _ rfl fun u hu=>own_move hu (hr 2 (by decide)) fun b m=>hb 2 b m (by decide)
  | 2,ht=>cases ht; exact go _ rfl fun u hu=>hu
  | 3,ht=>cases ht; exact go _ rfl fun u hu=>hu
  | 4,ht=>cases ht; exact go _ rfl fun u hu=>hu
  | 5,ht=>cases ht; exact go _ rfl fun u hu=>hu
  | 6,ht=>cases ht; exact go _ rfl fun u hu=>hu
  | 7,ht=>cases ht; exact go _ rfl fun u hu=>own_move hu (hr 3 (by decide)) fun b m=>hb 3 b m (by decide)
  | 8,ht=>cases ht; exact go _ rfl fun u hu=>own_move hu (hr 4 (by decide)) fun b m=>hb 4 b m (by decide)
  | 9,ht=>cases ht; exact go _ rfl fun u hu=>own_move hu (hr 5 (by decide)) fun b m=>hb 5 b m (by decide)
  | 10,ht=>cases ht; exact go _ rfl fun u hu=>own_move hu (hr 6 (by decide)) fun b m=>hb 6 b m (by decide)
  | 11,ht=>cases ht; exact go _ rfl fun u hu=>hu
  | 12,ht=>cases ht; exact go _ rfl fun u hu=>hu
  | 13,ht=>cases ht; exact go _ rfl fun u hu=>.inl ⟨h7,hu⟩
  | t + 14,ht=>cases ht
 | 1,_=>exact arr_move o1 (flat_ints _) (hr 1 (by decide)) (fun b m=>hb 1 b m (by decide)) hz hv
 | 2,_=>exact arr_move o2 (flat_ints _) (hr 2 (by decide)) (fun b m=>hb 2 b m (by decide)) hz hv
 | 3,_=>exact arr_move o3 (flat_pkts _) (hr 3 (by decide)) (fun b m=>hb 3 b m (by decide)) hz hv
 | 4,_=>exact arr_move o4 (flat_bools _) (hr 4 (by decide)) (fun b m=>hb 4 b m (by decide)) hz hv
 | 5,_=>exact arr_move o5 (flat_bools _) (hr 5 (by decide)) (fun b m=>hb 5 b m (by decide)) hz hv
 | 6,_=>exact arr_move o6 (flat_ints _) (hr 6 (by decide)) (fun b m=>hb 6 b m (by decide)) hz hv
 | 7,_=>exact .inl ⟨rfl,h7⟩
end
def prRho (p:Nat) (r1 r2:Nat→Option (Option Nat×Nat)):Nat→Option (Option Nat×Nat):=fun i=>if i = 0 then some (some p,1) else if i < 8 then r1 (i - 1) else if i = 8 then some (none,0) else if i < 16 then r2 (i - 9) else if i = 16 then some (none,0) else none
theorem prRho_cases {p:Nat} {r1 r2:Nat→Option (Option Nat×Nat)} {i b m:Nat} (h:prRho p r1 r2 i = some (some b,m)):(i = 0∧b = p)∨(∃k,k < 7∧i = k + 1∧r1 k = some (some b,m))∨∃k,k < 7∧i = k + 9∧r2 k = some (some b,m):=by
 unfold prRho at h
 split at h
 ·cases h
  exact .inl ⟨by assumption,rfl⟩
 split at h
 ·exact .inr (.inl ⟨i - 1,by omega,by omega,h⟩)
 split at h
 ·cases h
 split at h
 ·exact .inr (.inr ⟨i - 9,by omega,by omega,h⟩)
 split at h
 ·cases h
 ·cases h
theorem live7 {k:Int} {i:Nat} (h:i < 7):(hpOf [.raw 1 (nwCs k),.arr (.ints [10,10,10]),.arr (.ints [0,0,0]),.arr (.pkts []),.arr (.bools []),.arr (.bools []),.arr (.ints (List.replicate 8 0))] i).live:=by
 match i,h with
 | 0,_=>trivial
 | 1,_=>trivial
 | 2,_=>trivial
 | 3,_=>trivial
 | 4,_=>trivial
 | 5,_=>trivial
 | 6,_=>trivial
structure PrNew (W0 W:World) (p:Nat):Prop where
 r:∃C,PairAt W0 W p (lkN 1) (lkN 2) C (fun _=>.other)
theorem pair_new {W0 W W1 W2 W3:World} {p b1 b2:Nat} {D1 D2:Cx} {e:TypeId} (h1:NewLk W1 W2 1 b1 D1) (h2:NewLk W3 W 2 b2 D2) {Wf:World} (hp:W0.heap.size≤p) (hp1:p < W1.heap.size) (h23:W2.heap.size≤W3.heap.size) (hk:∀y,y≠p→y < W2.heap.size→W3.heap[y]? = W2.heap[y]?) (hf:∀y,y≠p→y < W.heap.size→Wf.heap[y]? = W.heap[y]?) (hfs:W.heap.size≤Wf.heap.size) (hn:Nw W0 Wf) (hb:Wf.heap[p]? = some (.cells #[.pointer (some ⟨b1,0,none⟩),.pointer (some ⟨b2,0,none⟩)] e (0,0))):PrNew W0 Wf p:=by
 have n1:=h1.nw.size
 have n2:=h2.nw.size
 have l1:∀i b m,i < 7→D1.ρ i = some (some b,m)→W1.heap.size≤b∧b < W2.heap.size:=fun i b m hi hr=>⟨h1.new i b m hr,by rw [← h1.w]; exact h1.inv.lt (live7 hi) hr⟩
 have l2:∀i b m,i < 7→D2.ρ i = some (some b,m)→W3.heap.size≤b∧b < W.heap.size:=fun i b m hi hr=>⟨h2.new i b m hr,by rw [← h2.w]; exact h2.inv.lt (live7 hi) hr⟩
 obtain ⟨C,hC⟩:∃C:Cx,C = ⟨Wf,fun _=>False,fun _=>False,prRho p D1.ρ D2.ρ⟩:=⟨_,rfl⟩
 have k1:∀i,i < 8→OwnAt C (1 + i) (hpOf (lkB 1 (lkN 1)) i):=by
  refine h1.at (fun i hi=>?_) ?_ (fun i b m hi hr=>?_) (by rw [hC]; exact fun _ h=>h) (by rw [hC]; exact fun _ h=>h)
  ·rw [hC]
   show prRho p D1.ρ D2.ρ (1 + i) = _
   unfold prRho
   rw [if_neg (by omega),if_pos (by omega),Nat.add_sub_cancel_left]
  ·rw [hC]
   rfl
  ·have:=l1 i b m hi hr
   rw [hC,h1.w]
   show Wf.heap[b]? = _
   rw [hf b (by omega) (by omega),h2.nw.block b (by omega) (fun h=>h),hk b (by omega) (by omega)]
 have k2:∀i,i < 8→OwnAt C (9 + i) (hpOf (lkB 9 (lkN 2)) i):=by
  refine h2.at (fun i hi=>?_) ?_ (fun i b m hi hr=>?_) (by rw [hC]; exact fun _ h=>h) (by rw [hC]; exact fun _ h=>h)
  ·rw [hC]
   show prRho p D1.ρ D2.ρ (9 + i) = _
   unfold prRho
   rw [if_neg (by omega),if_neg (by omega),if_neg (by omega),if_pos (by omega),Nat.add_sub_cancel_left]
  ·rw [hC]
   rfl
  ·have:=l2 i b m hi hr
   rw [hC,h2.w]
   show Wf.heap[b]? = _
   rw [hf b (by omega) (by omega)]
 have r1:C.ρ 1 = some (some b1,1):=by rw [hC]; exact h1.ρ
 have r9:C.ρ 9 = some (some b2,1):=by rw [hC]; exact h2.ρ
 have hrng:∀i b m,C.ρ i = some (some b,m)→(i = 0∧b = p)∨(∃k,k < 7∧i = k + 1∧D1.ρ k = some (some b,m)∧W1.heap.size≤b∧b < W2.heap.size)∨∃k,k < 7∧i = k + 9∧D2.ρ k = some (some b,m)∧W3.heap.size≤b∧b < W.heap.size:=fun i b m hr=>by
  rw [hC] at hr
  rcases prRho_cases hr with h | ⟨k,hk,hi,h⟩ | ⟨k,hk,hi,h⟩
  ·exact .inl h
  ·exact .inr (.inl ⟨k,hk,hi,h,l1 k b m hk h⟩)
  ·exact .inr (.inr ⟨k,hk,hi,h,l2 k b m hk h⟩)
 refine ⟨C,⟨by rw [hC],⟨fun i=>?_,fun i j b n m _ _ hi hj=>?_,fun b hb=>by rw [hC] at hb; exact hb.elim,fun b hb=>by rw [hC] at hb; exact hb.elim⟩,fun i hi=>?_,by rw [hC]; rfl,fun i b m hr=>?_,fun b hb=>by rw [hC] at hb; exact hb.elim,fun b hb=>by rw [hC] at hb; exact hb.elim,hn,⟨_,rfl,rfl⟩,⟨_,rfl,rfl⟩⟩⟩
 ·match i with
  | 0 =>
   refine (⟨p,_,e,by rw [hC]; rfl,by rw [hC]; exact fun h=>h,by rw [hC]; exact fun h=>h,by rw [hC]; exact hb,rfl,fun j x hj=>?_⟩:OwnAt C 0 (.raw 1 [.ptr 1 0,.ptr 9 0]))
   match j,hj with
   | 0,hj=>cases hj; exact ⟨_,rfl,b1,1,r1,rfl⟩
   | 1,hj=>cases hj; exact ⟨_,rfl,b2,1,r9,rfl⟩
   | j + 2,hj=>cases hj
  | 1=>exact k1 0 (by decide)
  | 2=>exact k1 1 (by decide)
  | 3=>exact k1 2 (by decide)
  | 4=>exact k1 3 (by decide)
  | 5=>exact k1 4 (by decide)
  | 6=>exact k1 5 (by decide)
  | 7=>exact k1 6 (by decide)
  | 8=>exact k1 7 (by decide)
  | 9=>exact k2 0 (by decide)
  | 10=>exact k2 1 (by decide)
  | 11=>exact k2 2 (by decide)
  | 12=>exact k2 3 (by decide)
  | 13=>exact k2 4 (by decide)
  | 14=>exact k2 5 (by decide)
  | 15=>exact k2 6 (by decide)
  | 16=>exact k2 7 (by decide)
  | i + 17=>trivial
 ·rcases hrng i b n hi with ⟨a1,a2⟩ | ⟨k,a1,a2,a3,a4,a5⟩ | ⟨k,a1,a2,a3,a4,a5⟩ <;> rcases hrng j b m hj with ⟨c1,c2⟩ | ⟨t,c1,c2,c3,c4,c5⟩ | ⟨t,c1,c2,c3,c4,c5⟩
  ·omega
  ·omega
  ·omega
  ·omega
  ·have:=h1.inv.inj k t b n m (live7 a1) (live7 c1) a3 c3
   omega
  ·omega
  ·omega
  ·omega
  ·have:=h2.inv.inj k t b n m (live7 a1) (live7 c1) a3 c3
   omega
 ·rw [hC]
  show prRho p D1.ρ D2.ρ i = none
  unfold prRho
  rw [if_neg (by omega),if_neg (by omega),if_neg (by omega),if_neg (by omega),if_neg (by omega)]
 ·have:=hn.size
  rcases hrng i b m hr with ⟨a1,a2⟩ | ⟨k,a1,a2,a3,a4,a5⟩ | ⟨k,a1,a2,a3,a4,a5⟩ <;> omega
theorem setCell_unf {w:World} {b o:Nat} {v:Value} (k:Nat) (h0:∀o:Obj,w.heap[k]? = some o→Unf o) (x:Obj) (hx:(w.setCell ⟨b,o,none⟩ v).heap[k]? = some x):Unf x:=by
 have hx:(w.heap.modify b _)[k]? = some x:=hx
 rw [Array.getElem?_modify] at hx
 split at hx
 ·cases hw:w.heap[k]? with
  | none=>rw [hw] at hx; cases hx
  | some y =>
   rw [hw] at hx
   have hy:=h0 y hw
   simp only [Option.map_some,Option.some.injEq] at hx
   subst hx
   cases y with
   | cells c e r=>exact hy
   | _=>exact hy
 ·exact h0 x hx
theorem nw_set {W V:World} {b o:Nat} {v:Value} (h:Nw W V) (hb:W.heap.size≤b):Nw W (V.setCell ⟨b,o,none⟩ v) :=
 Mk.of h.os h.tape h.output (by rw [size_setCell]; exact h.size) (fun k hk=>by rw [setCell_other (by omega)]; exact h.block k hk fun h=>h) fun k h0 x hx=>setCell_unf k (h.unf k h0) x hx
theorem pairNew_in {W:World}:CallsIn Fence.wide 9 Tryz.prog 24 #[] W fun e W'=>∃p,e = .returned (.pointer (some ⟨p,0,none⟩))∧PrNew W W' p:=by
 refine callsIn_of_wp Tryz.func24 rfl trivial ?_ rfl
 simp only [Tryz.ntmps24,List.size_toArray,List.length_cons,List.length_nil,Nat.reduceAdd,Nat.reduceSub,Array.replicate_succ,Array.replicate_zero,List.push_toArray,List.append_toArray,List.nil_append,List.cons_append]
 gi_wp2
 generalize hp:W.heap.size = p
 generalize hY:W.alloc (.cells #[.pointer none,.pointer none] 85) = Y
 have n0:Nw W Y:=hY ▸ Mk.alloc W rfl
 have hz:Y.heap[p]? = some (.cells #[.pointer none,.pointer none] 85 (0,0)):=by
  rw [← hY,← hp,World.alloc_heap_new]
 have u0:UnfR (fun x=>x = p) Y:=unfR_at hz
 have c0:Y.cell? ⟨p,0,none⟩ = some (.pointer none):=cell_at hz
 have c1:Y.cell? ⟨p,1,none⟩ = some (.pointer none):=cell_at hz
 clear hY
 refine wpIn_loop_rounds 3 ?_
 rw [roundsIn_succ]
 gi_wp2
 have n1:=nw_drew Y
 generalize hV:Y.drew = V at *
 have w1:Fence.wide.fn 44:=trivial
 gi_region_with (gi_at_call 44; refine (linkNew_in (W:=V)).mono ?_; rintro e V1 ⟨b1,D1,rfl,h1⟩; have f1:∀o,V1.frozen? ⟨p,o,none⟩ = false:=fun o=>((u0.mk n1).mk h1.nw).at rfl; have c2:V1.cell? ⟨p,0,none⟩ = some (.pointer none):=h1.nw.keep (fun h=>h) (n1.keep (fun h=>h) c0))
 all_goals
  clear w1
  have m1:Nw W V1:=(n0.trans n1).trans h1.nw
  have c3:V1.cell? ⟨p,1,none⟩ = some (.pointer none):=h1.nw.keep (fun h=>h) (n1.keep (fun h=>h) c1)
  have z1:V1.heap[p]? = some (.cells #[.pointer none,.pointer none] 85 (0,0)):=(h1.nw.block p (Nat.lt_of_lt_of_le (lt_of_block hz) n1.size) fun h=>h).trans ((n1.block p (lt_of_block hz) fun h=>h).trans hz)
  have s1:p < V.heap.size:=Nat.lt_of_lt_of_le (lt_of_block hz) n1.size
  obtain ⟨vs1,q3,q4,q5,q6⟩:=setCell_cells (o:=0) (v:=.pointer (some ⟨b1,0,none⟩)) z1
  generalize hX:V1.setCell ⟨p,0,none⟩ (.pointer (some ⟨b1,0,none⟩)) = X at *
  have x1:∀y,y≠p→X.heap[y]? = V1.heap[y]?:=fun y hy=>by rw [← hX,setCell_other hy]
  have x2:X.heap.size = V1.heap.size:=by rw [← hX,size_setCell]
  have x3:Nw W X:=hX ▸ nw_set m1 (Nat.le_of_eq hp)
  have x4:UnfR (fun x=>x = p) X:=unfR_at q3
  have c4:X.cell? ⟨p,0,none⟩ = some (.pointer (some ⟨b1,0,none⟩)):=(cell_at q3).trans (q6 (by decide))
  have c5:X.cell? ⟨p,1,none⟩ = some (.pointer none):=(cell_at q3).trans (q5 1 (by decide))
  clear hX c0 c1 c2 c3 f1 u0
  gi_wp2
  rw [roundsIn_succ]
  gi_wp2
  have n2:=nw_drew X
  generalize hV2:X.drew = V2 at *
  have w1:Fence.wide.fn 44:=trivial
  gi_region_with (gi_at_call 44; refine (linkNew_in (W:=V2)).mono ?_; rintro e V3 ⟨b2,D2,rfl,h2⟩; have f1:∀o,V3.frozen? ⟨p,o,none⟩ = false:=fun o=>((x4.mk n2).mk h2.nw).at rfl; have c6:V3.cell? ⟨p,1,none⟩ = some (.pointer none):=h2.nw.keep (fun h=>h) (n2.keep (fun h=>h) c5))
  all_goals
   clear w1
   have z3:V3.heap[p]? = some (.cells vs1 85 (0,0)):=(h2.nw.block p (Nat.lt_of_lt_of_le (lt_of_block q3) n2.size) fun h=>h).trans ((n2.block p (lt_of_block q3) fun h=>h).trans q3)
   obtain ⟨vs2,g3,g4,g5,g6⟩:=setCell_cells (o:=1) (v:=.pointer (some ⟨b2,0,none⟩)) z3
   have hv:vs2 = #[.pointer (some ⟨b1,0,none⟩),.pointer (some ⟨b2,0,none⟩)]:=by
    have e0:=(g5 0 (by decide)).trans (q6 (by decide))
    have e1:=g6 (by rw [q4]; decide)
    have e2:=g4.trans q4
    obtain ⟨l⟩:=vs2
    have hl:l.length = 2:=e2
    match l,hl with
    | [a0,a1],_=>cases e0; cases e1; rfl
   subst hv
   have k1:Nw W V3:=(x3.trans n2).trans h2.nw
   generalize hZ:V3.setCell ⟨p,1,none⟩ (.pointer (some ⟨b2,0,none⟩)) = Z at *
   have y1:∀y,y≠p→Z.heap[y]? = V3.heap[y]?:=fun y hy=>by rw [← hZ,setCell_other hy]
   have y2:Z.heap.size = V3.heap.size:=by rw [← hZ,size_setCell]
   have y3:Nw W Z:=hZ ▸ nw_set k1 (Nat.le_of_eq hp)
   have hP:PrNew W Z p:=pair_new h1 h2 (Nat.le_of_eq hp) s1 (Nat.le_trans (Nat.le_of_eq x2.symm) n2.size) (fun y hy hl=>by rw [n2.block y (by omega) (fun h=>h),x1 y hy]) (fun y hy _=>y1 y hy) (Nat.le_of_eq y2.symm) y3 g3
   clear hZ
   clear q3 q4 q5 q6 g3 g4 g5 g6 z3 k1 y1 y2 y3 h1 h2 f1 c6 x1 x2 x3 x4 c4 c5 n2 z1 s1 m1 hV2 hV n0 n1 hz
   gi_wp2
   rw [roundsIn_succ]
   gi_wp2
   go_ret
   exact ⟨p,rfl,hP⟩
end Hw
end Go.Proofs.YtklmllaggigkfaaGreat
namespace Go.Proofs.YtklmllaggigkfaaGreat
namespace Hw
open Go Go.RowKit
attribute [local go_sem] Oper.semAt_some
set_option maxRecDepth 100000
set_option linter.unusedVariables false
set_option linter.unusedSimpArgs false
set_option maxHeartbeats 10000000
theorem make_gen {t e s by_:Nat} (h:(elemOf T t).map (fun te=>(te.1,te.2.size,te.2.bytes)) = some (e,s,by_)) (hs:by_≤4096∧1≤by_) (m:Nat) (hm:m≤1000000):∃cs:Array Value,cs.size = m * s∧∀w:World,(Instr.makeSlice t (.int .i64 m) (.int .i64 m)).run Tryz.prog w = .ok (.slice (some ⟨w.heap.size,0,none⟩) m m) (w.alloc (.cells cs e)):=by
 obtain ⟨te,h1,h1'⟩:∃te,elemOf T t = some te∧(te.1,te.2.size,te.2.bytes) = (e,s,by_):=by
  cases hh:elemOf T t with
  | none=>rw [hh] at h; cases h
  | some te=>rw [hh] at h; exact ⟨te,rfl,Option.some.inj h⟩
 cases h1'
 obtain ⟨h2,h3,h4,-⟩:=elemOf_ok tabOK h1
 obtain ⟨i,z,hi1,hi2,hi3,hi4,hi5⟩:=h3.i
 have hb:(i.bytes:Int) * (m:Int)≤281474976710656:=by
  rw [hi4]
  have:te.2.bytes * m≤4096 * 1000000:=Nat.mul_le_mul hs.1 hm
  have h2:((te.2.bytes * m:Nat):Int)≤((4096 * 1000000:Nat):Int):=Int.ofNat_le.2 this
  rw [Int.natCast_mul] at h2
  omega
 refine ⟨madeCells z.cells (m * i.size),by rw [size_madeCells,hi3],fun w=>?_⟩
 exact run_make (P:=Tryz.prog) w t te.1 i z h2 hi1 hi2 .i64 .i64 m m (by omega) (by omega) hb (by omega)
theorem make_sts (m:Nat) (hm:m≤1000000):∃cs:Array Value,cs.size = m * 7∧∀w:World,(Instr.makeSlice 76 (.int .i64 m) (.int .i64 m)).run Tryz.prog w = .ok (.slice (some ⟨w.heap.size,0,none⟩) m m) (w.alloc (.cells cs 75)) :=
 make_gen (by_:=120) (by kernel_rfl) ⟨by decide,by decide⟩ m hm
theorem make_chs (m:Nat) (hm:m≤1000000):∃cs:Array Value,cs.size = m * 13∧∀w:World,(Instr.makeSlice 24 (.int .i64 m) (.int .i64 m)).run Tryz.prog w = .ok (.slice (some ⟨w.heap.size,0,none⟩) m m) (w.alloc (.cells cs 78)) :=
 make_gen (by_:=232) (by kernel_rfl) ⟨by decide,by decide⟩ m hm
structure LkC (W:World) (b:Nat) (x:Lk) (u0 u1 u3 u4 u5 u6 v u7:Value):Prop where
 l:b < W.heap.size
 c0:W.cell? ⟨b,0,none⟩ = some u0
 c1:W.cell? ⟨b,1,none⟩ = some u1
 c2:W.cell? ⟨b,2,none⟩ = some (.int .i64 x.bank.locked)
 c3:W.cell? ⟨b,3,none⟩ = some (.int .i64 x.id)
 c4:W.cell? ⟨b,4,none⟩ = some (.int .i64 x.st.way)
 c5:W.cell? ⟨b,5,none⟩ = some (.int .i64 x.st.ver)
 c6:W.cell? ⟨b,6,none⟩ = some (.int .i64 x.st.want)
 c7:W.cell? ⟨b,7,none⟩ = some u3
 c8:W.cell? ⟨b,8,none⟩ = some u4
 c9:W.cell? ⟨b,9,none⟩ = some u5
 c10:W.cell? ⟨b,10,none⟩ = some u6
 c11:W.cell? ⟨b,11,none⟩ = some v
 c12:W.cell? ⟨b,12,none⟩ = some (.int .i64 x.count)
 c13:W.cell? ⟨b,13,none⟩ = some u7
 o0:u0.oneCell' = true
 o1:u1.oneCell' = true
 o3:u3.oneCell' = true
 o4:u4.oneCell' = true
 o5:u5.oneCell' = true
 o6:u6.oneCell' = true
 o7:u7.oneCell' = true
 ov:v.oneCell' = true
theorem LkC.nw {W X:World} {b:Nat} {x:Lk} {u0 u1 u3 u4 u5 u6 v u7:Value} (h:LkC W b x u0 u1 u3 u4 u5 u6 v u7) (n:Nw W X):LkC X b x u0 u1 u3 u4 u5 u6 v u7 :=
 { h with l:=Nat.lt_of_lt_of_le h.l n.size,c0:=n.keep (fun h=>h) h.c0,c1:=n.keep (fun h=>h) h.c1,c2:=n.keep (fun h=>h) h.c2,c3:=n.keep (fun h=>h) h.c3,c4:=n.keep (fun h=>h) h.c4,c5:=n.keep (fun h=>h) h.c5,c6:=n.keep (fun h=>h) h.c6,c7:=n.keep (fun h=>h) h.c7,c8:=n.keep (fun h=>h) h.c8,c9:=n.keep (fun h=>h) h.c9,c10:=n.keep (fun h=>h) h.c10,c11:=n.keep (fun h=>h) h.c11,c12:=n.keep (fun h=>h) h.c12,c13:=n.keep (fun h=>h) h.c13 }
def chV (x:Lk) (u0 u1 u3 u4 u5 u6 up u7:Value):Array Value:=#[.int .i64 x.id,u0,u1,.int .i64 x.bank.locked,.int .i64 x.st.way,.int .i64 x.st.ver,.int .i64 x.st.want,u3,u4,u5,u6,up,u7]
structure ChI (W Z:World) (F:Nat→Prop) (col:Nat→Pc) (idx:Nat) (L:List St) (t q z:Nat) (tv:Array Value) (k:Nat):Prop where
 nw:Nw W Z
 ht:Z.heap[t]? = some (.cells tv 78 (0,0))
 hz:Z.heap[z]? = some (.cells #[.int .i64 0,.slice none 0 0,.slice none 0 0,.int .i64 0,.int .i64 0,.int .i64 0,.int .i64 0,.slice none 0 0,.slice none 0 0,.slice none 0 0,.slice none 0 0,.slice none 0 0,.slice none 0 0] 78 (0,0))
 hl:W.heap.size≤t∧W.heap.size≤q∧W.heap.size≤z∧t≠q∧z≠q∧z≠t
 hq:∃qs:Array Value,Z.heap[q]? = some (.cells qs 75 (0,0))∧qs.size = L.length * 7∧∀j,k≤j→j < L.length→∀(g:Nat) (y:Cell),(stCells true (L.reverse.getD j zSt))[g]? = some y→∃u,qs[j * 7 + g]? = some u∧elC (arrR W F 3) y u∧StP col idx j (L.reverse.getD j zSt) g u
theorem set7 {Z:World} {q i:Nat} {qs:Array Value} {e:TypeId} {v0 v1 v2 v3 v4 v5 v6:Value} (h:Z.heap[q]? = some (.cells qs e (0,0))) (hi:i + 7≤qs.size):∃qs':Array Value,(((((((Z.setCell ⟨q,i,none⟩ v0).setCell ⟨q,i + 1,none⟩ v1).setCell ⟨q,i + 2,none⟩ v2).setCell ⟨q,i + 3,none⟩ v3).setCell ⟨q,i + 4,none⟩ v4).setCell ⟨q,i + 5,none⟩ v5).setCell ⟨q,i + 6,none⟩ v6).heap[q]? = some (.cells qs' e (0,0))∧qs'.size = qs.size∧(∀j,j < i∨i + 7≤j→qs'[j]? = qs[j]?)∧(qs'[i]? = some v0∧qs'[i + 1]? = some v1∧qs'[i + 2]? = some v2∧qs'[i + 3]? = some v3∧qs'[i + 4]? = some v4∧qs'[i + 5]? = some v5∧qs'[i + 6]? = some v6):=by
 obtain ⟨a0,b0,s0,c0,d0⟩:=setCell_cells (o:=i) (v:=v0) h
 obtain ⟨a1,b1,s1,c1,d1⟩:=setCell_cells (o:=i + 1) (v:=v1) b0
 obtain ⟨a2,b2,s2,c2,d2⟩:=setCell_cells (o:=i + 2) (v:=v2) b1
 obtain ⟨a3,b3,s3,c3,d3⟩:=setCell_cells (o:=i + 3) (v:=v3) b2
 obtain ⟨a4,b4,s4,c4,d4⟩:=setCell_cells (o:=i + 4) (v:=v4) b3
 obtain ⟨a5,b5,s5,c5,d5⟩:=setCell_cells (o:=i + 5) (v:=v5) b4
 obtain ⟨a6,b6,s6,c6,d6⟩:=setCell_cells (o:=i + 6) (v:=v6) b5
 refine ⟨a6,b6,by omega,fun j hj=>?_,?_,?_,?_,?_,?_,?_,d6 (by omega)⟩
 ·rw [c6 j (by omega),c5 j (by omega),c4 j (by omega),c3 j (by omega),c2 j (by omega),c1 j (by omega),c0 j (by omega)]
 ·rw [c6 _ (by omega),c5 _ (by omega),c4 _ (by omega),c3 _ (by omega),c2 _ (by omega),c1 _ (by omega),d0 (by omega)]
 ·rw [c6 _ (by omega),c5 _ (by omega),c4 _ (by omega),c3 _ (by omega),c2 _ (by omega),d1 (by omega)]
 ·rw [c6 _ (by omega),c5 _ (by omega),c4 _ (by omega),c3 _ (by omega),d2 (by omega)]
 ·rw [c6 _ (by omega),c5 _ (by omega),c4 _ (by omega),d3 (by omega)]
 ·rw [c6 _ (by omega),c5 _ (by omega),d4 (by omega)]
 ·rw [c6 _ (by omega),d5 (by omega)]
theorem rev_at {pre r:List St} {s:St}:((pre ++ s :: r).reverse).getD r.length zSt = s:=by
 rw [List.reverse_append,List.reverse_cons,List.getD_eq_getElem?_getD,List.append_assoc,List.getElem?_append_right (by simp)]
 simp
theorem ChI.step {W Z:World} {F:Nat→Prop} {col:Nat→Pc} {idx:Nat} {pre r:List St} {s:St} {t q z:Nat} {tv:Array Value} {v0 v1 v2 v3 v4 v5 v6:Value} (h:ChI W Z F col idx (pre ++ s :: r) t q z tv (r.length + 1)) (hs:∀(g:Nat) (y:Cell),(stCells true s)[g]? = some y→∃u,#[v0,v1,v2,v3,v4,v5,v6][g]? = some u∧elC (arrR W F 3) y u∧StP col idx r.length s g u) {Z':World} (hZ:Z' = (((((((Z.setCell ⟨q,r.length * 7,none⟩ v0).setCell ⟨q,r.length * 7 + 1,none⟩ v1).setCell ⟨q,r.length * 7 + 2,none⟩ v2).setCell ⟨q,r.length * 7 + 3,none⟩ v3).setCell ⟨q,r.length * 7 + 4,none⟩ v4).setCell ⟨q,r.length * 7 + 5,none⟩ v5).setCell ⟨q,r.length * 7 + 6,none⟩ v6)):ChI W Z' F col idx (pre ++ s :: r) t q z tv r.length:=by
 obtain ⟨hn,h1,h2,h3,qs,h4,h5,h6⟩:=h
 have hl:(pre ++ s :: r).length = pre.length + (r.length + 1):=by simp
 have hm:(pre.length + (r.length + 1)) * 7 = pre.length * 7 + r.length * 7 + 7:=by omega
 obtain ⟨qs',k1,k2,k3,e0,e1,e2,e3,e4,e5,e6⟩:=set7 (i:=r.length * 7) (v0:=v0) (v1:=v1) (v2:=v2) (v3:=v3) (v4:=v4) (v5:=v5) (v6:=v6) h4 (by rw [h5,hl]; omega)
 rw [← hZ] at k1
 have ho:∀y,y≠q→Z'.heap[y]? = Z.heap[y]?:=fun y hy=>by rw [hZ,setCell_other hy,setCell_other hy,setCell_other hy,setCell_other hy,setCell_other hy,setCell_other hy,setCell_other hy]
 refine ⟨?_,(ho t h3.2.2.2.1).trans h1,(ho z h3.2.2.2.2.1).trans h2,h3,qs',k1,k2.trans h5,fun j hj hl' g y hy=>?_⟩
 ·rw [hZ]
  exact nw_set (nw_set (nw_set (nw_set (nw_set (nw_set (nw_set hn h3.2.1) h3.2.1) h3.2.1) h3.2.1) h3.2.1) h3.2.1) h3.2.1
 ·have hg:g < 7:=(List.getElem?_eq_some_iff.1 hy).1
  rcases Nat.lt_or_ge r.length j with hlt | hge
  ·obtain ⟨u,q1,q2⟩:=h6 j hlt hl' g y hy
   exact ⟨u,(k3 _ (by omega)).trans q1,q2⟩
  ·obtain rfl:j = r.length:=by omega
   rw [rev_at] at hy ⊢
   obtain ⟨u,q1,q2⟩:=hs g y hy
   refine ⟨u,?_,q2⟩
   rw [← q1]
   match g,hg with
   | 0,_=>exact e0
   | 1,_=>exact e1
   | 2,_=>exact e2
   | 3,_=>exact e3
   | 4,_=>exact e4
   | 5,_=>exact e5
   | 6,_=>exact e6
theorem ChI.nx {W Z Z':World} {F:Nat→Prop} {col:Nat→Pc} {idx:Nat} {L:List St} {t q z:Nat} {tv:Array Value} {k:Nat} (h:ChI W Z F col idx L t q z tv k) (n:Nw Z Z'):ChI W Z' F col idx L t q z tv k:=by
 obtain ⟨hn,h1,h2,h3,qs,h4,h5⟩:=h
 have hb:∀{y:Nat} {o:Obj},Z.heap[y]? = some o→Z'.heap[y]? = some o:=fun ho=>(n.block _ (lt_of_block ho) fun h=>h).trans ho
 exact ⟨hn.trans n,hb h1,hb h2,h3,qs,hb h4,h5⟩
structure ChQ (W W':World) (F:Nat→Prop) (col:Nat→Pc) (idx:Nat) (x:Lk) (u0 u1 u3 u4 u5 u6 u7:Value) (r:Value):Prop where
 r:∃q,r = .agg (chV x u0 u1 u3 u4 u5 u6 (.slice (some ⟨q,0,none⟩) x.marks.l.length x.marks.l.length) u7)∧W.heap.size≤q∧∃qs:Array Value,W'.heap[q]? = some (.cells qs 75 (0,0))∧qs.size = x.marks.l.length * 7∧∀j,j < x.marks.l.length→∀(g:Nat) (y:Cell),(stCells true (x.marks.l.reverse.getD j zSt))[g]? = some y→∃u,qs[j * 7 + g]? = some u∧elC (arrR W F 3) y u∧StP col idx j (x.marks.l.reverse.getD j zSt) g u
 nw:Nw W W'
section
variable {W Y:World} {F:Nat→Prop} {col:Nat→Pc} {idx:Nat} {L:List St} {z:Nat} {ms tv:Array Value}
theorem chi_start1 (nY:Nw W Y) (hW:W.heap.size = z) (r0:Y.heap[z]? = some (.cells #[.int .i64 0,.slice none 0 0,.slice none 0 0,.int .i64 0,.int .i64 0,.int .i64 0,.int .i64 0,.slice none 0 0,.slice none 0 0,.slice none 0 0,.slice none 0 0,.slice none 0 0,.slice none 0 0] 78 (0,0))) (hm:ms.size = L.length * 7):ChI W ((Y.alloc (.cells ms 75)).alloc (.cells tv 78)).drew F col idx L (Y.heap.size + 1) Y.heap.size z tv L.length:=by
 have hz:=lt_of_block r0
 have k1:Nw Y (Y.alloc (.cells ms 75)):=Mk.alloc Y (show Unf (.cells ms 75) from rfl)
 have k2:Nw (Y.alloc (.cells ms 75)) ((Y.alloc (.cells ms 75)).alloc (.cells tv 78)):=Mk.alloc _ (show Unf (.cells tv 78) from rfl)
 have e1:(Y.alloc (.cells ms 75)).heap.size = Y.heap.size + 1:=by simp
 refine ⟨((nY.trans k1).trans k2).trans (nw_drew _),?_,?_,?_,ms,?_,hm,fun j h1 h2=>by omega⟩
 ·have:=World.alloc_heap_new (Y.alloc (.cells ms 75)) (.cells tv 78)
  rwa [e1] at this
 ·exact ((k1.trans k2).block z hz fun h=>h).trans r0
 ·have:=nY.size
  omega
 ·exact (k2.block _ (by omega) fun h=>h).trans (World.alloc_heap_new _ _)
theorem chi_start2 (nY:Nw W Y) (hW:W.heap.size = z) (r0:Y.heap[z]? = some (.cells #[.int .i64 0,.slice none 0 0,.slice none 0 0,.int .i64 0,.int .i64 0,.int .i64 0,.int .i64 0,.slice none 0 0,.slice none 0 0,.slice none 0 0,.slice none 0 0,.slice none 0 0,.slice none 0 0] 78 (0,0))) (hm:ms.size = L.length * 7):ChI W ((Y.alloc (.cells tv 78)).alloc (.cells ms 75)).drew F col idx L Y.heap.size (Y.heap.size + 1) z tv L.length:=by
 have hz:=lt_of_block r0
 have k1:Nw Y (Y.alloc (.cells tv 78)):=Mk.alloc Y (show Unf (.cells tv 78) from rfl)
 have k2:Nw (Y.alloc (.cells tv 78)) ((Y.alloc (.cells tv 78)).alloc (.cells ms 75)):=Mk.alloc _ (show Unf (.cells ms 75) from rfl)
 have e1:(Y.alloc (.cells tv 78)).heap.size = Y.heap.size + 1:=by simp
 refine ⟨((nY.trans k1).trans k2).trans (nw_drew _),?_,?_,?_,ms,?_,hm,fun j h1 h2=>by omega⟩
 ·exact (k2.block _ (by omega) fun h=>h).trans (World.alloc_heap_new _ _)
 ·exact ((k1.trans k2).block z hz fun h=>h).trans r0
 ·have:=nY.size
  omega
 ·have:=World.alloc_heap_new (Y.alloc (.cells tv 78)) (.cells ms 75)
  rwa [e1] at this
end
theorem setCell_at {w:World} {b o:Nat} {v:Value} {cs:Array Value} {e:TypeId} {f:Nat×Nat} (h:w.heap[b]? = some (.cells cs e f)):(w.setCell ⟨b,o,none⟩ v).heap[b]? = some (.cells (cs.setIfInBounds o v) e f):=by
 show (w.heap.modify b _)[b]? = _
 rw [Array.getElem?_modify,if_pos rfl,h]
 rfl
set_option maxHeartbeats 400000
theorem set13 {Z:World} {z:Nat} {e:TypeId} {a0 a1 a2 a3 a4 a5 a6 a7 a8 a9 a10 a11 a12 v0 v1 v2 v3 v4 v5 v6 v7 v8 v9 v10 v11 v12:Value} (h:Z.heap[z]? = some (.cells #[a0,a1,a2,a3,a4,a5,a6,a7,a8,a9,a10,a11,a12] e (0,0))):(((((((((((((Z.setCell ⟨z,0,none⟩ v0).setCell ⟨z,1,none⟩ v1).setCell ⟨z,2,none⟩ v2).setCell ⟨z,3,none⟩ v3).setCell ⟨z,4,none⟩ v4).setCell ⟨z,5,none⟩ v5).setCell ⟨z,6,none⟩ v6).setCell ⟨z,7,none⟩ v7).setCell ⟨z,8,none⟩ v8).setCell ⟨z,9,none⟩ v9).setCell ⟨z,10,none⟩ v10).setCell ⟨z,11,none⟩ v11).setCell ⟨z,12,none⟩ v12).heap[z]? = some (.cells #[v0,v1,v2,v3,v4,v5,v6,v7,v8,v9,v10,v11,v12] e (0,0)):=by
 refine (setCell_at (setCell_at (setCell_at (setCell_at (setCell_at (setCell_at (setCell_at (setCell_at (setCell_at (setCell_at (setCell_at (setCell_at (setCell_at h))))))))))))).trans ?_
 simp only [List.setIfInBounds_toArray,List.set_cons_succ,List.set_cons_zero]
theorem set13_other {Z:World} {z y:Nat} {v0 v1 v2 v3 v4 v5 v6 v7 v8 v9 v10 v11 v12:Value} (h:y≠z):(((((((((((((Z.setCell ⟨z,0,none⟩ v0).setCell ⟨z,1,none⟩ v1).setCell ⟨z,2,none⟩ v2).setCell ⟨z,3,none⟩ v3).setCell ⟨z,4,none⟩ v4).setCell ⟨z,5,none⟩ v5).setCell ⟨z,6,none⟩ v6).setCell ⟨z,7,none⟩ v7).setCell ⟨z,8,none⟩ v8).setCell ⟨z,9,none⟩ v9).setCell ⟨z,10,none⟩ v10).setCell ⟨z,11,none⟩ v11).setCell ⟨z,12,none⟩ v12).heap[y]? = Z.heap[y]?:=by
 rw [setCell_other h,setCell_other h,setCell_other h,setCell_other h,setCell_other h,setCell_other h,setCell_other h,setCell_other h,setCell_other h,setCell_other h,setCell_other h,setCell_other h,setCell_other h]
theorem nw_set13 {W Z:World} {z:Nat} {v0 v1 v2 v3 v4 v5 v6 v7 v8 v9 v10 v11 v12:Value} (h:Nw W Z) (hz:W.heap.size≤z):Nw W (((((((((((((Z.setCell ⟨z,0,none⟩ v0).setCell ⟨z,1,none⟩ v1).setCell ⟨z,2,none⟩ v2).setCell ⟨z,3,none⟩ v3).setCell ⟨z,4,none⟩ v4).setCell ⟨z,5,none⟩ v5).setCell ⟨z,6,none⟩ v6).setCell ⟨z,7,none⟩ v7).setCell ⟨z,8,none⟩ v8).setCell ⟨z,9,none⟩ v9).setCell ⟨z,10,none⟩ v10).setCell ⟨z,11,none⟩ v11).setCell ⟨z,12,none⟩ v12) :=
 nw_set (nw_set (nw_set (nw_set (nw_set (nw_set (nw_set (nw_set (nw_set (nw_set (nw_set (nw_set (nw_set h hz) hz) hz) hz) hz) hz) hz) hz) hz) hz) hz) hz) hz
theorem row_of {t s:Nat} (h:(T.get t).map (fun ti=>(ti.agg,ti.size)) = some (true,s)):∃d,(Tryz.prog).underlying t = some d∧isRowD d = true∧((Tryz.prog).info? t).map (·.size) = some s:=by
 cases hh:T.get t with
 | none=>rw [hh] at h; cases h
 | some ti =>
  rw [hh] at h
  have h:(ti.agg,ti.size) = (true,s):=Option.some.inj h
  have h1:ti.agg = true:=congrArg Prod.fst h
  have h2:ti.size = s:=congrArg Prod.snd h
  obtain ⟨d,k1,k2,-⟩:=(TabOK.get tabOK hh).d
  obtain ⟨i,zz,k3,k4,k5,-⟩:=(TabOK.get tabOK hh).i
  exact ⟨d,k1,k2.trans h1,by rw [k3]; exact congrArg some (k5.trans h2)⟩
theorem ret_row {fn:Func} {p:Tmp} {ty:TypeId} (h:fn.results = #[.cell p ty]) {tmps:Array Value} {w:World} {g:Nat} {t:TypeId} {cs:Array Value} (hp:tmps.getD p undef = .pointer (some ⟨g,0,none⟩)) (hg:w.heap[g]? = some (.cells cs t (0,0))) (hr:(T.get ty).map (fun ti=>(ti.agg,ti.size)) = some (true,cs.size)):(results fn tmps).run Tryz.prog w = .ok (.agg cs) w:=by
 obtain ⟨d,h1,h2,h3⟩:=row_of hr
 refine results_cell_row h tmps w g t cs (0,0) d hp hg h1 ?_ h3
 cases d <;> first | rfl | cases h2
theorem ChI.fin {W Z Zf:World} {F:Nat→Prop} {col:Nat→Pc} {idx:Nat} {x:Lk} {t q z:Nat} {tv:Array Value} {u0 u1 u3 u4 u5 u6 u7:Value} (h:ChI W Z F col idx x.marks.l t q z tv 0) (ho:∀y,y≠z→Zf.heap[y]? = Z.heap[y]?) (n:Nw W Zf):ChQ W Zf F col idx x u0 u1 u3 u4 u5 u6 u7 (.agg (chV x u0 u1 u3 u4 u5 u6 (.slice (some ⟨q,0,none⟩) x.marks.l.length x.marks.l.length) u7)):=by
 obtain ⟨hn,h1,h2,h3,qs,h4,h5,h6⟩:=h
 exact ⟨⟨q,rfl,h3.2.1,qs,(ho q (Ne.symm h3.2.2.2.2.1)).trans h4,h5,fun j hj=>h6 j (Nat.zero_le _) hj⟩,n⟩
end Hw
end Go.Proofs.YtklmllaggigkfaaGreat
namespace Go.Proofs.YtklmllaggigkfaaGreat
namespace Hw
open Go Go.RowKit
attribute [local go_sem] Oper.semAt_some
set_option maxRecDepth 100000
set_option linter.unusedVariables false
set_option linter.unusedSimpArgs false
set_option maxHeartbeats 10000000
def cdR:Code→Code
 | .seq _ b=>b
 | c=>c
theorem chain_rest {s1 s4 s5 s6 s7 s8 s9 s10 s11 s12 s13 s14 s15 s16 s17 s18 s19 s20 s21 s22 s23 s24 s25 s26 s27 s28 s29 s30 s31 s32 s33 s34 s35 s36 s37 s38 s39 s40 s41 s42 s43 s44 s45 s46 s47 s48 s49 s50 s51 s52:Value} {W Z:World} {b t q z:Nat} {x:Lk} {A0 A1 A3 A4 A5 A6 A7 a:Option Addr} {n0 k0 n1 k1 n3 k3 n4 k4 n5 k5 n6 k6 n7 k7:Nat} {F:Nat→Prop} {col:Nat→Pc} {idx:Nat} (S:LkC W b x (.slice A0 n0 k0) (.slice A1 n1 k1) (.slice A3 n3 k3) (.slice A4 n4 k4) (.slice A5 n5 k5) (.slice A6 n6 k6) (.pointer a) (.slice A7 n7 k7)) (hm:MkP W F col idx x.marks.l (.pointer a)) (hF:∀b,F b→b < W.heap.size) (hc:x.count = (x.marks.l.length:Int)) (hmx:x.count≤1000000) (hI:ChI W Z F col idx x.marks.l t q z (chV x (.slice A0 n0 k0) (.slice A1 n1 k1) (.slice A3 n3 k3) (.slice A4 n4 k4) (.slice A5 n5 k5) (.slice A6 n6 k6) (.slice (some ⟨q,0,none⟩) x.marks.l.length x.marks.l.length) (.slice A7 n7 k7)) x.marks.l.length) :
  ∀c,(Tryz.f53).body = some c→(cdR (cdR c)).wpIn Fence.wide 4 Tryz.prog (bodyPost Tryz.prog Tryz.f53 fun e W'=>∃r,e = .returned r∧ChQ W W' F col idx x (.slice A0 n0 k0) (.slice A1 n1 k1) (.slice A3 n3 k3) (.slice A4 n4 k4) (.slice A5 n5 k5) (.slice A6 n6 k6) (.slice A7 n7 k7) r) { tmps:=#[.pointer (some ⟨b,0,none⟩),s1,.pointer (some ⟨z,0,none⟩),.pointer (some ⟨t,0,none⟩),s4,s5,s6,s7,s8,s9,s10,s11,s12,s13,s14,s15,s16,s17,s18,s19,s20,s21,s22,s23,s24,s25,s26,s27,s28,s29,s30,s31,s32,s33,s34,s35,s36,s37,s38,s39,s40,s41,s42,s43,s44,s45,s46,s47,s48,s49,s50,s51,s52],defers:=[] } Z:=by
 intro c hc'
 have hc'':=Option.some.inj hc'
 subst hc''
 clear hc'
 conv=>arg 4; whnf
 have s12:=(S.nw hI.nw).c12
 have s11:=(S.nw hI.nw).c11
 rw [hc] at s12 hmx
 clear hc
 gi_wp2
 gi_loopw [4,5] (fun i v wr=>∃pre r,x.marks.l = pre ++ r∧i = .int .i64 r.length∧MkP W F col idx r v∧ChI W wr F col idx x.marks.l t q z _ r.length)
  (fun i _ _=>(intOf i).toNat)
 case atStart=>exact ⟨[],x.marks.l,rfl,rfl,hm,hI⟩
 case round =>
  obtain ⟨pre,r,hL,rfl,hr,hI⟩:=hrel
  cases r with
  | nil =>
   obtain rfl:u5 = .pointer none:=hr
   clear hL
   have zf:∀o,wr.frozen? ⟨z,o,none⟩ = false:=fun o=>(unfR_at hI.hz).at rfl
   have tc0:wr.cell? ⟨t,0,none⟩ = some (.int .i64 x.id):=cell_at hI.ht
   have zc0:wr.cell? ⟨z,0,none⟩ = some (.int .i64 0):=cell_at hI.hz
   have tc1:wr.cell? ⟨t,1,none⟩ = some (.slice A0 n0 k0):=cell_at hI.ht
   have zc1:wr.cell? ⟨z,1,none⟩ = some (.slice none 0 0):=cell_at hI.hz
   have tc2:wr.cell? ⟨t,2,none⟩ = some (.slice A1 n1 k1):=cell_at hI.ht
   have zc2:wr.cell? ⟨z,2,none⟩ = some (.slice none 0 0):=cell_at hI.hz
   have tc3:wr.cell? ⟨t,3,none⟩ = some (.int .i64 x.bank.locked):=cell_at hI.ht
   have zc3:wr.cell? ⟨z,3,none⟩ = some (.int .i64 0):=cell_at hI.hz
   have tc4:wr.cell? ⟨t,4,none⟩ = some (.int .i64 x.st.way):=cell_at hI.ht
   have zc4:wr.cell? ⟨z,4,none⟩ = some (.int .i64 0):=cell_at hI.hz
   have tc5:wr.cell? ⟨t,5,none⟩ = some (.int .i64 x.st.ver):=cell_at hI.ht
   have zc5:wr.cell? ⟨z,5,none⟩ = some (.int .i64 0):=cell_at hI.hz
   have tc6:wr.cell? ⟨t,6,none⟩ = some (.int .i64 x.st.want):=cell_at hI.ht
   have zc6:wr.cell? ⟨z,6,none⟩ = some (.int .i64 0):=cell_at hI.hz
   have tc7:wr.cell? ⟨t,7,none⟩ = some (.slice A3 n3 k3):=cell_at hI.ht
   have zc7:wr.cell? ⟨z,7,none⟩ = some (.slice none 0 0):=cell_at hI.hz
   have tc8:wr.cell? ⟨t,8,none⟩ = some (.slice A4 n4 k4):=cell_at hI.ht
   have zc8:wr.cell? ⟨z,8,none⟩ = some (.slice none 0 0):=cell_at hI.hz
   have tc9:wr.cell? ⟨t,9,none⟩ = some (.slice A5 n5 k5):=cell_at hI.ht
   have zc9:wr.cell? ⟨z,9,none⟩ = some (.slice none 0 0):=cell_at hI.hz
   have tc10:wr.cell? ⟨t,10,none⟩ = some (.slice A6 n6 k6):=cell_at hI.ht
   have zc10:wr.cell? ⟨z,10,none⟩ = some (.slice none 0 0):=cell_at hI.hz
   have tc11:wr.cell? ⟨t,11,none⟩ = some (.slice (some ⟨q,0,none⟩) x.marks.l.length x.marks.l.length):=cell_at hI.ht
   have zc11:wr.cell? ⟨z,11,none⟩ = some (.slice none 0 0):=cell_at hI.hz
   have tc12:wr.cell? ⟨t,12,none⟩ = some (.slice A7 n7 k7):=cell_at hI.ht
   have zc12:wr.cell? ⟨z,12,none⟩ = some (.slice none 0 0):=cell_at hI.hz
   gi_wp2
   have hI0:ChI W wr F col idx x.marks.l t q z _ 0:=hI
   refine bodyPost_ret (ret_row rfl (g:=z) rfl (set13 hI.hz) (by kernel_rfl)) rfl ?_
   exact ⟨_,rfl,hI0.fin (fun y hy=>set13_other hy) (nw_set13 hI.nw hI.hl.2.2.1)⟩
  | cons s r =>
   obtain ⟨m,cs,e,rfl,hFm,hmb,hsz,hcell,w,hw7,hrest⟩:=hr
   have hml:=hF m hFm
   have hmw:=(hI.nw.block m hml fun h=>h).trans hmb
   obtain ⟨w',rfl⟩:=ptr_of hrest
   obtain ⟨_,g0,rfl,-⟩:=hcell 0 _ rfl
   obtain ⟨_,g1,rfl,-⟩:=hcell 1 _ rfl
   obtain ⟨_,g2,rfl,-⟩:=hcell 2 _ rfl
   obtain ⟨u3,g3,x3,p3⟩:=hcell 3 _ rfl
   obtain ⟨u4,g4,x4,p4⟩:=hcell 4 _ rfl
   obtain ⟨u5,g5,x5,p5⟩:=hcell 5 _ rfl
   obtain ⟨u6,g6,x6,p6⟩:=hcell 6 _ rfl
   have hs:∀(g:Nat) (y:Cell),(stCells true s)[g]? = some y→∃u,#[.int .i64 s.way,.int .i64 s.ver,.int .i64 s.want,u3,u4,u5,u6][g]? = some u∧elC (arrR W F 3) y u∧StP col idx r.length s g u:=fun g y hy=>by
    match g,hy with
    | 0,hy=>cases hy; exact ⟨_,rfl,rfl,trivial⟩
    | 1,hy=>cases hy; exact ⟨_,rfl,rfl,trivial⟩
    | 2,hy=>cases hy; exact ⟨_,rfl,rfl,trivial⟩
    | 3,hy=>cases hy; exact ⟨_,rfl,x3,p3⟩
    | 4,hy=>cases hy; exact ⟨_,rfl,x4,p4⟩
    | 5,hy=>cases hy; exact ⟨_,rfl,x5,p5⟩
    | 6,hy=>cases hy; exact ⟨_,rfl,x6,p6⟩
    | g + 7,hy=>cases hy
   obtain ⟨qs,hqs,hqz,-⟩:=hI.hq
   have hLl:x.marks.l.length = pre.length + (r.length + 1):=by rw [hL]; simp
   obtain ⟨B3,q3,y3,-⟩:=id x3
   obtain ⟨B4,q4,y4,-⟩:=id x4
   obtain ⟨B5,q5,y5,-⟩:=id x5
   obtain ⟨B6,q6,y6,-⟩:=id x6
   subst y3 y4 y5 y6
   have qf:∀o,wr.frozen? ⟨q,o,none⟩ = false:=fun o=>(unfR_at hqs).at rfl
   have mc0:wr.cell? ⟨m,0,none⟩ = some (.int .i64 s.way):=(cell_at hmw).trans g0
   have mc1:wr.cell? ⟨m,1,none⟩ = some (.int .i64 s.ver):=(cell_at hmw).trans g1
   have mc2:wr.cell? ⟨m,2,none⟩ = some (.int .i64 s.want):=(cell_at hmw).trans g2
   have mc3:wr.cell? ⟨m,3,none⟩ = some (.slice B3 (Arr.pkts s.sent).len q3):=(cell_at hmw).trans g3
   have mc4:wr.cell? ⟨m,4,none⟩ = some (.slice B4 (Arr.bools s.live).len q4):=(cell_at hmw).trans g4
   have mc5:wr.cell? ⟨m,5,none⟩ = some (.slice B5 (Arr.bools s.back).len q5):=(cell_at hmw).trans g5
   have mc6:wr.cell? ⟨m,6,none⟩ = some (.slice B6 (Arr.ints s.got).len q6):=(cell_at hmw).trans g6
   have mc7:wr.cell? ⟨m,7,none⟩ = some (.pointer w'):=(cell_at hmw).trans hw7
   have tc11:wr.cell? ⟨t,11,none⟩ = some (.slice (some ⟨q,0,none⟩) x.marks.l.length x.marks.l.length):=cell_at hI.ht
   obtain ⟨o0,qc0⟩:∃u,wr.cell? ⟨q,r.length * 7,none⟩ = some u:=⟨_,(cell_at hqs).trans (Array.getElem?_eq_getElem (by omega))⟩
   obtain ⟨o1,qc1⟩:∃u,wr.cell? ⟨q,r.length * 7 + 1,none⟩ = some u:=⟨_,(cell_at hqs).trans (Array.getElem?_eq_getElem (by omega))⟩
   obtain ⟨o2,qc2⟩:∃u,wr.cell? ⟨q,r.length * 7 + 2,none⟩ = some u:=⟨_,(cell_at hqs).trans (Array.getElem?_eq_getElem (by omega))⟩
   obtain ⟨o3,qc3⟩:∃u,wr.cell? ⟨q,r.length * 7 + 3,none⟩ = some u:=⟨_,(cell_at hqs).trans (Array.getElem?_eq_getElem (by omega))⟩
   obtain ⟨o4,qc4⟩:∃u,wr.cell? ⟨q,r.length * 7 + 4,none⟩ = some u:=⟨_,(cell_at hqs).trans (Array.getElem?_eq_getElem (by omega))⟩
   obtain ⟨o5,qc5⟩:∃u,wr.cell? ⟨q,r.length * 7 + 5,none⟩ = some u:=⟨_,(cell_at hqs).trans (Array.getElem?_eq_getElem (by omega))⟩
   obtain ⟨o6,qc6⟩:∃u,wr.cell? ⟨q,r.length * 7 + 6,none⟩ = some u:=⟨_,(cell_at hqs).trans (Array.getElem?_eq_getElem (by omega))⟩
   have hI':=hI
   rw [hL] at hI'
   have hI2:=(ChI.step hI' hs rfl).nx (nw_drew _)
   rw [← hL] at hI2
   have hLr:x.marks.l = pre ++ [s] ++ r:=by rw [hL,List.append_assoc]; rfl
   clear hcell hs x3 x4 x5 x6 p3 p4 p5 p6
   have hr1:(r.length:Int)≤1000000:=by omega
   have hi:(r.length:Int) < x.marks.l.length:=by omega
   gi_wp2
   gi_region
   generalize hZ:World.drew _ = Z' at hI2 ⊢
   have m7:Z'.cell? ⟨m,7,none⟩ = some (.pointer w'):=(cell_at ((hI2.nw.block m hml fun h=>h).trans hmb)).trans hw7
   clear hZ mc0 mc1 mc2 mc3 mc4 mc5 mc6 mc7 qc0 qc1 qc2 qc3 qc4 qc5 qc6 tc11 qf hqs hqz hmw hmb hI' hI s11 s12 hm S
   gi_wp2
   go_roundw
   case rel=>exact ⟨pre ++ [s],r,hLr,rfl,hrest,hI2⟩
   case measure=>simp [intOf]
end Hw
end Go.Proofs.YtklmllaggigkfaaGreat
namespace Go.Proofs.YtklmllaggigkfaaGreat
namespace Hw
open Go Go.RowKit
attribute [local go_sem] Oper.semAt_some
set_option maxRecDepth 100000
set_option linter.unusedVariables false
set_option linter.unusedSimpArgs false
set_option maxHeartbeats 10000000
theorem chain_in {W:World} {b:Nat} {x:Lk} {A0 A1 A3 A4 A5 A6 A7 a:Option Addr} {n0 k0 n1 k1 n3 k3 n4 k4 n5 k5 n6 k6 n7 k7:Nat} {F:Nat→Prop} {col:Nat→Pc} {idx:Nat} (S:LkC W b x (.slice A0 n0 k0) (.slice A1 n1 k1) (.slice A3 n3 k3) (.slice A4 n4 k4) (.slice A5 n5 k5) (.slice A6 n6 k6) (.pointer a) (.slice A7 n7 k7)) (hm:MkP W F col idx x.marks.l (.pointer a)) (hF:∀b,F b→b < W.heap.size) (hc:x.count = (x.marks.l.length:Int)) (hmx:x.count≤1000000) :
  CallsIn Fence.wide 4 Tryz.prog 53 #[.pointer (some ⟨b,0,none⟩)] W fun e W'=>∃r,e = .returned r∧ChQ W W' F col idx x (.slice A0 n0 k0) (.slice A1 n1 k1) (.slice A3 n3 k3) (.slice A4 n4 k4) (.slice A5 n5 k5) (.slice A6 n6 k6) (.slice A7 n7 k7) r:=by
 refine callsIn_of_wp Tryz.func53 rfl trivial ?_ rfl
 simp only [Tryz.ntmps53,List.size_toArray,List.length_cons,List.length_nil,Nat.reduceAdd,Nat.reduceSub,Array.replicate_succ,Array.replicate_zero,List.push_toArray,List.append_toArray,List.nil_append,List.cons_append]
 gi_wp2
 generalize hY:W.alloc (.cells #[.int .i64 0,.slice none 0 0,.slice none 0 0,.int .i64 0,.int .i64 0,.int .i64 0,.int .i64 0,.slice none 0 0,.slice none 0 0,.slice none 0 0,.slice none 0 0,.slice none 0 0,.slice none 0 0] 78) = Y
 have nY:Nw W Y:=hY ▸ Mk.alloc W rfl
 generalize hz:W.heap.size = z
 have r0:Y.heap[z]? = some (.cells #[.int .i64 0,.slice none 0 0,.slice none 0 0,.int .i64 0,.int .i64 0,.int .i64 0,.int .i64 0,.slice none 0 0,.slice none 0 0,.slice none 0 0,.slice none 0 0,.slice none 0 0,.slice none 0 0] 78 (0,0)):=by rw [← hY,← hz,World.alloc_heap_new]
 clear hY
 have S2:=S.nw nY
 have S3:∀cs ty,LkC (Y.alloc (.cells cs ty)) b x (.slice A0 n0 k0) (.slice A1 n1 k1) (.slice A3 n3 k3) (.slice A4 n4 k4) (.slice A5 n5 k5) (.slice A6 n6 k6) (.pointer a) (.slice A7 n7 k7):=fun cs ty=>S2.nw (Mk.alloc Y (show Unf (.cells cs ty) from rfl))
 have S4:∀cs ty cs' ty',LkC ((Y.alloc (.cells cs ty)).alloc (.cells cs' ty')) b x (.slice A0 n0 k0) (.slice A1 n1 k1) (.slice A3 n3 k3) (.slice A4 n4 k4) (.slice A5 n5 k5) (.slice A6 n6 k6) (.pointer a) (.slice A7 n7 k7):=fun cs ty cs' ty'=>(S3 cs ty).nw (Mk.alloc _ (show Unf (.cells cs' ty') from rfl))
 have d0:=S2.c0
 have e0:∀cs ty,(Y.alloc (.cells cs ty)).cell? ⟨b,0,none⟩ = some (.slice A0 n0 k0):=fun cs ty=>(S3 cs ty).c0
 have f0:∀cs ty cs' ty',((Y.alloc (.cells cs ty)).alloc (.cells cs' ty')).cell? ⟨b,0,none⟩ = some (.slice A0 n0 k0):=fun cs ty cs' ty'=>(S4 cs ty cs' ty').c0
 have d1:=S2.c1
 have e1:∀cs ty,(Y.alloc (.cells cs ty)).cell? ⟨b,1,none⟩ = some (.slice A1 n1 k1):=fun cs ty=>(S3 cs ty).c1
 have f1:∀cs ty cs' ty',((Y.alloc (.cells cs ty)).alloc (.cells cs' ty')).cell? ⟨b,1,none⟩ = some (.slice A1 n1 k1):=fun cs ty cs' ty'=>(S4 cs ty cs' ty').c1
 have d2:=S2.c2
 have e2:∀cs ty,(Y.alloc (.cells cs ty)).cell? ⟨b,2,none⟩ = some (.int .i64 x.bank.locked):=fun cs ty=>(S3 cs ty).c2
 have f2:∀cs ty cs' ty',((Y.alloc (.cells cs ty)).alloc (.cells cs' ty')).cell? ⟨b,2,none⟩ = some (.int .i64 x.bank.locked):=fun cs ty cs' ty'=>(S4 cs ty cs' ty').c2
 have d3:=S2.c3
 have e3:∀cs ty,(Y.alloc (.cells cs ty)).cell? ⟨b,3,none⟩ = some (.int .i64 x.id):=fun cs ty=>(S3 cs ty).c3
 have f3:∀cs ty cs' ty',((Y.alloc (.cells cs ty)).alloc (.cells cs' ty')).cell? ⟨b,3,none⟩ = some (.int .i64 x.id):=fun cs ty cs' ty'=>(S4 cs ty cs' ty').c3
 have d4:=S2.c4
 have e4:∀cs ty,(Y.alloc (.cells cs ty)).cell? ⟨b,4,none⟩ = some (.int .i64 x.st.way):=fun cs ty=>(S3 cs ty).c4
 have f4:∀cs ty cs' ty',((Y.alloc (.cells cs ty)).alloc (.cells cs' ty')).cell? ⟨b,4,none⟩ = some (.int .i64 x.st.way):=fun cs ty cs' ty'=>(S4 cs ty cs' ty').c4
 have d5:=S2.c5
 have e5:∀cs ty,(Y.alloc (.cells cs ty)).cell? ⟨b,5,none⟩ = some (.int .i64 x.st.ver):=fun cs ty=>(S3 cs ty).c5
 have f5:∀cs ty cs' ty',((Y.alloc (.cells cs ty)).alloc (.cells cs' ty')).cell? ⟨b,5,none⟩ = some (.int .i64 x.st.ver):=fun cs ty cs' ty'=>(S4 cs ty cs' ty').c5
 have d6:=S2.c6
 have e6:∀cs ty,(Y.alloc (.cells cs ty)).cell? ⟨b,6,none⟩ = some (.int .i64 x.st.want):=fun cs ty=>(S3 cs ty).c6
 have f6:∀cs ty cs' ty',((Y.alloc (.cells cs ty)).alloc (.cells cs' ty')).cell? ⟨b,6,none⟩ = some (.int .i64 x.st.want):=fun cs ty cs' ty'=>(S4 cs ty cs' ty').c6
 have d7:=S2.c7
 have e7:∀cs ty,(Y.alloc (.cells cs ty)).cell? ⟨b,7,none⟩ = some (.slice A3 n3 k3):=fun cs ty=>(S3 cs ty).c7
 have f7:∀cs ty cs' ty',((Y.alloc (.cells cs ty)).alloc (.cells cs' ty')).cell? ⟨b,7,none⟩ = some (.slice A3 n3 k3):=fun cs ty cs' ty'=>(S4 cs ty cs' ty').c7
 have d8:=S2.c8
 have e8:∀cs ty,(Y.alloc (.cells cs ty)).cell? ⟨b,8,none⟩ = some (.slice A4 n4 k4):=fun cs ty=>(S3 cs ty).c8
 have f8:∀cs ty cs' ty',((Y.alloc (.cells cs ty)).alloc (.cells cs' ty')).cell? ⟨b,8,none⟩ = some (.slice A4 n4 k4):=fun cs ty cs' ty'=>(S4 cs ty cs' ty').c8
 have d9:=S2.c9
 have e9:∀cs ty,(Y.alloc (.cells cs ty)).cell? ⟨b,9,none⟩ = some (.slice A5 n5 k5):=fun cs ty=>(S3 cs ty).c9
 have f9:∀cs ty cs' ty',((Y.alloc (.cells cs ty)).alloc (.cells cs' ty')).cell? ⟨b,9,none⟩ = some (.slice A5 n5 k5):=fun cs ty cs' ty'=>(S4 cs ty cs' ty').c9
 have d10:=S2.c10
 have e10:∀cs ty,(Y.alloc (.cells cs ty)).cell? ⟨b,10,none⟩ = some (.slice A6 n6 k6):=fun cs ty=>(S3 cs ty).c10
 have f10:∀cs ty cs' ty',((Y.alloc (.cells cs ty)).alloc (.cells cs' ty')).cell? ⟨b,10,none⟩ = some (.slice A6 n6 k6):=fun cs ty cs' ty'=>(S4 cs ty cs' ty').c10
 have d12:=S2.c12
 have e12:∀cs ty,(Y.alloc (.cells cs ty)).cell? ⟨b,12,none⟩ = some (.int .i64 x.count):=fun cs ty=>(S3 cs ty).c12
 have f12:∀cs ty cs' ty',((Y.alloc (.cells cs ty)).alloc (.cells cs' ty')).cell? ⟨b,12,none⟩ = some (.int .i64 x.count):=fun cs ty cs' ty'=>(S4 cs ty cs' ty').c12
 have d13:=S2.c13
 have e13:∀cs ty,(Y.alloc (.cells cs ty)).cell? ⟨b,13,none⟩ = some (.slice A7 n7 k7):=fun cs ty=>(S3 cs ty).c13
 have f13:∀cs ty cs' ty',((Y.alloc (.cells cs ty)).alloc (.cells cs' ty')).cell? ⟨b,13,none⟩ = some (.slice A7 n7 k7):=fun cs ty cs' ty'=>(S4 cs ty cs' ty').c13
 have kc:0≤x.count:=by omega
 obtain ⟨ms,hms,hmake⟩:=make_sts x.marks.l.length (by omega)
 gi_region
 ·rename_i Q' K hK
  exact hK _ _ (chain_rest (t:=Y.heap.size + 1) (q:=Y.heap.size) S hm hF hc hmx (chi_start1 nY hz r0 hms) _ rfl)
 ·rename_i Q' K hK
  exact hK _ _ (chain_rest (t:=Y.heap.size) (q:=Y.heap.size + 1) S hm hF hc hmx (chi_start2 nY hz r0 hms) _ rfl)
end Hw
end Go.Proofs.YtklmllaggigkfaaGreat
