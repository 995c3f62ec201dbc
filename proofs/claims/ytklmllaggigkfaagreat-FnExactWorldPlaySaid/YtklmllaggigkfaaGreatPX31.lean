/- Maps: what they are made of, what is looked up, what is put. -/
import Derived.Test.YtklmllaggigkfaaGreatPX10
import Derived.MapKept
set_option linter.unusedVariables false
set_option linter.unusedSimpArgs false
namespace Go.Proofs.YtklmllaggigkfaaGreat
namespace Hw
open Go
section
variable {P:Program} {E:Env} {C:Cx} {H:Hp} {n:Nat}
theorem findNow_mp (j:Int):∀(l:List Int) (s i:Nat),Instr.findNow (.int .i64) (.int .i64 j) (mpL s l) i = some (if (s:Int) + 1≤j∧j≤(s:Int) + (l.length:Int) then some (i + (j - (s:Int) - 1).toNat,.int .i64 (l.getD (j - (s:Int) - 1).toNat 0)) else none):=by
 intro l
 induction l with
 | nil =>
  intro s i
  rw [if_neg (by simp; omega)]
  rfl
 | cons x l ih =>
  intro s i
  show (match Instr.sameNow (.int .i64) (.int .i64 j) (.int .i64 ((s:Int) + 1)) with
   | some true=>some (some (i,Value.int .i64 x))
   | some false=>Instr.findNow (.int .i64) (.int .i64 j) (mpL (s + 1) l) (i + 1)
   | none=>none) = _
  have e:Instr.sameNow (.int .i64) (.int .i64 j) (.int .i64 ((s:Int) + 1)) = some (j == (s:Int) + 1):=rfl
  rw [e]
  by_cases h:j = (s:Int) + 1
  ·rw [show (j == (s:Int) + 1) = true from beq_iff_eq.2 h]
   rw [if_pos (by simp; omega),show (j - (s:Int) - 1).toNat = 0 by omega]
   rfl
  ·rw [show (j == (s:Int) + 1) = false from beq_eq_false_iff_ne.2 h]
   show Instr.findNow (.int .i64) (.int .i64 j) (mpL (s + 1) l) (i + 1) = _
   rw [ih]
   by_cases h2:(s:Int) + 1 + 1≤j∧j≤(s:Int) + 1 + (l.length:Int)
   ·rw [if_pos (by push_cast; exact h2),if_pos (by simp; omega)]
    have e2:(j - (s:Int) - 1).toNat = (j - ((s + 1:Nat):Int) - 1).toNat + 1:=by omega
    rw [e2,List.getD_cons_succ,show i + 1 + (j - ((s + 1:Nat):Int) - 1).toNat = i + ((j - ((s + 1:Nat):Int) - 1).toNat + 1) by omega]
   ·rw [if_neg (by push_cast; exact h2),if_neg (by simp; omega)]
theorem mpL_app (x:Int):∀(l:List Int) (s:Nat),mpL s (l ++ [x]) = mpL s l ++ [{ key:=.int .i64 (((s + l.length:Nat):Int) + 1),val:=.int .i64 x,born:=s + l.length }]
 | [],s=>rfl
 | y :: l,s=>by
  show _ :: mpL (s + 1) (l ++ [x]) = _ :: (mpL (s + 1) l ++ _)
  rw [mpL_app x l (s + 1),List.length_cons,show s + 1 + l.length = s + (l.length + 1) by omega]
theorem mpL_get:∀(l:List Int) (s k:Nat),k < l.length→(mpL s l)[k]? = some { key:=.int .i64 (((s + k:Nat):Int) + 1),val:=.int .i64 (l.getD k 0),born:=s + k }
 | [],s,k,h=>by cases h
 | y :: l,s,0,h=>rfl
 | y :: l,s,k + 1,h=>by
  have:=mpL_get l (s + 1) k (by simpa using h)
  show (mpL (s + 1) l)[k]? = _
  rw [this,show s + 1 + k = s + (k + 1) by omega]
  rfl
theorem mpL_set (x:Int):∀(l:List Int) (s k:Nat),k < l.length→mpL s (l.set k x) = (mpL s l).modify k fun e=>{ e with key:=.int .i64 (((s + k:Nat):Int) + 1),val:=.int .i64 x }
 | [],s,k,h=>by cases h
 | y :: l,s,0,h=>rfl
 | y :: l,s,k + 1,h=>by
  have:=mpL_set x l (s + 1) k (by simpa using h)
  show _ :: mpL (s + 1) (l.set k x) = _ :: (mpL (s + 1) l).modify k _
  rw [this,show s + 1 + k = s + (k + 1) by omega]
theorem checkKey_int {it:TypeId} (hi:P.underlying it = some (.int .i64)) (em:Bool) (w:World) (j:Int) (k:Nat):(Instr.checkKey em (k + 1) it (.int .i64 j)).run P w = .ok () w:=by
 unfold Instr.checkKey
 simp [run_underlying hi]
theorem sameBits_int (a:Int) (k:Nat):Instr.sameBits k (.int .i64 a) (.int .i64 a) = true:=by
 cases k <;> simp [Instr.sameBits]
theorem lookup_run {t it:TypeId} (ht:P.underlying t = some (.map it it)) (hi:P.underlying it = some (.int .i64)) (w:World) (hz:(zeroValue it).run P w = .ok (.int .i64 0) w) {b:Nat} {l:List Int} {j:Int} (hb:w.heap[b]? = some (Obj.map (mpL 0 l).toArray l.length)) (hj:1≤j) :
  (Instr.lookup t (.map (some b)) (.int .i64 j) false).run P w = .ok (.int .i64 (l.getD (j - 1).toNat 0)) w:=by
 have hf:=findNow_mp j l 0 0
 have hck:∀em,(Instr.checkKey em 10000 it (.int .i64 j)).run P w = .ok () w:=fun em=>checkKey_int hi em w j 9999
 by_cases h:((0:Nat):Int) + 1≤j∧j≤((0:Nat):Int) + (l.length:Int)
 ·rw [if_pos h] at hf
  simp [Instr.lookup,run_underlying ht,run_underlying hi,MapKept.run_getObj_map hb,hck,Instr.findKey,hf]
 ·rw [if_neg h] at hf
  have:l.getD (j - 1).toNat 0 = 0:=by
   rw [List.getD_eq_getElem?_getD,List.getElem?_eq_none (by omega)]
   rfl
  rw [this]
  simp [Instr.lookup,run_underlying ht,run_underlying hi,MapKept.run_getObj_map hb,hck,Instr.findKey,hf,hz]
theorem update_run {t it:TypeId} (ht:P.underlying t = some (.map it it)) (hi:P.underlying it = some (.int .i64)) (w:World) {b:Nat} {l:List Int} {j x:Int} (hb:w.heap[b]? = some (Obj.map (mpL 0 l).toArray l.length)) (hj:1≤j∧j≤(l.length:Int) + 1) :
  (Instr.mapUpdate t (.map (some b)) (.int .i64 j) (.int .i64 x)).run P w = .ok () { w with heap:=w.heap.setIfInBounds b (Obj.map (mpL 0 (mpSet l j x)).toArray (mpSet l j x).length) }:=by
 have hf:=findNow_mp j l 0 0
 have hck:(Instr.checkKey false 10000 it (.int .i64 j)).run P w = .ok () w:=checkKey_int hi false w j 9999
 by_cases h:j≤(l.length:Int)
 ·have e:mpSet l j x = l.set (j - 1).toNat x:=by unfold mpSet; rw [decide_eq_true h]; rfl
  rw [if_pos (by omega)] at hf
  have hk:(j - ((0:Nat):Int) - 1).toNat = (j - 1).toNat:=by omega
  have hlt:(j - 1).toNat < l.length:=by omega
  have hke:(((0 + (j - 1).toNat:Nat):Int) + 1) = j:=by omega
  have hg:(mpL 0 l)[j.toNat - 1]? = some { key:=.int .i64 j,val:=.int .i64 (l.getD (j - 1).toNat 0),born:=0 + (j - 1).toNat }:=by
   rw [show j.toNat - 1 = (j - 1).toNat by omega,mpL_get l 0 _ hlt,hke]
  have hs:=mpL_set x l 0 _ hlt
  rw [hke] at hs
  rw [e,List.length_set,hs]
  rw [hk] at hf
  simp [Instr.mapUpdate,run_underlying ht,run_underlying hi,MapKept.run_getObj_map hb,MapKept.run_setObj_map _ hb,hck,Instr.findKey,hf,hg,Instr.keyThatStays,sameBits_int]
 ·have e:mpSet l j x = l ++ [x]:=by unfold mpSet; rw [decide_eq_false h]; rfl
  rw [if_neg (by omega)] at hf
  rw [e,mpL_app]
  simp [Instr.mapUpdate,run_underlying ht,run_underlying hi,MapKept.run_getObj_map hb,MapKept.run_setObj_map _ hb,hck,Instr.findKey,hf]
  rw [show j = (l.length:Int) + 1 by omega]
def Cx.addO (C:Cx) (n:Nat) (o:Obj) (m:Nat):Cx:=⟨C.w.alloc o,C.frz,C.vis,upd C.ρ n (some (some C.w.heap.size,m))⟩
theorem addO_old {o:Obj} {m b:Nat} (hb:b < C.w.heap.size):(C.addO n o m).w.heap[b]? = C.w.heap[b]?:=by
 show (C.w.heap.push _)[b]? = _
 rw [Array.getElem?_push,if_neg (by omega)]
theorem addO_new {o:Obj} {m:Nat}:(C.addO n o m).w.heap[C.w.heap.size]? = some o:=by
 show (C.w.heap.push _)[C.w.heap.size]? = _
 rw [Array.getElem?_push,if_pos rfl]
theorem addO_ext {o:Obj} {m:Nat} (T:Nat→Prop) (hn:C.ρ n = none) (hu:Unf o:=by exact trivial):Ext T C (C.addO n o m) where
 os:=rfl
 tape:=rfl
 output:=rfl
 size:=by simp [Cx.addO]
 blk:=fun b hb _=>addO_old hb
 shp:=fun b cs t h=>⟨cs,by rw [addO_old (lt_of_block h)]; exact h,rfl⟩
 unf:=fun b o' h0 h'=>by
  have hs:(C.addO n o m).w.heap.size = C.w.heap.size + 1:=by simp [Cx.addO]
  have hb:=lt_of_block h'
  by_cases hk:b = C.w.heap.size
  ·subst hk
   rw [addO_new] at h'
   cases h'
   exact hu
  ·rw [addO_old (by omega)] at h'
   exact h0 o' h'
 frz:=fun b h=>h
 new:=fun b h=>.inl h
 vis:=rfl
 rho:=fun i p hp=>by
  by_cases hi:i = n
  ·subst hi; rw [hn] at hp; cases hp
  ·simp only [Cx.addO]; rw [upd_ne hi]; exact hp
theorem addO_inv {o:Obj} {m:Nat} (hI:Inv C H) (hn:C.ρ n = none) {nb:Blk} (hb:OwnAt (C.addO n o m) n nb) (hu:Unf o:=by exact trivial):Inv (C.addO n o m) (upd H n nb) where
 own:=fun i=>by
  by_cases hi:i = n
  ·subst hi; rw [upd_self]; exact hb
  ·rw [upd_ne hi]
   exact OwnAt_ext (addO_ext (fun _=>False) hn hu) ⟨fun _ _ h=>h,fun _ _ h=>h,hI.frz,hI.vis⟩ (hI.own i) (fun _ _ _ h=>h)
 inj:=fun i j b k l hi hj hri hrj=>by
  have old:∀i k,i≠n→(upd H n nb i).live→(C.addO n o m).ρ i = some (some b,k)→(H i).live∧C.ρ i = some (some b,k)∧b < C.w.heap.size:=by
   intro i k hne hl hr
   rw [upd_ne hne] at hl
   simp only [Cx.addO] at hr
   rw [upd_ne hne] at hr
   exact ⟨hl,hr,hI.lt hl hr⟩
  have new:∀k,(C.addO n o m).ρ n = some (some b,k)→b = C.w.heap.size:=by
   intro k hr
   simp only [Cx.addO] at hr
   rw [upd_self] at hr
   cases hr
   rfl
  by_cases h1:i = n
  ·by_cases h2:j = n
   ·rw [h1,h2]
   ·subst h1
    have:=new _ hri
    have:=(old j l h2 hj hrj).2.2
    omega
  ·by_cases h2:j = n
   ·subst h2
    have:=new _ hrj
    have:=(old i k h1 hi hri).2.2
    omega
   ·obtain ⟨a1,a2,_⟩:=old i k h1 hi hri
    obtain ⟨b1,b2,_⟩:=old j l h2 hj hrj
    exact hI.inj i j b k l a1 b1 a2 b2
 frz:=fun b hb=>by have:=hI.frz b hb; simp only [Cx.addO,World.size_alloc]; exact Nat.lt_succ_of_lt this
 vis:=fun b hb=>by have:=hI.vis b hb; simp only [Cx.addO,World.size_alloc]; exact Nat.lt_succ_of_lt this
theorem makeMap_ok {t it:TypeId} (ht:P.underlying t = some (.map it it)) (hI:Inv C H) (hn:C.ρ n = none) {r:Option Value} (hr:∀v,r = some v→∃a,v = .int .i64 a) :
  ∃v w',(Instr.makeMap t r).run P C.w = .ok v w'∧∃C',Left C H n ⟨none,.v (.c (.mp n)),[],[(n,.mp [])],Nat.succ n⟩ v w' C':=by
 have hρ:(C.addO n (.map #[] 0) 0).ρ n = some (some C.w.heap.size,0):=by simp only [Cx.addO]; exact upd_self _ _ _
 refine ⟨.map (some C.w.heap.size),C.w.alloc (.map #[] 0),?_,C.addO n (.map #[] 0) 0,rfl,?_,?_,addO_ext _ hn,fun i p hp=>?_⟩
 ·cases r with
  | none=>simp [Instr.makeMap]
  | some v =>
   obtain ⟨a,rfl⟩:=hr v rfl
   simp [Instr.makeMap,run_underlying ht,asInt,asIntOf]
 ·exact ⟨_,_,hρ,rfl⟩
 ·exact addO_inv hI hn ⟨_,_,hρ,fun h=>Nat.lt_irrefl _ (hI.frz _ h),fun h=>Nat.lt_irrefl _ (hI.vis _ h),addO_new⟩
 ·simp only [Cx.addO] at hp
  by_cases hi:i = n
  ·subst hi
   rw [upd_self] at hp
   cases hp
   exact .inr ⟨Nat.le_refl _,Nat.lt_succ_self _,fun b hb=>.inr (by cases hb; exact Nat.le_refl _)⟩
  ·rw [upd_ne hi] at hp
   exact .inl hp
def Cx.setO (C:Cx) (b:Nat) (o:Obj):Cx:=⟨{ C.w with heap:=C.w.heap.setIfInBounds b o },C.frz,C.vis,C.ρ⟩
theorem setO_ext {b:Nat} {o:Obj} {es:Array MapEntry} {k:Nat} (hg:C.w.heap[b]? = some (.map es k)) (T:Nat→Prop) (hT:T b) (hu:Unf o:=by exact trivial):Ext T C (C.setO b o) where
 os:=rfl
 tape:=rfl
 output:=rfl
 size:=by simp [Cx.setO]
 blk:=fun k hk hn=>by
  have hne:b≠k:=fun h=>hn (by rw [← h]; exact hT)
  show (C.w.heap.setIfInBounds b o)[k]? = _
  rw [Array.getElem?_setIfInBounds_ne hne]
 shp:=fun k cs t h=>by
  by_cases hk:b = k
  ·subst hk
   rw [hg] at h
   cases h
  ·refine ⟨cs,?_,rfl⟩
   show (C.w.heap.setIfInBounds b o)[k]? = _
   rw [Array.getElem?_setIfInBounds_ne hk]
   exact h
 unf:=fun k o' h0 h'=>by
  by_cases hk:b = k
  ·subst hk
   have h2:(C.w.heap.setIfInBounds b o)[b]? = some o':=h'
   rw [Array.getElem?_setIfInBounds_self_of_lt (lt_of_block hg)] at h2
   cases h2
   exact hu
  ·refine h0 o' (Eq.trans ?_ h')
   show _ = (C.w.heap.setIfInBounds b o)[k]?
   rw [Array.getElem?_setIfInBounds_ne hk]
 frz:=fun b h=>h
 new:=fun b h=>.inl h
 vis:=rfl
 rho:=fun i p hp=>hp
theorem setO_inv {i b m k:Nat} {o:Obj} {es:Array MapEntry} (hI:Inv C H) (hr:C.ρ i = some (some b,m)) (hl:(H i).live) (hg:C.w.heap[b]? = some (.map es k)) {nb:Blk} (hb:OwnAt (C.setO b o) i nb) (hu:Unf o:=by exact trivial):Inv (C.setO b o) (upd H i nb) where
 own:=fun j=>by
  by_cases hj:j = i
  ·subst hj; rw [upd_self]; exact hb
  ·rw [upd_ne hj]
   by_cases hlj:(H j).live
   ·refine OwnAt_ext (T:=fun k=>k = b) (setO_ext hg _ rfl hu) (hI.off (fun k hk=>⟨i,m,hl,by rw [hk]; exact hr⟩)) (hI.own j) (fun b' n hb' he=>hj ?_)
    subst he
    exact hI.inj j i _ _ _ hlj hl hb' hr
   ·cases hH:H j with
    | dead=>trivial
    | raw m cs=>rw [hH] at hlj; exact absurd trivial hlj
    | arr a=>rw [hH] at hlj; exact absurd trivial hlj
    | mp l=>rw [hH] at hlj; exact absurd trivial hlj
 inj:=fun j k b' n l hj hk hrj hrk=>by
  have key:∀j,(upd H i nb j).live→(H j).live:=by
   intro j h
   by_cases hj:j = i
   ·subst hj; exact hl
   ·rw [upd_ne hj] at h; exact h
  exact hI.inj j k b' n l (key j hj) (key k hk) hrj hrk
 frz:=fun b hb=>by have:=hI.frz b hb; simpa [Cx.setO] using this
 vis:=fun b hb=>by have:=hI.vis b hb; simpa [Cx.setO] using this
theorem update_ok {t it:TypeId} (ht:P.underlying t = some (.map it it)) (hi:P.underlying it = some (.int .i64)) (hI:Inv C H) {i:Nat} {l:List Int} {j x:Int} {v:Value} (hH:H i = .mp l) (hv:cellR C (.mp i) v) (hj:1≤j∧j≤(l.length:Int) + 1) :
  ∃w',(Instr.mapUpdate t v (.int .i64 j) (.int .i64 x)).run P C.w = .ok () w'∧∃C',Left C H n ⟨some (1≤j∧j≤(l.length:Int) + 1),.top,[i],[(i,.mp (mpSet l j x))],n⟩ undef w' C':=by
 have ho:=hI.own i
 rw [hH] at ho
 obtain ⟨b,m,h1,h2,h3,h4⟩:=ho
 obtain ⟨b',m',h5,rfl⟩:=hv
 rw [h1] at h5
 cases h5
 have hlv:(H i).live:=by rw [hH]; trivial
 refine ⟨_,update_run ht hi C.w h4 hj,C.setO b (Obj.map (mpL 0 (mpSet l j x)).toArray (mpSet l j x).length),rfl,trivial,?_,setO_ext h4 _ ⟨i,m,by simp,hlv,h1⟩,fun i p hp=>.inl hp⟩
 refine setO_inv hI h1 hlv h4 ⟨b,m,h1,h2,h3,?_⟩
 show (C.w.heap.setIfInBounds b _)[b]? = _
 rw [Array.getElem?_setIfInBounds_self_of_lt (lt_of_block h4)]
theorem lookup_ok {t it:TypeId} (ht:P.underlying t = some (.map it it)) (hi:P.underlying it = some (.int .i64)) (hz:(zeroValue it).run P C.w = .ok (.int .i64 0) C.w) (hI:Inv C H) {i:Nat} {l:List Int} {j:Int} {v:Value} (hH:H i = .mp l) (hv:cellR C (.mp i) v) (hj:1≤j) :
  (Instr.lookup t v (.int .i64 j) false).run P C.w = .ok (.int .i64 (l.getD (j - 1).toNat 0)) C.w:=by
 have ho:=hI.own i
 rw [hH] at ho
 obtain ⟨b,m,h1,h2,h3,h4⟩:=ho
 obtain ⟨b',m',h5,rfl⟩:=hv
 rw [h1] at h5
 cases h5
 exact lookup_run ht hi C.w hz h4 hj
end
end Hw
end Go.Proofs.YtklmllaggigkfaaGreat
