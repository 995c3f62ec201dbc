/- The law of a play, exactly: its calls. -/
import Derived.Shelf.Abstract
import Derived.RangeFuncBox
import Derived.WalkKit
import Derived.OwnWalkIn
import Derived.TacticsInMore
import Derived.LoopNIn
import Derived.LoopIn
import Derived.Test.YtklmllaggigkfaaGreatPYI
import Derived.Test.YtklmllaggigkfaaGreatPYQ
namespace Go.Proofs.YtklmllaggigkfaaGreat
namespace Hw
open Go Go.RowKit
attribute [local go_sem] Oper.semAt_some
set_option maxRecDepth 100000
set_option linter.unusedVariables false
set_option linter.unusedSimpArgs false
set_option maxHeartbeats 10000000
theorem eq_ints {l:List Int} (h:(l.length:Int)≤9223372036854775807):ZdO.S l l = true:=by
 unfold ZdO.S
 rcases ZdN.law l l false () l.length rfl h with ⟨q1,q2⟩ | ⟨k,r,hk,q1,-,q2⟩
 ·rw [q2]
  simp [ZdN.fin,show Nat.beq 1 0 = false from rfl]
 ·simp [ZdN.E] at q1
theorem eq_bools {l:List Bool} (h:(l.length:Int)≤9223372036854775807):ZdU.S l l = true:=by
 unfold ZdU.S
 rcases ZdT.law l l false () l.length rfl h with ⟨q1,q2⟩ | ⟨k,r,hk,q1,-,q2⟩
 ·rw [q2]
  simp [ZdT.fin,show Nat.beq 1 0 = false from rfl]
 ·simp [ZdT.E] at q1
theorem eq_pkt {p:Pkt}:ZdQ.S p p = true:=by simp [ZdQ.S]
theorem eq_pkts {l:List Pkt} (h:(l.length:Int)≤9223372036854775807):ZdS.S l l = true:=by
 unfold ZdS.S
 rcases ZdR.law l l false () l.length rfl h with ⟨q1,q2⟩ | ⟨k,r,hk,q1,-,q2⟩
 ·rw [q2]
  simp [ZdR.fin,show Nat.beq 1 0 = false from rfl]
 ·simp [ZdR.E,eq_pkt] at q1
theorem eq_bk {b:Bk} (h:b.fact):ZdP.S b b = true:=by simp [ZdP.S,eq_ints h.1,eq_ints h.2]
theorem eq_st {s:St} (h:s.fact):ZdV.S s s = true:=by simp [ZdV.S,eq_pkts h.1,eq_bools h.2.1,eq_bools h.2.2.1,eq_ints h.2.2.2]
theorem eq_st' {l:List St} (h:stsFact l) (k:Nat):ZdV.S (l.getD k zSt) (l.getD k zSt) = true:=eq_st (sts_get h k)
theorem eq_sts {l:List St} (h:stsFact l):ZdX.S l l = true:=by
 unfold ZdX.S
 rcases ZdW.law l l false () l.length rfl h.1 with ⟨q1,q2⟩ | ⟨k,r,hk,q1,-,q2⟩
 ·rw [q2]
  simp [ZdW.fin,show Nat.beq 1 0 = false from rfl]
 ·rw [ZdW.E,eq_st' h k] at q1
  cases q1
theorem eq_ch {c:Ch} (h:c.fact):ZdY.S c c = true:=by simp [ZdY.S,eq_bk h.1,eq_st h.2.1,eq_sts h.2.2.1,eq_ints h.2.2.2]
theorem eq_chs {l:List Ch} (h:chsFact l):Zd0.S l l = true:=by
 unfold Zd0.S
 rcases ZdZ.law l l false () l.length rfl h.1 with ⟨q1,q2⟩ | ⟨k,r,hk,q1,-,q2⟩
 ·rw [q2]
  simp [ZdZ.fin,show Nat.beq 1 0 = false from rfl]
 ·rw [ZdZ.E,eq_ch (chs_get h k)] at q1
  cases q1
theorem eq_world {l:List Ch} (h:chsFact l):Zd1.S l l = true:=by simp [Zd1.S,eq_chs h]
theorem eq_event {e:Ev}:ZeA.S e e = true:=by simp [ZeA.S,eq_pkt]
theorem eq_events {l:List Ev} (h:(l.length:Int)≤9223372036854775807):ZeC.S l l = true:=by
 unfold ZeC.S
 rcases ZeB.law l l false () l.length rfl h with ⟨q1,q2⟩ | ⟨k,r,hk,q1,-,q2⟩
 ·rw [q2]
  simp [ZeB.fin,show Nat.beq 1 0 = false from rfl]
 ·simp [ZeB.E,eq_event] at q1
theorem to_events {l:List Ev} (h:l.length≤4294967296):Zez.S l = l:=by
 unfold Zez.S
 rcases Zey.law l (List.replicate ((l.length:Int)).toNat zEv) l.length rfl (by omega) with ⟨q1,q2⟩ | ⟨k,r,hk,q1,-,q2⟩
 ·rw [q2]
  refine fill_eq (z:=zEv) (acc:=Zey.acc l (List.replicate ((l.length:Int)).toNat zEv)) (by show (List.replicate ((l.length:Int)).toNat zEv).length = l.length; simp) fun k=>?_
  show (Zey.acc l _ k).set k (l.getD k zEv) = _
  rfl
 ·simp [Zey.E] at q1
theorem sz_events {l:List Ev} (hn:(l.length:Int)≤9223372036854775807) (h:¬ Zew.S l 1048576 < 0):l.length≤1048576:=by
 unfold Zew.S at h
 rcases Nat.lt_or_ge 1048576 l.length with g | g
 ·exfalso
  have e:wrap (1048576 - (l.length:Int)) = 1048576 - (l.length:Int):=wrap_id (by omega) (by omega)
  rw [e,decide_eq_true (by omega),cond_true] at h
  exact h (by decide)
 ·exact g
def EAt (W:World) (F:Nat→Prop) (l:List Ev) (v:Value):Prop:=(∀b,F b→b < W.heap.size)∧arrR W F 4 (.evs l) v
theorem EAt.mk {R F:Nat→Prop} {w W:World} {l:List Ev} {v:Value} (h:EAt w F l v) (k:Mk R w W) (hd:∀b,F b→¬ R b):EAt W F l v :=
 ⟨fun b hb=>Nat.lt_of_lt_of_le (h.1 b hb) k.size,arrR_ext (fun _ h=>h) (fun b hb=>k.block b (h.1 b hb) (hd b hb)) 4 _ _ h.2⟩
theorem EAt.arg {F:Nat→Prop} {W:World} {l:List Ev} {v:Value} (h:EAt W F l v):fvR (C1 W) (.c (.arr false (.evs l))) v:=arrR_ext (S':=inW W) h.1 (fun _ _=>rfl) 4 _ _ h.2
theorem EAt.sl {F:Nat→Prop} {W:World} {l:List Ev} {v:Value} (h:EAt W F l v):∃A c,v = .slice A l.length c:=by
 obtain ⟨-,A,c,rfl,-⟩:=h
 exact ⟨A,c,rfl⟩
theorem evs_len {F:Nat→Prop} {W:World} {l:List Ev} {v:Value} (h:EAt W F l v):(l.length:Int)≤9223372036854775807:=by
 obtain ⟨-,A,c,-,-,h2,-⟩:=h
 exact h2
section
variable {n:Nat} {W:World} {F G:Nat→Prop} {l:List Ev} {w:List Ch} {v u:Value} {k:Int}
theorem toE (hv:EAt W F l v) (hs:l.length≤4294967296):CallsIn Fence.wide n Tryz.prog 8 #[v] W fun e W'=>∃u F',e = .returned u∧EAt W' F' l u∧(∀b,F' b→W.heap.size≤b)∧Nw W W':=by
 refine (callsIn_wide.2 (vcall Zez.good ((l,()):Zez.L.α) rfl (fun p h=>by cases h; exact hs) (W:=W) (vs:=[v]) ⟨hv.arg,trivial⟩)).mono ?_
 rintro e W' ⟨u,C',rfl,rfl,h1,h2,h3,h4,h5⟩
 have h1:cellR C' (.own 0 11 48) u:=h1
 have h4:Inv C' (hpOf [.arr (.evs (Zez.S l))]):=h4
 rw [to_events hs] at h4
 have h10:cellR (C'.fz [0]) (.arr true (.evs l)) u:=last_R (H:=hpOf [.arr (.evs l)]) h4 rfl h1 (fun i hi=>hi)
 have h12:=fz_inv (js:=[0]) h4 (fun j hj=>by
  simp only [List.mem_singleton] at hj
  subst hj
  exact trivial)
 refine ⟨u,(C'.fz [0]).frz,rfl,⟨h12.frz,h10⟩,fun b hb=>?_,h3⟩
 rcases hb with hb | ⟨j,m,-,hb⟩
 ·exact (h2 b hb).1
 ·exact h5 j b m hb
theorem szE (hv:EAt W F l v):CallsIn Fence.wide n Tryz.prog 6 #[v,.int .i64 k] W fun e W'=>e = .returned (.int .i64 (Zew.S l k))∧Nw W W':=by
 refine (callsIn_wide.2 (vcall Zew.good ((l,k,()):Zew.L.α) rfl (fun p h=>by cases h) (W:=W) (vs:=[v,.int .i64 k]) ⟨hv.arg,rfl,trivial⟩)).mono ?_
 rintro e W' ⟨u,C',rfl,rfl,h1,h2,h3,-,-⟩
 have h1:u = .int .i64 (Zew.S l k):=h1
 exact ⟨by rw [h1],h3⟩
theorem eqE (hv:EAt W F l v) (hu:EAt W G l u):CallsIn Fence.wide n Tryz.prog 11 #[v,u] W fun e W'=>e = .returned (.bool true)∧Nw W W':=by
 refine (callsIn_wide.2 (vcall ZeC.good ((l,l,()):ZeC.L.α) rfl (fun p h=>by cases h) (W:=W) (vs:=[v,u]) ⟨hv.arg,hu.arg,trivial⟩)).mono ?_
 rintro e W' ⟨x,C',rfl,rfl,h1,h2,h3,-,-⟩
 have h1:x = .bool (ZeC.S l l):=h1
 exact ⟨by rw [h1,eq_events (evs_len hv)],h3⟩
theorem eqW (hv:WAt W F w v) (hu:WAt W G w u) (hf:chsFact w):CallsIn Fence.wide n Tryz.prog 10 #[v,u] W fun e W'=>e = .returned (.bool true)∧Nw W W':=by
 refine (callsIn_wide.2 (vcall Zd1.good ((w,w,()):Zd1.L.α) rfl (fun p h=>by cases h) (W:=W) (vs:=[v,u]) ⟨hv.arg,hu.arg,trivial⟩)).mono ?_
 rintro e W' ⟨x,C',rfl,rfl,h1,h2,h3,-,-⟩
 have h1:x = .bool (Zd1.S w w):=h1
 exact ⟨by rw [h1,eq_world hf],h3⟩
end
def EvsM (W:World) (R:Nat→Prop) (n:Nat) (v:Value):Prop:=RowW W R v n 11 fun _ _ u=>isI u
theorem evsM_of {F:Nat→Prop} {W:World} {l:List Ev} {v:Value} (h:EAt W F l v):EvsM W F l.length v:=by
 refine RowW.mk (Mk.refl F W) (fun i j u x hl hp=>?_) (evsW_of (d:=3) h.2)
 refine isI.like ?_ hl
 have hj:j < 11:=(List.getElem?_eq_some_iff.1 hp).1
 match j,hj,hp with
 | 0,_,hp=>cases hp; exact ⟨_,rfl⟩
 | 1,_,hp=>cases hp; exact ⟨_,rfl⟩
 | 2,_,hp=>cases hp; exact ⟨_,rfl⟩
 | 3,_,hp=>cases hp; exact ⟨_,rfl⟩
 | 4,_,hp=>cases hp; exact ⟨_,rfl⟩
 | 5,_,hp=>cases hp; exact ⟨_,rfl⟩
 | 6,_,hp=>cases hp; exact ⟨_,rfl⟩
 | 7,_,hp=>cases hp; exact ⟨_,rfl⟩
 | 8,_,hp=>cases hp; exact ⟨_,rfl⟩
 | 9,_,hp=>cases hp; exact ⟨_,rfl⟩
 | 10,_,hp=>cases hp; exact ⟨_,rfl⟩
theorem markEvs_in (F:Fence) (n:Nat) (hf:F.fn 12) (hro:F.round = none) (R:Nat→Prop) (l:Nat) (v:Value) (k:Int) (W:World) (hu:UnfR R W) (hv:EvsM W R l v) (h0:0≤k) (hk:k + 11 * (l:Int)≤9223372036854775807) (hreach:l * 88≤140737488351232) :
  CallsIn F n Tryz.prog 12 #[v,.int .i64 k] W fun e W'=>e = .returned (.int .i64 (k + 11 * l))∧Mk R W W':=by
 obtain ⟨A,c,rfl,hl,hrow⟩:=hv
 refine callsIn_of_wp Tryz.func12 rfl hf ?_ hro
 simp only [Tryz.ntmps12,List.size_toArray,List.length_cons,List.length_nil,Nat.reduceAdd,Nat.reduceSub,Array.replicate_succ,Array.replicate_zero,List.push_toArray,List.append_toArray,List.nil_append,List.cons_append]
 gi_wp2
 gi_loopw [1,5] (fun kk i wr=>∃j:Nat,j≤l∧kk = .int .i64 (k + 11 * j)∧i = .int .i64 j∧Mk R W wr)
  (fun _ i _=>l - (intOf i).toNat)
 case atStart=>exact ⟨0,Nat.zero_le _,by simp,rfl,Mk.refl _ _⟩
 case round =>
  obtain ⟨j,hj,rfl,rfl,hm⟩:=hrel
  by_cases hlt:j < l
  ·obtain ⟨b,off,rfl,hR,hc⟩:=hrow (by omega)
   have key:∀i,i < 11→∃y,wr.cell? ⟨b,off + j * 11 + i,none⟩ = some (.int .i64 y):=fun i hi=>by
    obtain ⟨u,hu1,x,rfl⟩:=hc j hlt i hi
    rw [← Nat.add_assoc] at hu1
    obtain ⟨u2,hc2,hl2⟩:=hm.cell _ _ hu1
    obtain ⟨y,rfl⟩:=isI.like ⟨x,rfl⟩ hl2
    exact ⟨y,hc2⟩
   have hz:∀o,wr.frozen? ⟨b,o,none⟩ = false:=fun o=>(hu.mk hm).at hR
   obtain ⟨y0,c0⟩:=key 0 (by decide)
   obtain ⟨y1,c1⟩:=key 1 (by decide)
   obtain ⟨y2,c2⟩:=key 2 (by decide)
   obtain ⟨y3,c3⟩:=key 3 (by decide)
   obtain ⟨y4,c4⟩:=key 4 (by decide)
   obtain ⟨y5,c5⟩:=key 5 (by decide)
   obtain ⟨y6,c6⟩:=key 6 (by decide)
   obtain ⟨y7,c7⟩:=key 7 (by decide)
   obtain ⟨y8,c8⟩:=key 8 (by decide)
   obtain ⟨y9,c9⟩:=key 9 (by decide)
   obtain ⟨y10,c10⟩:=key 10 (by decide)
   have c0:wr.cell? ⟨b,off + j * 11,none⟩ = some (.int .i64 y0):=c0
   have z0:=hz (off + j * 11)
   have c1:wr.cell? ⟨b,off + j * 11 + 1,none⟩ = some (.int .i64 y1):=c1
   have z1:=hz (off + j * 11 + 1)
   have c2:wr.cell? ⟨b,off + j * 11 + 2,none⟩ = some (.int .i64 y2):=c2
   have z2:=hz (off + j * 11 + 2)
   have c3:wr.cell? ⟨b,off + j * 11 + 3,none⟩ = some (.int .i64 y3):=c3
   have z3:=hz (off + j * 11 + 3)
   have c4:wr.cell? ⟨b,off + j * 11 + 4,none⟩ = some (.int .i64 y4):=c4
   have z4:=hz (off + j * 11 + 4)
   have c5:wr.cell? ⟨b,off + j * 11 + 4 + 1,none⟩ = some (.int .i64 y5):=c5
   have z5:=hz (off + j * 11 + 4 + 1)
   have c6:wr.cell? ⟨b,off + j * 11 + 4 + 2,none⟩ = some (.int .i64 y6):=c6
   have z6:=hz (off + j * 11 + 4 + 2)
   have c7:wr.cell? ⟨b,off + j * 11 + 4 + 3,none⟩ = some (.int .i64 y7):=c7
   have z7:=hz (off + j * 11 + 4 + 3)
   have c8:wr.cell? ⟨b,off + j * 11 + 4 + 4,none⟩ = some (.int .i64 y8):=c8
   have z8:=hz (off + j * 11 + 4 + 4)
   have c9:wr.cell? ⟨b,off + j * 11 + 4 + 5,none⟩ = some (.int .i64 y9):=c9
   have z9:=hz (off + j * 11 + 4 + 5)
   have c10:wr.cell? ⟨b,off + j * 11 + 4 + 6,none⟩ = some (.int .i64 y10):=c10
   have z10:=hz (off + j * 11 + 4 + 6)
   clear hrow hc key hz
   gi_wp2
   go_roundw
   case rel =>
    refine ⟨j + 1,by omega,?_,?_,hm.trans ((((((((((((Mk.refl R wr).put hR c0).put hR c1).put hR c2).put hR c3).put hR c4).put hR c5).put hR c6).put hR c7).put hR c8).put hR c9).put hR c10)⟩
    ·rw [show k + 11 * (j:Int) + 1 + 1 + 1 + 1 + 1 + 1 + 1 + 1 + 1 + 1 + 1 = k + 11 * ((j + 1:Nat):Int) by omega]
    ·rw [show (j:Int) + 1 = ((j + 1:Nat):Int) by omega]
   case measure=>simp [intOf]; omega
  ·obtain rfl:j = l:=by omega
   gi_wp2
   go_ret
   exact ⟨rfl,hm⟩
end Hw
end Go.Proofs.YtklmllaggigkfaaGreat
namespace Go.Proofs.YtklmllaggigkfaaGreat
namespace Hw
open Go Go.RowKit
attribute [local go_sem] Oper.semAt_some
set_option maxRecDepth 100000
set_option linter.unusedVariables false
set_option linter.unusedSimpArgs false
set_option maxHeartbeats 10000000
structure SpL (es:List Ev) (L:List Ch) (t:Bool):Prop where
 yes:es.length≤60→t = true∧∃a b,L = [a,b]∧PlayS es a b
 no:¬ es.length≤60→t = false∧L = []
structure ImL (es:List Ev) (L:List Ch) (t:Bool):Prop where
 yes:es.length≤60→t = true∧∃l o,L = [lkChain l,lkChain o]∧PlayP es l o
 no:¬ es.length≤60→t = false∧L = []
theorem play_eq {es:List Ev} {L L':List Ch} {t t':Bool} (s:SpL es L t) (i:ImL es L' t'):L' = L∧t' = t:=by
 by_cases h:es.length≤60
 ·obtain ⟨rfl,a,b,rfl,hs⟩:=s.yes h
  obtain ⟨rfl,l,o,rfl,hi⟩:=i.yes h
  obtain ⟨rfl,rfl⟩:=play_same hi hs
  exact ⟨rfl,rfl⟩
 ·obtain ⟨rfl,rfl⟩:=s.no h
  obtain ⟨rfl,rfl⟩:=i.no h
  exact ⟨rfl,rfl⟩
theorem stN_ok {s:St} (h:StOk s):stN s≤100:=by
 have h1:=h.2.2.1
 have h2:=h.2.2.2.1
 have h3:=h.2.2.2.2.1
 have h4:=h.2.2.2.2.2.1
 unfold stN
 omega
theorem stsN_ok {l:List St} (h:∀k,k < l.length→StOk (l.getD k zSt)):∀k,k≤l.length→stsN l k≤100 * k
 | 0,_=>Nat.le_refl _
 | k + 1,hk=>by
  have h1:=stsN_ok h k (by omega)
  have h2:=stN_ok (h k (by omega))
  show stsN l k + stN (l.getD k zSt)≤_
  omega
theorem chN_ok {c:Ch} (h:ChOk c):chN c≤10000:=by
 have h1:=stsN_ok h.2.2.2.2.1 _ (Nat.le_refl _)
 have h2:=h.2.2.2.1
 have h3:=kn_le h.2.2.2.2.2
 have h4:=h.2.1.1.1
 have h5:=h.2.1.2.1.1
 have h6:=h.2.2.1
 have a1:=h6.2.2.1
 have a2:=h6.2.2.2.1
 have a3:=h6.2.2.2.2.1
 have a4:=h6.2.2.2.2.2.1
 unfold chN
 omega
theorem ch_fact {c:Ch} (h:ChOk c):c.fact:=by
 have h2:=h.2.2.2.1
 have h3:=kn_le h.2.2.2.2.2
 have hs:∀{s:St},StOk s→s.fact:=fun {s} k=>by
  have a1:=k.2.2.1
  have a2:=k.2.2.2.1
  have a3:=k.2.2.2.2.1
  have a4:=k.2.2.2.2.2.1
  unfold St.fact big
  omega
 refine ⟨⟨?_,?_⟩,hs h.2.2.1,⟨?_,fun s hm=>?_⟩,?_⟩
 ·have:=h.2.1.1.1; unfold big; omega
 ·have:=h.2.1.2.1.1; unfold big; omega
 ·unfold big; omega
 ·obtain ⟨k,hk,rfl⟩:=List.getElem_of_mem hm
  have:=h.2.2.2.2.1 k hk
  rw [List.getD_eq_getElem?_getD,List.getElem?_eq_getElem hk] at this
  exact hs this
 ·unfold big; omega
structure LsOk (L:List Ch):Prop where
 n:chsN L L.length≤20000
 f:chsFact L
 s:∀j,j < L.length→(L.getD j zCh).st.sent.length≤4294967296∧∀i,i < (L.getD j zCh).past.length→((L.getD j zCh).past.getD i zSt).sent.length≤4294967296
theorem ls_ok {es : List Ev} {L : List Ch} {t : Bool} (i : ImL es L t) : LsOk L := by
  by_cases h : es.length ≤ 60
  · obtain ⟨-, l, o, rfl, hi⟩ := i.yes h
    obtain ⟨hl, ho⟩ := play_ok hi
    refine ⟨?_, ⟨(by decide : (2 : Int) ≤ big), fun c hm => ?_⟩, fun j hj => ?_⟩
    · have h1 := chN_ok hl.ok
      have h2 := chN_ok ho.ok
      show 0 + chN (lkChain l) + chN (lkChain o) ≤ 20000
      omega
    · rcases List.mem_cons.1 hm with rfl | hm
      · exact ch_fact hl.ok
      · rw [List.mem_singleton.1 hm]
        exact ch_fact ho.ok
    · have key : ∀ c, ChOk c → c.st.sent.length ≤ 4294967296 ∧ ∀ i, i < c.past.length → (c.past.getD i zSt).sent.length ≤ 4294967296 := fun c hc => by
        refine ⟨?_, fun i hi => ?_⟩
        · have := hc.2.2.1.2.2.1
          omega
        · have := (hc.2.2.2.2.1 i hi).2.2.1
          omega
      match j, hj with
      | 0, _ => exact key _ hl.ok
      | 1, _ => exact key _ ho.ok
      | j + 2, hj => exact absurd hj (by show ¬ j + 2 < 2; omega)
  · obtain ⟨-, rfl⟩ := i.no h
    exact ⟨by decide, ⟨by decide, fun c hm => by simp at hm⟩, fun j hj => absurd hj (Nat.not_lt_zero j)⟩
theorem unfR_new {F:Nat→Prop} {w W:World} (h:Nw w W) (hF:∀b,F b→w.heap.size≤b):UnfR F W:=fun b hb=>h.unf b fun o ho=>absurd (lt_of_block ho) (by have:=hF b hb; omega)
structure WsA (hi:Nat) (W:World) (l:List Ch) (g:Value):Prop where
 r:∃F,(∀b,F b→b < hi)∧WAt W F l g
theorem WsA.to {hi:Nat} {R:Nat→Prop} {W W':World} {l:List Ch} {g:Value} (h:WsA hi W l g) (k:Mk R W W') (hR:∀b,R b→hi≤b):WsA hi W' l g:=by
 obtain ⟨F,h1,h2⟩:=h
 exact ⟨F,h1,h2.mk k fun b h3 h4=>by have:=h1 b h3; have:=hR b h4; omega⟩
structure WlA (lo hi:Nat) (W:World) (l:List Ch) (x:Value):Prop where
 r:∃F pc,(∀b,F b→lo≤b∧b < hi)∧UnfR F W∧WAt W F l (.agg #[x])∧WldP W pc l x
theorem WlA.to {lo hi:Nat} {R:Nat→Prop} {W W':World} {l:List Ch} {x:Value} (h:WlA lo hi W l x) (k:Mk R W W') (hR:∀b,R b→b < lo∨hi≤b):WlA lo hi W' l x:=by
 obtain ⟨F,pc,h1,h2,h3,h4⟩:=h
 have hd:∀b,F b→¬ R b:=fun b h5 h6=>by
  have:=h1 b h5
  rcases hR b h6 with h | h <;> omega
 obtain ⟨h5,y,e,h6⟩:=id h3
 have:x = y:=by
  have:=Value.agg.inj e
  exact congrArg (fun a:Array Value=>a.getD 0 x) this
 subst this
 exact ⟨F,pc,h1,h2.mk k,h3.mk k hd,h4.ext h6 fun b hb=>k.block b (h5 b hb) (hd b hb)⟩
theorem WldN.wla {W0 W:World} {l:List Ch} {x:Value} (h:WldN W0 W l (.agg #[x])):WlA W0.heap.size W.heap.size W l x:=by
 obtain ⟨n,F,pc,y,e,h1,h2,h3⟩:=h
 have:x = y:=by
  have:=Value.agg.inj e
  exact congrArg (fun a:Array Value=>a.getD 0 x) this
 subst this
 exact ⟨F,pc,fun b hb=>⟨h1 b hb,h2.1 b hb⟩,unfR_new n h1,h2,h3⟩
structure HeldA (W:World) (l:List Ch) (x:Value):Prop where
 r:∃R,ChsW W R l x∧Held W (wldA W x l l.length) 1
theorem HeldA.nx {W W':World} {l:List Ch} {x:Value} (h:HeldA W l x) (k:Nw W W'):HeldA W' l x:=by
 obtain ⟨R,h1,h2⟩:=h
 refine ⟨R,h1.mk k,?_⟩
 rw [wld_keep h1 k]
 exact fun i a hi=>k.keep (fun h=>h) (h2 i a hi)
section
variable {w:World} {S:Nat→Prop} {d:Nat} {v:Value}
theorem chsW_of {l:List Ch} (h:arrR w S (d + 3) (.chs l) v):ChsW w S l v:=rowW_of h rfl rfl (by decide) fun k hk j hj=>by
 match j,hj with
 | 0,_=>exact ⟨_,rfl,fun u hu=>⟨_,hu⟩⟩
 | 1,_=>exact ⟨_,rfl,fun u hu=>intsW_of (d:=d + 1) hu⟩
 | 2,_=>exact ⟨_,rfl,fun u hu=>intsW_of (d:=d + 1) hu⟩
 | 3,_=>exact ⟨_,rfl,fun u hu=>⟨_,hu⟩⟩
 | 4,_=>exact ⟨_,rfl,fun u hu=>⟨_,hu⟩⟩
 | 5,_=>exact ⟨_,rfl,fun u hu=>⟨_,hu⟩⟩
 | 6,_=>exact ⟨_,rfl,fun u hu=>⟨_,hu⟩⟩
 | 7,_=>exact ⟨_,rfl,fun u hu=>pktsW_of (d:=d + 1) hu⟩
 | 8,_=>exact ⟨_,rfl,fun u hu=>boolsW_of (d:=d + 1) hu⟩
 | 9,_=>exact ⟨_,rfl,fun u hu=>boolsW_of (d:=d + 1) hu⟩
 | 10,_=>exact ⟨_,rfl,fun u hu=>intsW_of (d:=d + 1) hu⟩
 | 11,_=>exact ⟨_,rfl,fun u hu=>stsW_of (d:=d) hu⟩
 | 12,_=>exact ⟨_,rfl,fun u hu=>intsW_of (d:=d + 1) hu⟩
end
section
variable {n:Nat} {W:World} {F:Nat→Prop} {es:List Ev} {l:List Ch} {v x:Value}
theorem markA {lo hi:Nat} (hn:3≤n) (h:WlA lo hi W l x) (ho:LsOk l) :
  CallsIn Fence.wide n Tryz.prog 13 #[.agg #[x],.int .i64 1] W fun e W'=>e = .returned (.int .i64 (1 + chsN l l.length))∧(∃R,Mk R W W'∧∀b,R b→lo≤b∧b < hi)∧HeldA W' l x:=by
 obtain ⟨R,pc,h1,h2,⟨h3,y,e,h4⟩,h5⟩:=h
 have:x = y:=by
  have:=Value.agg.inj e
  exact congrArg (fun a:Array Value=>a.getD 0 x) this
 subst this
 have hc:ChsW W R l x:=chsW_of (d:=1) h4
 have hon:=ho.n
 refine (markWorld_ex Fence.wide n trivial trivial trivial trivial trivial trivial rfl hn R l x 1 W h2 hc (by decide) (by omega) ho.s).mono ?_
 rintro e W' ⟨rfl,hm,rfl⟩
 refine ⟨rfl,⟨R,hm,h1⟩,R,hc.mk hm,?_⟩
 rw [wld_keep hc hm]
 have hL:=loc_wld hc h5
 have k:Nw W (W.alloc (.cells #[x] 26)):=Mk.alloc W rfl
 refine held_put (R:=R) (f:=num l pc) fun i a hi=>?_
 obtain ⟨g1,g2,g3⟩:=hL i a hi
 refine ⟨?_,g2,g3⟩
 obtain ⟨u,hu⟩:=Option.isSome_iff_exists.1 g1
 rw [k.keep (fun h=>h) hu]
 rfl
theorem heldA (hn:3≤n) (h:HeldA W l x) (ho:LsOk l) :
  CallsIn Fence.wide n Tryz.prog 14 #[.agg #[x],.int .i64 1] W fun e W'=>e = .returned (.int .i64 (1 + chsN l l.length))∧Nw W W':=by
 obtain ⟨R,h1,h2⟩:=h
 have hon:=ho.n
 refine (heldWorld_ex Fence.wide n trivial trivial trivial trivial trivial trivial rfl hn R l x 1 W h1 h2 (by decide) (by omega) ho.s).mono ?_
 rintro e W' ⟨rfl,rfl⟩
 exact ⟨rfl,Mk.alloc W rfl⟩
theorem spC (h:EAt W F es v):CallsIn Fence.wide 10 Tryz.prog 7 #[v] W fun e W'=>∃A c L t,e = .returned (.tuple #[.agg #[.slice A L.length c],.bool t])∧SpL es L t∧Nw W W'∧WsA W'.heap.size W' L (.agg #[.slice A L.length c]):=by
 obtain ⟨A,c,rfl⟩:=h.sl
 refine (splay_in rfl (evsW_of (d:=3) h.2)).mono ?_
 have key:∀{W':World} {L:List Ch} {g:Value},WdN W W' L g→∃A c,g = .agg #[.slice A L.length c]∧Nw W W'∧WsA W'.heap.size W' L g:=fun {W' L g} hd=>by
  obtain ⟨h1,F,h2,h3⟩:=hd
  obtain ⟨h4,y,rfl,A,c,rfl,h5⟩:=id h3
  exact ⟨A,c,rfl,h1,F,h4,h3⟩
 rintro e W' ⟨g,t,rfl,hy,hno⟩
 by_cases hle:es.length≤60
 ·obtain ⟨rfl,a,b,hp,hd⟩:=hy hle
  obtain ⟨A,c,rfl,k1,k2⟩:=key hd
  exact ⟨A,c,[a,b],true,rfl,⟨fun _=>⟨rfl,a,b,rfl,hp⟩,fun h=>absurd hle h⟩,k1,k2⟩
 ·obtain ⟨rfl,hd⟩:=hno hle
  obtain ⟨A,c,rfl,k1,k2⟩:=key hd
  exact ⟨A,c,[],false,rfl,⟨fun h=>absurd h hle,fun _=>⟨rfl,rfl⟩⟩,k1,k2⟩
theorem imC (h:EAt W F es v):CallsIn Fence.wide 10 Tryz.prog 9 #[v] W fun e W'=>∃A c L t,e = .returned (.tuple #[.agg #[.slice A L.length c],.bool t])∧ImL es L t∧Nw W W'∧WlA W.heap.size W'.heap.size W' L (.slice A L.length c):=by
 obtain ⟨A,c,rfl⟩:=h.sl
 refine (play_in rfl (evsW_of (d:=3) h.2)).mono ?_
 rintro e W' ⟨g,t,rfl,hy,hno⟩
 by_cases hle:es.length≤60
 ·obtain ⟨rfl,l,o,hp,hd⟩:=hy hle
  obtain ⟨A,c,rfl⟩:=hd.out
  exact ⟨A,c,[lkChain l,lkChain o],true,rfl,⟨fun _=>⟨rfl,l,o,rfl,hp⟩,fun h=>absurd hle h⟩,hd.nw,hd.wla⟩
 ·obtain ⟨rfl,hd⟩:=hno hle
  obtain ⟨A,c,rfl⟩:=hd.out
  exact ⟨A,c,[],false,rfl,⟨fun h=>absurd h hle,fun _=>⟨rfl,rfl⟩⟩,hd.nw,hd.wla⟩
theorem eqA {lo hi hi':Nat} {g:Value} (h:WlA lo hi W l x) (h':WsA hi' W l g) (ho:LsOk l):CallsIn Fence.wide n Tryz.prog 10 #[.agg #[x],g] W fun e W'=>e = .returned (.bool true)∧Nw W W':=by
 obtain ⟨F,pc,-,-,h1,-⟩:=h
 obtain ⟨F',-,h2⟩:=h'
 exact eqW h1 h2 ho.f
end
structure Bs (W0 W:World) (F0:Nat→Prop) (es:List Ev) (v:Value):Prop where
 t:Mk (fun b=>W0.heap.size≤b) W0 W
 v:EAt W F0 es v
theorem Bs.to {W0 W W':World} {F0 R:Nat→Prop} {es:List Ev} {v:Value} (h:Bs W0 W F0 es v) (k:Mk R W W') (hF:∀b,F0 b→b < W0.heap.size) (hR:∀b,R b→W0.heap.size≤b):Bs W0 W' F0 es v :=
 ⟨h.t.trans (k.sub hR),h.v.mk k fun b h1 h2=>by have:=hF b h1; have:=hR b h2; omega⟩
theorem Bs.nw {W0 W W':World} {F0:Nat→Prop} {es:List Ev} {v:Value} (h:Bs W0 W F0 es v) (k:Nw W W') (hF:∀b,F0 b→b < W0.heap.size):Bs W0 W' F0 es v:=h.to k hF fun b hb=>hb.elim
theorem Bs.below {W0 W:World} {F0:Nat→Prop} {es:List Ev} {v:Value} (h:Bs W0 W F0 es v):Below W0.heap.size W0 W:=⟨h.t.os,h.t.tape,h.t.output,h.t.size,fun k hk=>h.t.block k hk (by omega)⟩
theorem nw_alloc (w:World) (u:Value) (t:TypeId):Nw w (w.alloc (.cells #[u] t))∧(w.alloc (.cells #[u] t)).cell? ⟨w.heap.size,0,none⟩ = some u∧(w.alloc (.cells #[u] t)).heap.size = w.heap.size + 1:=by
 refine ⟨Mk.alloc w rfl,?_,by simp⟩
 unfold World.cell?
 rw [World.alloc_heap_new]
 rfl
theorem law_in (F0:Nat→Prop) (W0:World) (es:List Ev) (A:Option Addr) (n c:Nat) (hv:EAt W0 F0 es (.slice A n c)) :
  CallsIn Fence.wide 11 Tryz.prog 3 #[.slice A n c] W0 fun e W'=>e = .returned (.bool true)∧Below W0.heap.size W0 W':=by
 have hF:∀b,F0 b→b < W0.heap.size:=hv.1
 have hlen:=evs_len hv
 have B0:Bs W0 W0 F0 es (.slice A n c):=⟨Mk.refl _ _,hv⟩
 clear hv
 refine callsIn_of_wp Tryz.func3 rfl trivial ?_ rfl
 simp only [Tryz.ntmps3,List.size_toArray,List.length_cons,List.length_nil,Nat.reduceAdd,Nat.reduceSub,Array.replicate_succ,Array.replicate_zero,List.push_toArray,List.append_toArray,List.nil_append,List.cons_append]
 gi_wp2
 refine ⟨trivial,(szE B0.v).mono ?_⟩
 rintro e W1 ⟨rfl,n1⟩
 have B1:=B0.nw n1 hF
 by_cases hneg:Zew.S es 1048576 < 0
 ·gi_wp2
  go_ret
  exact ⟨rfl,B1.below⟩
 have hs:=sz_events hlen hneg
 clear B0 n1
 gi_wp2
 refine ⟨trivial,(toE B1.v (by omega)).mono ?_⟩
 rintro e W2 ⟨u1,F1,rfl,E1,-,n2⟩
 have B2:=B1.nw n2 hF
 clear B1 n2
 gi_wp2
 refine ⟨trivial,(spC E1).mono ?_⟩
 rintro e W3 ⟨As,cs,L,t,rfl,hSp,n3,S3⟩
 have B3:=B2.nw n3 hF
 have z3:=B3.t.size
 clear B2 n3 E1
 obtain ⟨n4,a4,b4⟩:=nw_alloc W3 (.slice As L.length cs) 26
 have B4:=B3.nw n4 hF
 have S4:=S3.to n4 (fun b h=>h.elim)
 clear B3 S3 n4
 gi_wp2
 generalize hW4:W3.alloc (.cells #[.slice As L.length cs] 26) = W4 at *
 clear hW4
 generalize W3.heap.size = s at *
 refine ⟨trivial,(toE B4.v (by omega)).mono ?_⟩
 rintro e W5 ⟨u2,F2,rfl,E2,f2,n5⟩
 have B5:=B4.nw n5 hF
 have S5:=S4.to n5 (fun b h=>h.elim)
 have a5:=n5.keep (fun h=>h) a4
 have U5:=unfR_new n5 f2
 have z5:=n5.size
 clear B4 S4 a4 n5
 gi_wp2
 refine ⟨trivial,(imC E2).mono ?_⟩
 rintro e W6 ⟨Ag,cg,L',t',rfl,hIm,n6,G6⟩
 obtain ⟨rfl,rfl⟩:=play_eq hSp hIm
 have hok:=ls_ok hIm
 have hon:=hok.n
 have B6:=B5.nw n6 hF
 have S6:=S5.to n6 (fun b h=>h.elim)
 have a6:=n6.keep (fun h=>h) a5
 have E6:=E2.mk n6 (fun _ _ h=>h)
 have U6:=U5.mk n6
 have z6:=n6.size
 have e2:=E2.1
 clear B5 S5 a5 n6 E2 U5
 obtain ⟨n7,g7,b7⟩:=nw_alloc W6 (.slice Ag L'.length cg) 26
 have B7:=B6.nw n7 hF
 have S7:=S6.to n7 (fun b h=>h.elim)
 have a7:=n7.keep (fun h=>h) a6
 have E7:=E6.mk n7 (fun _ _ h=>h)
 have U7:=U6.mk n7
 have G7:=G6.to n7 (fun b h=>h.elim)
 clear B6 S6 a6 E6 U6 G6 n7
 gi_wp2
 generalize hW7:W6.alloc (.cells #[.slice Ag L'.length cg] 26) = W7 at *
 clear hW7
 generalize W6.heap.size = g at *
 refine ⟨trivial,(eqA G7 S7 hok).mono ?_⟩
 rintro e W8 ⟨rfl,n8⟩
 have B8:=B7.nw n8 hF
 have S8:=S7.to n8 (fun b h=>h.elim)
 have a8:=n8.keep (fun h=>h) a7
 have g8:=n8.keep (fun h=>h) g7
 have E8:=E7.mk n8 (fun _ _ h=>h)
 have U8:=U7.mk n8
 have G8:=G7.to n8 (fun b h=>h.elim)
 have z8:=n8.size
 clear B7 S7 a7 g7 E7 U7 G7 n8
 gi_wp2
 refine ⟨trivial,(toE B8.v (by omega)).mono ?_⟩
 rintro e W9 ⟨u3,F3,rfl,E3,-,n9⟩
 have E9:=E8.mk n9 (fun _ _ h=>h)
 gi_wp2
 refine ⟨trivial,(eqE E9 E3).mono ?_⟩
 rintro e W10 ⟨rfl,n10⟩
 have nn:=n9.trans n10
 have B10:=B8.nw nn hF
 have S10:=S8.to nn (fun b h=>h.elim)
 have a10:=nn.keep (fun h=>h) a8
 have g10:=nn.keep (fun h=>h) g8
 have E10:=E8.mk nn (fun _ _ h=>h)
 have U10:=U8.mk nn
 have G10:=G8.to nn (fun b h=>h.elim)
 have z10:=nn.size
 clear B8 S8 a8 g8 E8 U8 G8 n9 n10 nn E3 E9
 gi_wp2
 refine ⟨trivial,(markEvs_in Fence.wide _ trivial rfl F2 es.length u2 1 W10 U10 (evsM_of E10) (by decide) (by omega) (by omega)).mono ?_⟩
 rintro e W11 ⟨rfl,m11⟩
 have B11:=B10.to m11 hF (fun b hb=>by have:=f2 b hb; omega)
 have S11:=S10.to m11 (fun b hb=>by have:=f2 b hb; omega)
 have a11:=m11.keep (fun h=>by have:=f2 s h; omega) a10
 have g11:=m11.keep (fun h=>by have:=e2 g h; omega) g10
 have G11:=G10.to m11 (fun b hb=>.inl (e2 b hb))
 have z11:=m11.size
 have hk0:0≤1 + 11 * (es.length:Int):=by omega
 generalize 1 + 11 * (es.length:Int) = kk at hk0 ⊢
 clear B10 S10 a10 g10 E10 U10 G10 m11
 gi_wp2
 refine ⟨trivial,(eqA G11 S11 hok).mono ?_⟩
 rintro e W12 ⟨rfl,n12⟩
 have B12:=B11.nw n12 hF
 have S12:=S11.to n12 (fun b h=>h.elim)
 have a12:=n12.keep (fun h=>h) a11
 have g12:=n12.keep (fun h=>h) g11
 have G12:=G11.to n12 (fun b h=>h.elim)
 have z12:=n12.size
 clear B11 S11 a11 g11 G11 n12
 gi_wp2
 refine ⟨trivial,(markA (by decide) G12 hok).mono ?_⟩
 rintro e W13 ⟨rfl,⟨R,m13,hR⟩,H13⟩
 have B13:=B12.to m13 hF (fun b hb=>by have:=hR b hb; omega)
 have S13:=S12.to m13 (fun b hb=>by have:=hR b hb; omega)
 have a13:=m13.keep (fun h=>by have:=hR s h; omega) a12
 have g13:=m13.keep (fun h=>by have:=hR g h; omega) g12
 have hq0:0≤1 + (chsN L' L'.length:Int):=by omega
 generalize hq:1 + (chsN L' L'.length:Int) = qq at hq0 ⊢
 have hqq:IsI qq (1 + (chsN L' L'.length:Int)):=⟨hq⟩
 clear hq B12 S12 a12 g12 G12 m13
 gi_wp2
 refine ⟨trivial,(heldA (by decide) H13 hok).mono ?_⟩
 rintro e W14 ⟨rfl,n14⟩
 rw [hqq.h]
 have B14:=B13.nw n14 hF
 have S14:=S13.to n14 (fun b h=>h.elim)
 have a14:=n14.keep (fun h=>h) a13
 have g14:=n14.keep (fun h=>h) g13
 have H14:=H13.nx n14
 clear B13 S13 a13 g13 H13 n14
 gi_wp2
 refine ⟨trivial,(toE B14.v (by omega)).mono ?_⟩
 rintro e W15 ⟨u4,F4,rfl,E4,-,n15⟩
 gi_wp2
 refine ⟨trivial,(imC E4).mono ?_⟩
 rintro e W16 ⟨Ah,ch,L2,t2,rfl,hIm2,n16,G16⟩
 obtain ⟨rfl,rfl⟩:=play_eq hSp hIm2
 have nn:=n15.trans n16
 have B16:=B14.nw nn hF
 have S16:=S14.to nn (fun b h=>h.elim)
 have a16:=nn.keep (fun h=>h) a14
 have g16:=nn.keep (fun h=>h) g14
 have H16:=H14.nx nn
 clear B14 S14 a14 g14 H14 n15 n16 nn E4
 obtain ⟨n17,h17,b17⟩:=nw_alloc W16 (.slice Ah L2.length ch) 26
 have B17:=B16.nw n17 hF
 have S17:=S16.to n17 (fun b h=>h.elim)
 have a17:=n17.keep (fun h=>h) a16
 have g17:=n17.keep (fun h=>h) g16
 have H17:=H16.nx n17
 have G17:=G16.to n17 (fun b h=>h.elim)
 clear B16 S16 a16 g16 H16 G16 n17
 gi_wp2
 generalize hW17:W16.alloc (.cells #[.slice Ah L2.length ch] 26) = W17 at *
 clear hW17
 generalize W16.heap.size = y at *
 refine ⟨trivial,(eqA G17 S17 hok).mono ?_⟩
 rintro e W18 ⟨rfl,n18⟩
 have B18:=B17.nw n18 hF
 have g18:=n18.keep (fun h=>h) g17
 have H18:=H17.nx n18
 clear B17 S17 a17 g17 H17 G17 n18 h17
 gi_wp2
 refine ⟨trivial,(heldA (by decide) H18 hok).mono ?_⟩
 rintro e W19 ⟨rfl,n19⟩
 rw [hqq.h]
 have B19:=B18.nw n19 hF
 clear B18 g18 H18 n19
 gi_wp2
 go_ret
 exact ⟨rfl,B19.below⟩
end Hw
end Go.Proofs.YtklmllaggigkfaaGreat
