/- A pair as a world: the walk. -/
import Derived.Shelf.Abstract
import Derived.RangeFuncBox
import Derived.WalkKit
import Derived.OwnWalkIn
import Derived.TacticsInMore
import Derived.LoopNIn
import Derived.LoopIn
import Derived.Stop.RegionWithIn
import Derived.RegionIn
import Derived.BigRegionIn
import Derived.Test.YtklmllaggigkfaaGreatPYB
namespace Go.Proofs.YtklmllaggigkfaaGreat
namespace Hw
open Go Go.RowKit
attribute [local go_sem] Oper.semAt_some
set_option maxRecDepth 100000
set_option linter.unusedVariables false
set_option linter.unusedSimpArgs false
set_option maxHeartbeats 10000000
structure LkV (W:World) (F:Nat→Prop) (col:Nat→Pc) (idx b:Nat) (x:Lk) (A0 A1 A3 A4 A5 A6 A7 a:Option Addr) (n0 k0 n1 k1 n3 k3 n4 k4 n5 k5 n6 k6 n7 k7:Nat):Prop where
 S:LkC W b x (.slice A0 n0 k0) (.slice A1 n1 k1) (.slice A3 n3 k3) (.slice A4 n4 k4) (.slice A5 n5 k5) (.slice A6 n6 k6) (.pointer a) (.slice A7 n7 k7)
 hm:MkP W F col idx x.marks.l (.pointer a)
 hF:∀b,F b→b < W.heap.size
 hc:x.count = (x.marks.l.length:Int)
 hmx:x.count≤1000000
theorem LkV.nw {W X:World} {F:Nat→Prop} {col:Nat→Pc} {idx b:Nat} {x:Lk} {A0 A1 A3 A4 A5 A6 A7 a:Option Addr} {n0 k0 n1 k1 n3 k3 n4 k4 n5 k5 n6 k6 n7 k7:Nat} (h:LkV W F col idx b x A0 A1 A3 A4 A5 A6 A7 a n0 k0 n1 k1 n3 k3 n4 k4 n5 k5 n6 k6 n7 k7) (n:Nw W X):LkV X F col idx b x A0 A1 A3 A4 A5 A6 A7 a n0 k0 n1 k1 n3 k3 n4 k4 n5 k5 n6 k6 n7 k7 :=
 ⟨h.S.nw n,h.hm.ext (fun _ h=>h) (fun b hb=>n.block b (h.hF b hb) fun h=>h) fun _ _=>rfl,fun b hb=>Nat.lt_of_lt_of_le (h.hF b hb) n.size,h.hc,h.hmx⟩
structure PsQ (W W':World) (F:Nat→Prop) (col:Nat→Pc) (idx:Nat) (x:Lk) (q:Nat):Prop where
 nw:Nw W W'
 lo:W.heap.size≤q
 r:∃qs:Array Value,W'.heap[q]? = some (.cells qs 75 (0,0))∧qs.size = x.marks.l.length * 7∧∀j,j < x.marks.l.length→∀(g:Nat) (y:Cell),(stCells true (x.marks.l.reverse.getD j zSt))[g]? = some y→∃u,qs[j * 7 + g]? = some u∧elC (arrR W F 3) y u∧StP col idx j (x.marks.l.reverse.getD j zSt) g u
structure PsE (W':World) (F:Nat→Prop) (col:Nat→Pc) (idx:Nat) (x:Lk) (q:Nat):Prop where
 r:∃qs:Array Value,W'.heap[q]? = some (.cells qs 75 (0,0))∧qs.size = x.marks.l.length * 7∧∀j,j < x.marks.l.length→∀(g:Nat) (y:Cell),(stCells true (x.marks.l.reverse.getD j zSt))[g]? = some y→∃u,qs[j * 7 + g]? = some u∧elC (arrR W' F 3) y u∧StP col idx j (x.marks.l.reverse.getD j zSt) g u
theorem PsQ.to {W V W':World} {F:Nat→Prop} {col:Nat→Pc} {idx:Nat} {x:Lk} {q:Nat} (h:PsQ W V F col idx x q) (hF:∀b,F b→b < W.heap.size) (hk:∀b,b < V.heap.size→F b∨b = q→W'.heap[b]? = V.heap[b]?):PsE W' F col idx x q:=by
 obtain ⟨hn,h1,qs,h2,h3,h4⟩:=h
 have hq:=lt_of_block h2
 refine ⟨qs,(hk q hq (.inr rfl)).trans h2,h3,fun j hj g y hy=>?_⟩
 obtain ⟨u,k1,k2,k3⟩:=h4 j hj g y hy
 refine ⟨u,k1,elC_ext k2 (fun _ h=>h) fun b hb=>?_,k3⟩
 have hb':=hF b hb
 exact (hk b (Nat.lt_of_lt_of_le hb' hn.size) (.inl hb)).trans (hn.block b hb' fun h=>h)
def setsV (Z:World) (q:Nat):Nat→List Value→World
 | _,[]=>Z
 | i,v :: r=>setsV (Z.setCell ⟨q,i,none⟩ v) q (i + 1) r
theorem setsV_at:∀(vs:List Value) {Z:World} {q i:Nat} {qs:Array Value} {e:TypeId} {f:Nat×Nat},Z.heap[q]? = some (.cells qs e f)→i + vs.length≤qs.size→∃qs':Array Value,(setsV Z q i vs).heap[q]? = some (.cells qs' e f)∧qs'.size = qs.size∧(∀j,j < i∨i + vs.length≤j→qs'[j]? = qs[j]?)∧∀k,k < vs.length→qs'[i + k]? = vs[k]?
 | [],Z,q,i,qs,e,f,h,hi=>⟨qs,h,rfl,fun _ _=>rfl,fun k hk=>absurd hk (Nat.not_lt_zero k)⟩
 | v :: r,Z,q,i,qs,e,f,h,hi=>by
  have hi:i + (r.length + 1)≤qs.size:=hi
  obtain ⟨q1,h1,h2,h3,h4⟩:=setCell_cells (o:=i) (v:=v) h
  obtain ⟨q2,k1,k2,k3,k4⟩:=setsV_at r (i:=i + 1) h1 (by omega)
  refine ⟨q2,k1,k2.trans h2,fun j hj=>?_,fun k hk=>?_⟩
  ·have hj:j < i∨i + (r.length + 1)≤j:=hj
   rw [k3 j (by omega),h3 j (by omega)]
  ·cases k with
   | zero =>
    rw [Nat.add_zero,k3 i (by omega),h4 (by omega)]
    rfl
   | succ k =>
    have hk:k + 1 < r.length + 1:=hk
    have:=k4 k (by omega)
    rw [show i + (k + 1) = i + 1 + k by omega,this]
    rfl
theorem setsV_other:∀(vs:List Value) {Z:World} {q i y:Nat},y≠q→(setsV Z q i vs).heap[y]? = Z.heap[y]?
 | [],_,_,_,_,_=>rfl
 | v :: r,Z,q,i,y,h=>(setsV_other r h).trans (setCell_other h)
theorem setsV_nw:∀(vs:List Value) {W Z:World} {q i:Nat},Nw W Z→W.heap.size≤q→Nw W (setsV Z q i vs)
 | [],_,_,_,_,h,_=>h
 | v :: r,W,Z,q,i,h,hq=>setsV_nw r (nw_set h hq) hq
theorem setsV_size:∀(vs:List Value) {Z:World} {q i:Nat},(setsV Z q i vs).heap.size = Z.heap.size
 | [],_,_,_=>rfl
 | v :: r,Z,q,i=>(setsV_size r).trans size_setCell
theorem LkV.chain {W:World} {F:Nat→Prop} {col:Nat→Pc} {idx b:Nat} {x:Lk} {A0 A1 A3 A4 A5 A6 A7 a:Option Addr} {n0 k0 n1 k1 n3 k3 n4 k4 n5 k5 n6 k6 n7 k7:Nat} (h:LkV W F col idx b x A0 A1 A3 A4 A5 A6 A7 a n0 k0 n1 k1 n3 k3 n4 k4 n5 k5 n6 k6 n7 k7) {n:Nat} (hn:4≤n) :
  CallsIn Fence.wide n Tryz.prog 53 #[.pointer (some ⟨b,0,none⟩)] W fun e W'=>∃q,e = .returned (.agg #[.int .i64 x.id,.slice A0 n0 k0,.slice A1 n1 k1,.int .i64 x.bank.locked,.int .i64 x.st.way,.int .i64 x.st.ver,.int .i64 x.st.want,.slice A3 n3 k3,.slice A4 n4 k4,.slice A5 n5 k5,.slice A6 n6 k6,.slice (some ⟨q,0,none⟩) x.marks.l.length x.marks.l.length,.slice A7 n7 k7])∧PsQ W W' F col idx x q:=by
 refine (CallsIn.more (chain_in h.S h.hm h.hF h.hc h.hmx) hn).mono ?_
 rintro e W' ⟨r,rfl,⟨q,hr,h1,h2⟩,hn⟩
 exact ⟨q,by rw [hr]; rfl,hn,h1,h2⟩
structure WrI (W Z:World) (z q t:Nat) (qs:Array Value):Prop where
 nw:Nw W Z
 hz:Z.heap[z]? = some (.cells #[.slice none 0 0] 26 (0,0))
 hq:Z.heap[q]? = some (.cells qs 78 (0,0))
 ht:Z.heap[t]? = some (.cells #[.slice (some ⟨q,0,none⟩) 2 2] 26 (0,0))
 sz:qs.size = 26
 hl:W.heap.size≤z∧W.heap.size≤q∧W.heap.size≤t∧z≠q∧t≠q∧z≠t
theorem WrI.nx {W Z Z':World} {z q t:Nat} {qs:Array Value} (h:WrI W Z z q t qs) (n:Nw Z Z'):WrI W Z' z q t qs:=by
 have hb:∀{y:Nat} {o:Obj},Z.heap[y]? = some o→Z'.heap[y]? = some o:=fun ho=>(n.block _ (lt_of_block ho) fun h=>h).trans ho
 exact ⟨h.nw.trans n,hb h.hz,hb h.hq,hb h.ht,h.sz,h.hl⟩
structure Laid (qs qs':Array Value) (i:Nat) (vs:List Value):Prop where
 o:∀j,j < i∨i + vs.length≤j→qs'[j]? = qs[j]?
 v:∀k,k < vs.length→qs'[i + k]? = vs[k]?
theorem WrI.step {W Z:World} {z q t:Nat} {qs:Array Value} (h:WrI W Z z q t qs) {i:Nat} (vs:List Value) (hi:i + vs.length≤26):∃qs',WrI W (setsV Z q i vs) z q t qs'∧Laid qs qs' i vs:=by
 obtain ⟨qs',k1,k2,k3,k4⟩:=setsV_at vs (i:=i) h.hq (by rw [h.sz]; exact hi)
 exact ⟨qs',⟨setsV_nw vs h.nw h.hl.2.1,(setsV_other vs h.hl.2.2.2.1).trans h.hz,k1,(setsV_other vs h.hl.2.2.2.2.1).trans h.ht,k2.trans h.sz,h.hl⟩,⟨k3,k4⟩⟩
theorem cell_ex {Z:World} {q j:Nat} {qs:Array Value} {e:TypeId} {f:Nat×Nat} (h:Z.heap[q]? = some (.cells qs e f)) (hj:j < qs.size):∃u,Z.cell? ⟨q,j,none⟩ = some u:=⟨_,(cell_at h).trans (Array.getElem?_eq_getElem hj)⟩
theorem wri_start {W:World} {ms:Array Value} (hm:ms.size = 26):WrI W (((W.alloc (.cells #[.slice none 0 0] 26)).alloc (.cells ms 78)).alloc (.cells #[.slice (some ⟨W.heap.size + 1,0,none⟩) 2 2] 26)) W.heap.size (W.heap.size + 1) (W.heap.size + 1 + 1) ms:=by
 generalize hA:W.alloc (.cells #[.slice none 0 0] 26) = A
 have k1:Nw W A:=hA ▸ Mk.alloc W rfl
 have s1:A.heap.size = W.heap.size + 1:=by rw [← hA]; simp
 have r1:A.heap[W.heap.size]? = some (.cells #[.slice none 0 0] 26 (0,0)):=by rw [← hA,World.alloc_heap_new]
 generalize hB:A.alloc (.cells ms 78) = B
 have k2:Nw A B:=hB ▸ Mk.alloc A rfl
 have s2:B.heap.size = W.heap.size + 1 + 1:=by rw [← hB,← s1]; simp
 have r2:B.heap[W.heap.size + 1]? = some (.cells ms 78 (0,0)):=by rw [← hB,← s1,World.alloc_heap_new]
 have k3:Nw B (B.alloc (.cells #[.slice (some ⟨W.heap.size + 1,0,none⟩) 2 2] 26)):=Mk.alloc B rfl
 refine ⟨(k1.trans k2).trans k3,((k2.trans k3).block _ (by omega) fun h=>h).trans r1,(k3.block _ (by omega) fun h=>h).trans r2,?_,hm,by omega⟩
 rw [← s2,World.alloc_heap_new]
structure StO (V Z:World) (q:Nat):Prop where
 o:∀y,y≠q→Z.heap[y]? = V.heap[y]?
 s:Z.heap.size = V.heap.size
structure WldE (W W':World) (F:Nat→Prop) (col:Nat→Pc) (l o:Lk) (q q1 q2:Nat) (L1 L2:List Value):Prop where
 nw:Nw W W'
 lo:W.heap.size≤q∧W.heap.size≤q1∧W.heap.size≤q2∧q≠q1∧q≠q2∧q1≠q2
 hq:∃qs:Array Value,W'.heap[q]? = some (.cells qs 78 (0,0))∧qs.size = 26∧(∀k,k < 13→qs[0 + k]? = L1[k]?)∧∀k,k < 13→qs[13 + k]? = L2[k]?
 p1:PsE W' F col 0 l q1
 p2:PsE W' F col 1 o q2
theorem wld_end {W V V1 Z U V2 Y Wf:World} {z q t q1 q2:Nat} {F:Nat→Prop} {col:Nat→Pc} {l o:Lk} {qs0 qs1 qs2:Array Value} {L1 L2:List Value} (hF:∀b,F b→b < W.heap.size) (hI1:WrI W V z q t qs0) (hP1:PsQ V V1 F col 0 l q1) (hZ:StO V1 Z q) (hJ1:WrI W Z z q t qs1) (e1:Laid qs0 qs1 0 L1) (n1:L1.length = 13) (nU:Nw Z U) (hP2:PsQ U V2 F col 1 o q2) (hY:StO V2 Y q) (hJ2:WrI W Y z q t qs2) (e2:Laid qs1 qs2 13 L2) (n2:L2.length = 13) (hW:StO Y Wf z) (nW:Nw W Wf):WldE W Wf F col l o q q1 q2 L1 L2:=by
 obtain ⟨k1,k2,-,k3,k4,k5⟩:=hI1.hl
 have a1:=lt_of_block hI1.hq
 have a0:=lt_of_block hI1.hz
 have a2:=hP1.lo
 obtain ⟨-,-,c1,d1,-⟩:=id hP1
 obtain ⟨-,-,c2,d2,-⟩:=id hP2
 have b1:=lt_of_block d1
 have b2:=lt_of_block d2
 have a3:=hP2.lo
 have s1:=hP1.nw.size
 have s2:=hP2.nw.size
 have s3:=nU.size
 have s4:=hZ.s
 have s5:=hY.s
 have s6:=hW.s
 have s0:=hI1.nw.size
 refine ⟨nW,⟨k2,by omega,by omega,by omega,by omega,by omega⟩,⟨qs2,(hW.o q (Ne.symm k3)).trans hJ2.hq,hJ2.sz,fun k hk=>?_,fun k hk=>e2.v k (by omega)⟩,?_,?_⟩
 ·rw [e2.o (0 + k) (by omega),e1.v k (by omega)]
 ·refine hP1.to (fun b hb=>Nat.lt_of_lt_of_le (hF b hb) s0) fun b hb h=>?_
  have hz:b≠z∧b≠q:=by
   rcases h with h | h
   ·have:=hF b h; omega
   ·omega
  rw [hW.o b hz.1,hY.o b hz.2,hP2.nw.block b (by omega) (fun h=>h),nU.block b (by omega) (fun h=>h),hZ.o b hz.2]
 ·refine hP2.to (fun b hb=>Nat.lt_of_lt_of_le (hF b hb) (by omega)) fun b hb h=>?_
  have hz:b≠z∧b≠q:=by
   rcases h with h | h
   ·have:=hF b h; omega
   ·omega
  rw [hW.o b hz.1,hY.o b hz.2]
theorem world_in {W:World} {p b1 b2:Nat} {l o:Lk} {F:Nat→Prop} {col:Nat→Pc} {A0 A1 A3 A4 A5 A6 A7 a:Option Addr} {n0 k0 n1 k1 n3 k3 n4 k4 n5 k5 n6 k6 n7 k7:Nat} {B0 B1 B3 B4 B5 B6 B7 a':Option Addr} {m0 j0 m1 j1 m3 j3 m4 j4 m5 j5 m6 j6 m7 j7:Nat} (p0:W.cell? ⟨p,0,none⟩ = some (.pointer (some ⟨b1,0,none⟩))) (p1:W.cell? ⟨p,1,none⟩ = some (.pointer (some ⟨b2,0,none⟩))) (h1:LkV W F col 0 b1 l A0 A1 A3 A4 A5 A6 A7 a n0 k0 n1 k1 n3 k3 n4 k4 n5 k5 n6 k6 n7 k7) (h2:LkV W F col 1 b2 o B0 B1 B3 B4 B5 B6 B7 a' m0 j0 m1 j1 m3 j3 m4 j4 m5 j5 m6 j6 m7 j7) :
  CallsIn Fence.wide 9 Tryz.prog 26 #[.pointer (some ⟨p,0,none⟩)] W fun e W'=>∃q q1 q2,e = .returned (.agg #[.slice (some ⟨q,0,none⟩) 2 2])∧WldE W W' F col l o q q1 q2
   [.int .i64 l.id,.slice A0 n0 k0,.slice A1 n1 k1,.int .i64 l.bank.locked,.int .i64 l.st.way,.int .i64 l.st.ver,.int .i64 l.st.want,.slice A3 n3 k3,.slice A4 n4 k4,.slice A5 n5 k5,.slice A6 n6 k6,.slice (some ⟨q1,0,none⟩) l.marks.l.length l.marks.l.length,.slice A7 n7 k7]
   [.int .i64 o.id,.slice B0 m0 j0,.slice B1 m1 j1,.int .i64 o.bank.locked,.int .i64 o.st.way,.int .i64 o.st.ver,.int .i64 o.st.want,.slice B3 m3 j3,.slice B4 m4 j4,.slice B5 m5 j5,.slice B6 m6 j6,.slice (some ⟨q2,0,none⟩) o.marks.l.length o.marks.l.length,.slice B7 m7 j7]:=by
 refine callsIn_of_wp Tryz.func26 rfl trivial ?_ rfl
 simp only [Tryz.ntmps26,List.size_toArray,List.length_cons,List.length_nil,Nat.reduceAdd,Nat.reduceSub,Array.replicate_succ,Array.replicate_zero,List.push_toArray,List.append_toArray,List.nil_append,List.cons_append]
 obtain ⟨ms,hms,hmake⟩:=make_chs 2 (by decide)
 have hmake:∀w:World,(Instr.makeSlice 24 (.int .i64 2) (.int .i64 2)).run Tryz.prog w = .ok (.slice (some ⟨w.heap.size,0,none⟩) 2 2) (w.alloc (.cells ms 78)):=fun w=>hmake w
 have q0:∀c1 t1 c2 t2 c3 t3,(((W.alloc (.cells c1 t1)).alloc (.cells c2 t2)).alloc (.cells c3 t3)).cell? ⟨p,0,none⟩ = some (.pointer (some ⟨b1,0,none⟩)):=fun c1 t1 c2 t2 c3 t3=>(((Mk.alloc (R:=fun _=>False) W (show Unf (.cells c1 t1) from rfl)).trans (Mk.alloc _ (show Unf (.cells c2 t2) from rfl))).trans (Mk.alloc _ (show Unf (.cells c3 t3) from rfl))).keep (fun h=>h) p0
 have q1:∀c1 t1 c2 t2 c3 t3,(((W.alloc (.cells c1 t1)).alloc (.cells c2 t2)).alloc (.cells c3 t3)).cell? ⟨p,1,none⟩ = some (.pointer (some ⟨b2,0,none⟩)):=fun c1 t1 c2 t2 c3 t3=>(((Mk.alloc (R:=fun _=>False) W (show Unf (.cells c1 t1) from rfl)).trans (Mk.alloc _ (show Unf (.cells c2 t2) from rfl))).trans (Mk.alloc _ (show Unf (.cells c3 t3) from rfl))).keep (fun h=>h) p1
 gi_wp2
 have hI:=wri_start (W:=W) hms
 generalize (((W.alloc _).alloc _).alloc _) = Y at hI ⊢
 clear q0 q1 hmake
 generalize W.heap.size = z at *
 generalize z + 1 = q at *
 generalize q + 1 = t at *
 refine wpIn_loop_rounds 3 ?_
 rw [roundsIn_succ]
 have x0:∀w:World,(Instr.index 83 (.agg #[.pointer (some ⟨b1,0,none⟩),.pointer (some ⟨b2,0,none⟩)]) (.int .i64 0)).run Tryz.prog w = .ok (.pointer (some ⟨b1,0,none⟩)) w:=fun _=>by kernel_rfl
 have x1:∀w:World,(Instr.index 83 (.agg #[.pointer (some ⟨b1,0,none⟩),.pointer (some ⟨b2,0,none⟩)]) (.int .i64 1)).run Tryz.prog w = .ok (.pointer (some ⟨b2,0,none⟩)) w:=fun _=>by kernel_rfl
 gi_wp2
 have nV:=nw_drew Y
 generalize hV:Y.drew = V at *
 have hI1:=hI.nx nV
 have v1:=h1.nw hI1.nw
 have tc:V.cell? ⟨t,0,none⟩ = some (.slice (some ⟨q,0,none⟩) 2 2):=cell_at hI1.ht
 have w1:Fence.wide.fn 53:=trivial
 gi_region_with (gi_at_call 53; refine (v1.chain (by decide)).mono ?_; rintro e V1 ⟨q1,rfl,hP1⟩; have hI2:=hI1.nx hP1.nw; have tc2:V1.cell? ⟨t,0,none⟩ = some (.slice (some ⟨q,0,none⟩) 2 2):=cell_at hI2.ht; have qf:∀o,V1.frozen? ⟨q,o,none⟩ = false:=fun o=>(unfR_at hI2.hq).at rfl; obtain ⟨o0,c0⟩:=cell_ex hI2.hq (j:=0) (by rw [hI2.sz]; decide); obtain ⟨o1,c1⟩:=cell_ex hI2.hq (j:=1) (by rw [hI2.sz]; decide); obtain ⟨o2,c2⟩:=cell_ex hI2.hq (j:=2) (by rw [hI2.sz]; decide); obtain ⟨o3,c3⟩:=cell_ex hI2.hq (j:=3) (by rw [hI2.sz]; decide); obtain ⟨o4,c4⟩:=cell_ex hI2.hq (j:=4) (by rw [hI2.sz]; decide); obtain ⟨o5,c5⟩:=cell_ex hI2.hq (j:=5) (by rw [hI2.sz]; decide); obtain ⟨o6,c6⟩:=cell_ex hI2.hq (j:=6) (by rw [hI2.sz]; decide); obtain ⟨o7,c7⟩:=cell_ex hI2.hq (j:=7) (by rw [hI2.sz]; decide); obtain ⟨o8,c8⟩:=cell_ex hI2.hq (j:=8) (by rw [hI2.sz]; decide); obtain ⟨o9,c9⟩:=cell_ex hI2.hq (j:=9) (by rw [hI2.sz]; decide); obtain ⟨o10,c10⟩:=cell_ex hI2.hq (j:=10) (by rw [hI2.sz]; decide); obtain ⟨o11,c11⟩:=cell_ex hI2.hq (j:=11) (by rw [hI2.sz]; decide); obtain ⟨o12,c12⟩:=cell_ex hI2.hq (j:=12) (by rw [hI2.sz]; decide))
 all_goals
  obtain ⟨qs1,hJ1,e1⟩:=hI2.step (i:=0) [.int .i64 l.id,.slice A0 n0 k0,.slice A1 n1 k1,.int .i64 l.bank.locked,.int .i64 l.st.way,.int .i64 l.st.ver,.int .i64 l.st.want,.slice A3 n3 k3,.slice A4 n4 k4,.slice A5 n5 k5,.slice A6 n6 k6,.slice (some ⟨q1,0,none⟩) l.marks.l.length l.marks.l.length,.slice A7 n7 k7] (by simp only [List.length_cons,List.length_nil]; decide)
  have hOZ:StO V1 _ q:=⟨fun y hy=>setsV_other (Z:=V1) (i:=0) [.int .i64 l.id,.slice A0 n0 k0,.slice A1 n1 k1,.int .i64 l.bank.locked,.int .i64 l.st.way,.int .i64 l.st.ver,.int .i64 l.st.want,.slice A3 n3 k3,.slice A4 n4 k4,.slice A5 n5 k5,.slice A6 n6 k6,.slice (some ⟨q1,0,none⟩) l.marks.l.length l.marks.l.length,.slice A7 n7 k7] hy,setsV_size [.int .i64 l.id,.slice A0 n0 k0,.slice A1 n1 k1,.int .i64 l.bank.locked,.int .i64 l.st.way,.int .i64 l.st.ver,.int .i64 l.st.want,.slice A3 n3 k3,.slice A4 n4 k4,.slice A5 n5 k5,.slice A6 n6 k6,.slice (some ⟨q1,0,none⟩) l.marks.l.length l.marks.l.length,.slice A7 n7 k7]⟩
  generalize hZ:setsV V1 q 0 [.int .i64 l.id,.slice A0 n0 k0,.slice A1 n1 k1,.int .i64 l.bank.locked,.int .i64 l.st.way,.int .i64 l.st.ver,.int .i64 l.st.want,.slice A3 n3 k3,.slice A4 n4 k4,.slice A5 n5 k5,.slice A6 n6 k6,.slice (some ⟨q1,0,none⟩) l.marks.l.length l.marks.l.length,.slice A7 n7 k7] = Z at hJ1 hOZ
  clear c0 c1 c2 c3 c4 c5 c6 c7 c8 c9 c10 c11 c12 qf tc2 tc w1
  have hZ:=hZ.symm
  simp only [setsV,Nat.reduceAdd] at hZ
  rw [← hZ]
  clear hZ
  gi_wp2
  rw [roundsIn_succ]
  gi_wp2
  have nU:=nw_drew Z
  generalize hU:Z.drew = U at *
  have hI3:=hJ1.nx nU
  have v2:=h2.nw hI3.nw
  have tc:U.cell? ⟨t,0,none⟩ = some (.slice (some ⟨q,0,none⟩) 2 2):=cell_at hI3.ht
  have w1:Fence.wide.fn 53:=trivial
  gi_region_with (gi_at_call 53; refine (v2.chain (by decide)).mono ?_; rintro e V2 ⟨q2,rfl,hP2⟩; have hI4:=hI3.nx hP2.nw; have tc2:V2.cell? ⟨t,0,none⟩ = some (.slice (some ⟨q,0,none⟩) 2 2):=cell_at hI4.ht; have qf:∀o,V2.frozen? ⟨q,o,none⟩ = false:=fun o=>(unfR_at hI4.hq).at rfl; obtain ⟨o0,c0⟩:=cell_ex hI4.hq (j:=13) (by rw [hI4.sz]; decide); obtain ⟨o1,c1⟩:=cell_ex hI4.hq (j:=14) (by rw [hI4.sz]; decide); obtain ⟨o2,c2⟩:=cell_ex hI4.hq (j:=15) (by rw [hI4.sz]; decide); obtain ⟨o3,c3⟩:=cell_ex hI4.hq (j:=16) (by rw [hI4.sz]; decide); obtain ⟨o4,c4⟩:=cell_ex hI4.hq (j:=17) (by rw [hI4.sz]; decide); obtain ⟨o5,c5⟩:=cell_ex hI4.hq (j:=18) (by rw [hI4.sz]; decide); obtain ⟨o6,c6⟩:=cell_ex hI4.hq (j:=19) (by rw [hI4.sz]; decide); obtain ⟨o7,c7⟩:=cell_ex hI4.hq (j:=20) (by rw [hI4.sz]; decide); obtain ⟨o8,c8⟩:=cell_ex hI4.hq (j:=21) (by rw [hI4.sz]; decide); obtain ⟨o9,c9⟩:=cell_ex hI4.hq (j:=22) (by rw [hI4.sz]; decide); obtain ⟨o10,c10⟩:=cell_ex hI4.hq (j:=23) (by rw [hI4.sz]; decide); obtain ⟨o11,c11⟩:=cell_ex hI4.hq (j:=24) (by rw [hI4.sz]; decide); obtain ⟨o12,c12⟩:=cell_ex hI4.hq (j:=25) (by rw [hI4.sz]; decide))
  all_goals
   obtain ⟨qs2,hJ2,e2⟩:=hI4.step (i:=13) [.int .i64 o.id,.slice B0 m0 j0,.slice B1 m1 j1,.int .i64 o.bank.locked,.int .i64 o.st.way,.int .i64 o.st.ver,.int .i64 o.st.want,.slice B3 m3 j3,.slice B4 m4 j4,.slice B5 m5 j5,.slice B6 m6 j6,.slice (some ⟨q2,0,none⟩) o.marks.l.length o.marks.l.length,.slice B7 m7 j7] (by simp only [List.length_cons,List.length_nil]; decide)
   have hOY:StO V2 _ q:=⟨fun y hy=>setsV_other (Z:=V2) (i:=13) [.int .i64 o.id,.slice B0 m0 j0,.slice B1 m1 j1,.int .i64 o.bank.locked,.int .i64 o.st.way,.int .i64 o.st.ver,.int .i64 o.st.want,.slice B3 m3 j3,.slice B4 m4 j4,.slice B5 m5 j5,.slice B6 m6 j6,.slice (some ⟨q2,0,none⟩) o.marks.l.length o.marks.l.length,.slice B7 m7 j7] hy,setsV_size [.int .i64 o.id,.slice B0 m0 j0,.slice B1 m1 j1,.int .i64 o.bank.locked,.int .i64 o.st.way,.int .i64 o.st.ver,.int .i64 o.st.want,.slice B3 m3 j3,.slice B4 m4 j4,.slice B5 m5 j5,.slice B6 m6 j6,.slice (some ⟨q2,0,none⟩) o.marks.l.length o.marks.l.length,.slice B7 m7 j7]⟩
   generalize hY:setsV V2 q 13 [.int .i64 o.id,.slice B0 m0 j0,.slice B1 m1 j1,.int .i64 o.bank.locked,.int .i64 o.st.way,.int .i64 o.st.ver,.int .i64 o.st.want,.slice B3 m3 j3,.slice B4 m4 j4,.slice B5 m5 j5,.slice B6 m6 j6,.slice (some ⟨q2,0,none⟩) o.marks.l.length o.marks.l.length,.slice B7 m7 j7] = Y2 at hJ2 hOY
   clear c0 c1 c2 c3 c4 c5 c6 c7 c8 c9 c10 c11 c12 qf tc2 tc w1
   have hY:=hY.symm
   simp only [setsV,Nat.reduceAdd] at hY
   rw [← hY]
   clear hY
   have tc:Y2.cell? ⟨t,0,none⟩ = some (.slice (some ⟨q,0,none⟩) 2 2):=cell_at hJ2.ht
   have zc:Y2.cell? ⟨z,0,none⟩ = some (.slice none 0 0):=cell_at hJ2.hz
   have zf:∀o,Y2.frozen? ⟨z,o,none⟩ = false:=fun o=>(unfR_at hJ2.hz).at rfl
   gi_wp2
   rw [roundsIn_succ]
   gi_wp2
   refine bodyPost_ret (ret_row rfl (g:=z) rfl (setCell_at hJ2.hz) (by kernel_rfl)) rfl ?_
   exact ⟨q,q1,q2,rfl,wld_end h1.hF hI1 hP1 hOZ hJ1 e1 rfl nU hP2 hOY hJ2 e2 rfl ⟨fun y hy=>setCell_other hy,size_setCell⟩ (nw_set hJ2.nw hJ2.hl.1)⟩
end Hw
end Go.Proofs.YtklmllaggigkfaaGreat
set_option linter.unusedVariables false
set_option linter.unusedSimpArgs false
set_option maxRecDepth 100000
namespace Go.Proofs.YtklmllaggigkfaaGreat
namespace Hw
open Go Go.RowKit
theorem arr_blk {W:World} {S:Nat→Prop} {d q n:Nat} {a:Arr} {cs:Array Value} {e:TypeId} {f:Nat×Nat} (h:W.heap[q]? = some (.cells cs e f)) (hS:S q) (hn:a.len = n) (hb:(n:Int)≤big) (hc:∀k,k < n→∀(j:Nat) (x:Cell),((a.get k).cells true)[j]? = some x→∃u,cs[k * a.esz + j]? = some u∧elC (arrR W S d) x u):arrR W S (d + 1) a (.slice (some ⟨q,0,none⟩) n n):=by
 subst hn
 refine ⟨_,_,rfl,Nat.le_refl _,hb,fun k hk=>⟨_,rfl,hS,fun j x hj=>?_⟩⟩
 obtain ⟨u,h1,h2⟩:=hc k hk j x hj
 refine ⟨u,?_,h2⟩
 rw [add_none',Nat.zero_add]
 exact (cell_at h).trans h1
structure Rws (C:Cx) (i0:Nat) (A0 A1 A3 A4 A5 A6 A7:Option Addr) (n0 k0 n1 k1 n3 k3 n4 k4 n5 k5 n6 k6 n7 k7:Nat):Prop where
 r0:cellR C (.own (i0 + 1) 1 3) (.slice A0 n0 k0)
 r1:cellR C (.own (i0 + 2) 1 3) (.slice A1 n1 k1)
 r3:cellR C (.own (i0 + 3) 7 46) (.slice A3 n3 k3)
 r4:cellR C (.own (i0 + 4) 1 4) (.slice A4 n4 k4)
 r5:cellR C (.own (i0 + 5) 1 4) (.slice A5 n5 k5)
 r6:cellR C (.own (i0 + 6) 1 3) (.slice A6 n6 k6)
 r7:cellR C (.own (i0 + 7) 1 3) (.slice A7 n7 k7)
theorem own_sl {C:Cx} {i sz:Nat} {e:TypeId} {u:Value} (h:cellR C (.own i sz e) u):∃A n k,u = .slice A n k:=by
 rcases h with ⟨-,rfl⟩ | ⟨b,n,c,vs,-,rfl,-⟩
 ·exact ⟨_,_,_,rfl⟩
 ·exact ⟨_,_,_,rfl⟩
theorem lk_val {C:Cx} {H:Hp} {i0 b idx:Nat} {x:Lk} {col:Nat→Pc} {v:Value} (hI:Inv C H) (hH:H i0 = .raw 1 (lkCs i0 x)) (hr:C.ρ i0 = some (some b,1)) (hg:x.marks.g = some v) (hm:MkP C.w C.frz col idx x.marks.l v) (hc:x.count = (x.marks.l.length:Int)) (hmx:x.count≤1000000) :
  ∃A0 A1 A3 A4 A5 A6 A7 a n0 k0 n1 k1 n3 k3 n4 k4 n5 k5 n6 k6 n7 k7,LkV C.w C.frz col idx b x A0 A1 A3 A4 A5 A6 A7 a n0 k0 n1 k1 n3 k3 n4 k4 n5 k5 n6 k6 n7 k7∧Rws C i0 A0 A1 A3 A4 A5 A6 A7 n0 k0 n1 k1 n3 k3 n4 k4 n5 k5 n6 k6 n7 k7:=by
 have hi:=hI.own i0
 rw [hH] at hi
 obtain ⟨b',vs,e,h1,-,-,g4,g5,g6⟩:=hi
 rw [hr] at h1
 cases h1
 have gc:∀j,C.w.cell? ⟨b,j,none⟩ = vs[j]?:=fun j=>cell_at g4
 obtain ⟨u0,k0',e0⟩:=g6 0 _ rfl
 obtain ⟨u1,k1',e1⟩:=g6 1 _ rfl
 obtain ⟨_,k2',rfl⟩:=g6 2 _ rfl
 obtain ⟨_,k3',rfl⟩:=g6 3 _ rfl
 obtain ⟨_,k4',rfl⟩:=g6 4 _ rfl
 obtain ⟨_,k5',rfl⟩:=g6 5 _ rfl
 obtain ⟨_,k6',rfl⟩:=g6 6 _ rfl
 obtain ⟨u3,k7',e7⟩:=g6 7 _ rfl
 obtain ⟨u4,k8',e8⟩:=g6 8 _ rfl
 obtain ⟨u5,k9',e9⟩:=g6 9 _ rfl
 obtain ⟨u6,k10',e10⟩:=g6 10 _ rfl
 obtain ⟨w,k11',e11⟩:=g6 11 _ rfl
 obtain ⟨_,k12',rfl⟩:=g6 12 _ rfl
 obtain ⟨u7,k13',e13⟩:=g6 13 _ rfl
 have:=e11.2 _ hg
 subst this
 obtain ⟨a,rfl⟩:=ptr_of hm
 obtain ⟨A0,n0,k0,rfl⟩:=own_sl e0
 obtain ⟨A1,n1,k1,rfl⟩:=own_sl e1
 obtain ⟨A3,n3,k3,rfl⟩:=own_sl e7
 obtain ⟨A4,n4,k4,rfl⟩:=own_sl e8
 obtain ⟨A5,n5,k5,rfl⟩:=own_sl e9
 obtain ⟨A6,n6,k6,rfl⟩:=own_sl e10
 obtain ⟨A7,n7,k7,rfl⟩:=own_sl e13
 exact ⟨A0,A1,A3,A4,A5,A6,A7,a,n0,k0,n1,k1,n3,k3,n4,k4,n5,k5,n6,k6,n7,k7,⟨⟨lt_of_block g4,(gc 0).trans k0',(gc 1).trans k1',(gc 2).trans k2',(gc 3).trans k3',(gc 4).trans k4',(gc 5).trans k5',(gc 6).trans k6',(gc 7).trans k7',(gc 8).trans k8',(gc 9).trans k9',(gc 10).trans k10',(gc 11).trans k11',(gc 12).trans k12',(gc 13).trans k13',rfl,rfl,rfl,rfl,rfl,rfl,rfl,rfl⟩,hm,hI.frz,hc,hmx⟩,⟨e0,e1,e7,e8,e9,e10,e13⟩⟩
def rowP:Nat→Pc
 | 2=>.row 0 1 | 3=>.row 0 2 | 4=>.row 0 7 | 5=>.row 0 8 | 6=>.row 0 9 | 7=>.row 0 10 | 8=>.row 0 12
 | 10=>.row 1 1 | 11=>.row 1 2 | 12=>.row 1 7 | 13=>.row 1 8 | 14=>.row 1 9 | 15=>.row 1 10 | 16=>.row 1 12
 | _=>.other
theorem live17 {l o:Lk} {i:Nat} (h:i < 17):(hpOf (prB l o) i).live:=by
 match i,h with
 | 0,_=>trivial
 | 1,_=>trivial
 | 2,_=>trivial
 | 3,_=>trivial
 | 4,_=>trivial
 | 5,_=>trivial
 | 6,_=>trivial
 | 7,_=>trivial
 | 8,_=>trivial
 | 9,_=>trivial
 | 10,_=>trivial
 | 11,_=>trivial
 | 12,_=>trivial
 | 13,_=>trivial
 | 14,_=>trivial
 | 15,_=>trivial
 | 16,_=>trivial
 | i + 17,h=>exact absurd h (by omega)
open Classical in
noncomputable def wcol (C:Cx) (col:Nat→Pc) (q q1 q2:Nat):Nat→Pc:=fun b=>if b = q then .chs else if b = q1 then .past 0 else if b = q2 then .past 1 else if h:∃i m,C.ρ i = some (some b,m) then rowP (Classical.choose h) else col b
def wfrz (C:Cx) (q q1 q2:Nat):Nat→Prop:=fun b=>C.frz b∨b = q∨b = q1∨b = q2∨∃i m,C.ρ i = some (some b,m)
section
variable {W0 W W':World} {p:Nat} {l o:Lk} {C:Cx} {col:Nat→Pc} {q q1 q2:Nat} {L1 L2:List Value}
theorem rho_lt (h:PairAt W0 W p l o C col) {i b m:Nat} (hr:C.ρ i = some (some b,m)):i < 17∧b < W.heap.size:=by
 have h1:i < 17:=Classical.byContradiction fun g=>by
  rw [h.top i (by omega)] at hr
  cases hr
 exact ⟨h1,by rw [← h.w]; exact h.inv.lt (live17 h1) hr⟩
theorem wcol_row (h:PairAt W0 W p l o C col) (hE:WldE W W' C.frz col l o q q1 q2 L1 L2) {i b m:Nat} (hr:C.ρ i = some (some b,m)):wcol C col q q1 q2 b = rowP i:=by
 have hl:=hE.lo
 obtain ⟨h1,h2⟩:=rho_lt h hr
 have hx:∃i m,C.ρ i = some (some b,m):=⟨i,m,hr⟩
 unfold wcol
 rw [if_neg (by omega),if_neg (by omega),if_neg (by omega),dif_pos hx]
 obtain ⟨m',hm'⟩:=Classical.choose_spec hx
 rw [h.inv.inj _ _ _ _ _ (live17 (rho_lt h hm').1) (live17 h1) hm' hr]
theorem wcol_frz (h:PairAt W0 W p l o C col) (hE:WldE W W' C.frz col l o q q1 q2 L1 L2) {b:Nat} (hb:C.frz b):wcol C col q q1 q2 b = col b:=by
 have hl:=hE.lo
 have h2:=h.inv.frz b hb
 rw [h.w] at h2
 have hx:¬ ∃i m,C.ρ i = some (some b,m):=fun ⟨i,m,hr⟩=>(own_out h.inv (live17 (rho_lt h hr).1) hr).1 hb
 unfold wcol
 rw [if_neg (by omega),if_neg (by omega),if_neg (by omega),dif_neg hx]
theorem w_row (h:PairAt W0 W p l o C col) (hE:WldE W W' C.frz col l o q q1 q2 L1 L2) {i sz ii g:Nat} {e:TypeId} {a:Arr} {u:Value} (hi:hpOf (prB l o) i = .arr a) (hx:cellR C (.own i sz e) u) (hf:∀(k j:Nat) (x:Cell),((a.get k).cells true)[j]? = some x→(∃n,x = .int n)∨∃t,x = .bool t) (hp:rowP i = .row ii g) :
  elC (arrR W' (wfrz C q q1 q2) 3) (.arr true a) u∧InP (wcol C col q q1 q2) (.row ii g) a.len u:=by
 have ho:=h.inv.own i
 rw [hi] at ho
 obtain ⟨k1,k2⟩:=flat_own (F:=wfrz C q q1 q2) (W:=W') ho hx hf fun b m hr=>by
  refine ⟨.inr (.inr (.inr (.inr ⟨i,m,hr⟩))),?_⟩
  rw [h.w]
  exact hE.nw.block b (rho_lt h hr).2 fun h=>h
 refine ⟨k1,fun h0=>?_⟩
 obtain ⟨b,c,e1,e2⟩:=k2 h0
 exact ⟨b,c,e1,(wcol_row h hE e2).trans hp⟩
theorem w_past (h:PairAt W0 W p l o C col) (hE:WldE W W' C.frz col l o q q1 q2 L1 L2) {x:Lk} {idx y:Nat} (hP:PsE W' C.frz col idx x y) (hy:y = q1∨y = q2) (hc:wcol C col q q1 q2 y = .past idx) (hn:(x.marks.l.length:Int)≤1000000) :
  elC (arrR W' (wfrz C q q1 q2) 3) (.arr true (.sts x.marks.l.reverse)) (.slice (some ⟨y,0,none⟩) x.marks.l.length x.marks.l.length)∧PastP W' (wcol C col q q1 q2) idx x.marks.l.reverse (.slice (some ⟨y,0,none⟩) x.marks.l.length x.marks.l.length):=by
 obtain ⟨qs,h1,h2,h3⟩:=hP
 have hF:∀b,C.frz b→wfrz C q q1 q2 b:=fun b hb=>.inl hb
 refine ⟨?_,fun h0=>⟨y,x.marks.l.length,by rw [List.length_reverse],hc,fun j hj g hg u hu=>?_⟩⟩
 ·refine arr_blk (d:=2) (a:=.sts x.marks.l.reverse) h1 ?_ (List.length_reverse ..) (by unfold big; omega) fun k hk j c hj=>?_
  ·rcases hy with rfl | rfl
   ·exact .inr (.inr (.inl rfl))
   ·exact .inr (.inr (.inr (.inl rfl)))
  ·obtain ⟨u,k1,k2,-⟩:=h3 k hk j c hj
   refine ⟨u,k1,?_⟩
   refine elC_ext (F:=C.frz) (W:=W') (elC_imp k2 fun y a e h'=>?_) hF fun _ _=>rfl
   have hr:a.rk < (Arr.sts x.marks.l.reverse).rk:=cells_rk (z:=true) (k:=k) (y:=y) (by rw [← e]; exact get_of_mem hj)
   exact arrR_any 0 a (by have:(Arr.sts x.marks.l.reverse).rk = 1:=rfl; omega) 2 1 _ (by decide) (by decide) h'
 ·rw [List.length_reverse] at hj
  obtain ⟨c,hcc⟩:∃c,(stCells true (x.marks.l.reverse.getD j zSt))[g]? = some c:=⟨_,List.getElem?_eq_getElem (by show g < 7; exact hg)⟩
  obtain ⟨u',k1,k2,k3⟩:=h3 j hj g c hcc
  have:u' = u:=by
   have:=(cell_at (o:=j * 7 + g) h1).trans k1
   rw [hu] at this
   exact (Option.some.inj this).symm
  subst this
  exact stP_keep hcc k2 k3 fun b hb=>wcol_frz h hE hb
theorem w_ch (h:PairAt W0 W p l o C col) (hE:WldE W W' C.frz col l o q q1 q2 L1 L2) {x:Lk} {idx i0 y:Nat} {A0 A1 A3 A4 A5 A6 A7:Option Addr} {n0 k0 n1 k1 n3 k3 n4 k4 n5 k5 n6 k6 n7 k7:Nat} (R:Rws C i0 A0 A1 A3 A4 A5 A6 A7 n0 k0 n1 k1 n3 k3 n4 k4 n5 k5 n6 k6 n7 k7) (b1:hpOf (prB l o) (i0 + 1) = .arr (.ints x.bank.own)∧rowP (i0 + 1) = .row idx 1) (b2:hpOf (prB l o) (i0 + 2) = .arr (.ints x.bank.notes)∧rowP (i0 + 2) = .row idx 2) (b3:hpOf (prB l o) (i0 + 3) = .arr (.pkts x.st.sent)∧rowP (i0 + 3) = .row idx 7) (b4:hpOf (prB l o) (i0 + 4) = .arr (.bools x.st.live)∧rowP (i0 + 4) = .row idx 8) (b5:hpOf (prB l o) (i0 + 5) = .arr (.bools x.st.back)∧rowP (i0 + 5) = .row idx 9) (b6:hpOf (prB l o) (i0 + 6) = .arr (.ints x.st.got)∧rowP (i0 + 6) = .row idx 10) (b7:hpOf (prB l o) (i0 + 7) = .arr (.ints x.knows)∧rowP (i0 + 7) = .row idx 12) (hP:PsE W' C.frz col idx x y) (hy:y = q1∨y = q2) (hc:wcol C col q q1 q2 y = .past idx) (hn:(x.marks.l.length:Int)≤1000000) (g:Nat) (c:Cell) (hg:(chCells true (lkChain x))[g]? = some c) :
  ∃u:Value,([.int .i64 x.id,.slice A0 n0 k0,.slice A1 n1 k1,.int .i64 x.bank.locked,.int .i64 x.st.way,.int .i64 x.st.ver,.int .i64 x.st.want,.slice A3 n3 k3,.slice A4 n4 k4,.slice A5 n5 k5,.slice A6 n6 k6,.slice (some ⟨y,0,none⟩) x.marks.l.length x.marks.l.length,.slice A7 n7 k7]:List Value)[g]? = some u∧elC (arrR W' (wfrz C q q1 q2) 3) c u∧ChP W' (wcol C col q q1 q2) idx (lkChain x) g u:=by
 match g,hg with
 | 0,hg=>cases hg; exact ⟨_,rfl,rfl,trivial⟩
 | 1,hg=>cases hg; exact ⟨_,rfl,w_row h hE b1.1 R.r0 (flat_ints _) b1.2⟩
 | 2,hg=>cases hg; exact ⟨_,rfl,w_row h hE b2.1 R.r1 (flat_ints _) b2.2⟩
 | 3,hg=>cases hg; exact ⟨_,rfl,rfl,trivial⟩
 | 4,hg=>cases hg; exact ⟨_,rfl,rfl,trivial⟩
 | 5,hg=>cases hg; exact ⟨_,rfl,rfl,trivial⟩
 | 6,hg=>cases hg; exact ⟨_,rfl,rfl,trivial⟩
 | 7,hg=>cases hg; exact ⟨_,rfl,w_row h hE b3.1 R.r3 (flat_pkts _) b3.2⟩
 | 8,hg=>cases hg; exact ⟨_,rfl,w_row h hE b4.1 R.r4 (flat_bools _) b4.2⟩
 | 9,hg=>cases hg; exact ⟨_,rfl,w_row h hE b5.1 R.r5 (flat_bools _) b5.2⟩
 | 10,hg=>cases hg; exact ⟨_,rfl,w_row h hE b6.1 R.r6 (flat_ints _) b6.2⟩
 | 11,hg=>cases hg; exact ⟨_,rfl,w_past h hE hP hy hc hn⟩
 | 12,hg=>cases hg; exact ⟨_,rfl,w_row h hE b7.1 R.r7 (flat_ints _) b7.2⟩
 | g + 13,hg=>cases hg
end
theorem wcol_q {C:Cx} {col:Nat→Pc} {q q1 q2:Nat}:wcol C col q q1 q2 q = .chs:=by unfold wcol; rw [if_pos rfl]
theorem wcol_1 {C:Cx} {col:Nat→Pc} {q q1 q2:Nat} (h:q≠q1):wcol C col q q1 q2 q1 = .past 0:=by unfold wcol; rw [if_neg (Ne.symm h),if_pos rfl]
theorem wcol_2 {C:Cx} {col:Nat→Pc} {q q1 q2:Nat} (h:q≠q2) (h':q1≠q2):wcol C col q q1 q2 q2 = .past 1:=by unfold wcol; rw [if_neg (Ne.symm h),if_neg (Ne.symm h'),if_pos rfl]
structure WldN (W0 W':World) (l:List Ch) (g:Value):Prop where
 nw:Nw W0 W'
 r:∃F pc x,g = .agg #[x]∧(∀b,F b→W0.heap.size≤b)∧WAt W' F l g∧WldP W' pc l x
theorem world_at {W0 W:World} {p:Nat} {l o:Lk} {C:Cx} {col:Nat→Pc} (h:PairAt W0 W p l o C col) (hl:l.count = (l.marks.l.length:Int)∧l.count≤1000000) (ho:o.count = (o.marks.l.length:Int)∧o.count≤1000000) :
  CallsIn Fence.wide 9 Tryz.prog 26 #[.pointer (some ⟨p,0,none⟩)] W fun e W'=>∃g,e = .returned g∧WldN W0 W' [lkChain l,lkChain o] g:=by
 obtain ⟨b1,b2,r1,r2,p1,p2⟩:=ends_in h
 obtain ⟨v0,m0,m1⟩:=h.m0
 obtain ⟨v0',m0',m1'⟩:=h.m1
 rw [← h.w] at m1 m1'
 obtain ⟨A0,A1,A3,A4,A5,A6,A7,a,n0,k0,n1,k1,n3,k3,n4,k4,n5,k5,n6,k6,n7,k7,V1,R1⟩:=lk_val (i0:=1) h.inv rfl r1 m0 m1 hl.1 hl.2
 obtain ⟨B0,B1,B3,B4,B5,B6,B7,a',i0,j0,i1,j1,i3,j3,i4,j4,i5,j5,i6,j6,i7,j7,V2,R2⟩:=lk_val (i0:=9) h.inv rfl r2 m0' m1' ho.1 ho.2
 rw [h.w] at V1 V2
 refine (world_in p1 p2 V1 V2).mono ?_
 rintro e W' ⟨q,q1,q2,rfl,hE⟩
 refine ⟨_,rfl,h.nw.trans hE.nw,wfrz C q q1 q2,wcol C col q q1 q2,_,rfl,fun b hb=>?_,⟨fun b hb=>?_,_,rfl,?_⟩,fun _=>?_⟩
 ·have:=hE.lo
  have hs:=h.nw.size
  rcases hb with hb | rfl | rfl | rfl | ⟨i,m,hr⟩
  ·exact h.frz b hb
  ·omega
  ·omega
  ·omega
  ·exact h.new i b m hr
 ·obtain ⟨qs,g1,-⟩:=hE.hq
  obtain ⟨c1,g2,-⟩:=hE.p1
  obtain ⟨c2,g3,-⟩:=hE.p2
  have hs:=hE.nw.size
  rcases hb with hb | rfl | rfl | rfl | ⟨i,m,hr⟩
  ·have:=h.inv.frz b hb
   rw [h.w] at this
   omega
  ·exact lt_of_block g1
  ·exact lt_of_block g2
  ·exact lt_of_block g3
  ·have:=(rho_lt h hr).2
   omega
 ·obtain ⟨qs,g1,g2,g3,g4⟩:=hE.hq
  refine arr_blk (a:=.chs [lkChain l,lkChain o]) g1 (.inr (.inl rfl)) rfl (by decide) fun k hk j c hj=>?_
  have hj13:j < 13:=(List.getElem?_eq_some_iff.1 hj).1
  match k,hk,hj with
  | 0,_,hj =>
   obtain ⟨u,e1,e2,-⟩:=w_ch h hE R1 ⟨rfl,rfl⟩ ⟨rfl,rfl⟩ ⟨rfl,rfl⟩ ⟨rfl,rfl⟩ ⟨rfl,rfl⟩ ⟨rfl,rfl⟩ ⟨rfl,rfl⟩ hE.p1 (.inl rfl) (wcol_1 hE.lo.2.2.2.1) (by omega) j c hj
   exact ⟨u,by show qs[0 * 13 + j]? = _; rw [Nat.zero_mul,g3 j hj13]; exact e1,e2⟩
  | 1,_,hj =>
   obtain ⟨u,e1,e2,-⟩:=w_ch h hE R2 ⟨rfl,rfl⟩ ⟨rfl,rfl⟩ ⟨rfl,rfl⟩ ⟨rfl,rfl⟩ ⟨rfl,rfl⟩ ⟨rfl,rfl⟩ ⟨rfl,rfl⟩ hE.p2 (.inr rfl) (wcol_2 hE.lo.2.2.2.2.1 hE.lo.2.2.2.2.2) (by omega) j c hj
   exact ⟨u,by show qs[1 * 13 + j]? = _; rw [Nat.one_mul,g4 j hj13]; exact e1,e2⟩
  | k + 2,hk,_=>exact absurd hk (by omega)
 ·obtain ⟨qs,g1,g2,g3,g4⟩:=hE.hq
  refine ⟨q,2,rfl,wcol_q,fun i hi g hg u hu=>?_⟩
  rw [cell_at g1] at hu
  match i,hi with
  | 0,_ =>
   obtain ⟨c,hc⟩:∃c,(chCells true (lkChain l))[g]? = some c:=⟨_,List.getElem?_eq_getElem (by show g < 13; exact hg)⟩
   obtain ⟨u',e1,-,e3⟩:=w_ch h hE R1 ⟨rfl,rfl⟩ ⟨rfl,rfl⟩ ⟨rfl,rfl⟩ ⟨rfl,rfl⟩ ⟨rfl,rfl⟩ ⟨rfl,rfl⟩ ⟨rfl,rfl⟩ hE.p1 (.inl rfl) (wcol_1 hE.lo.2.2.2.1) (by omega) g c hc
   rw [Nat.zero_mul,g3 g hg,e1] at hu
   cases hu
   exact e3
  | 1,_ =>
   obtain ⟨c,hc⟩:∃c,(chCells true (lkChain o))[g]? = some c:=⟨_,List.getElem?_eq_getElem (by show g < 13; exact hg)⟩
   obtain ⟨u',e1,-,e3⟩:=w_ch h hE R2 ⟨rfl,rfl⟩ ⟨rfl,rfl⟩ ⟨rfl,rfl⟩ ⟨rfl,rfl⟩ ⟨rfl,rfl⟩ ⟨rfl,rfl⟩ ⟨rfl,rfl⟩ hE.p2 (.inr rfl) (wcol_2 hE.lo.2.2.2.2.1 hE.lo.2.2.2.2.2) (by omega) g c hc
   rw [Nat.one_mul,g4 g hg,e1] at hu
   cases hu
   exact e3
  | i + 2,hi=>exact absurd hi (by show ¬ i + 2 < 2; omega)
theorem arr_blkF {W:World} {F:Nat→Prop} {d n b c:Nat} {a:Arr} (h:arrR W F d a (.slice (some ⟨b,0,none⟩) n c)) (h0:0 < a.len):F b:=by
 cases d with
 | zero=>exact h.elim
 | succ d =>
  obtain ⟨A,c',e,-,-,h2⟩:=h
  cases e
  obtain ⟨ad,e,h3,-⟩:=h2 0 h0
  cases e
  exact h3
theorem arr_cel {W:World} {F:Nat→Prop} {d b n c:Nat} {a:Arr} (h:arrR W F (d + 1) a (.slice (some ⟨b,0,none⟩) n c)) {k j:Nat} {x:Cell} {u:Value} (hk:k < a.len) (hj:((a.get k).cells true)[j]? = some x) (hu:W.cell? ⟨b,k * a.esz + j,none⟩ = some u):elC (arrR W F d) x u:=by
 obtain ⟨A,c',e,-,-,h2⟩:=h
 cases e
 obtain ⟨ad,e,-,h3⟩:=h2 k hk
 cases e
 obtain ⟨u',h4,h5⟩:=h3 j x hj
 rw [add_none',Nat.zero_add] at h4
 rw [h4] at hu
 cases hu
 exact h5
section
variable {W W':World} {F:Nat→Prop} {pc:Nat→Pc}
theorem PastP.ext {d i:Nat} {l:List St} {u:Value} (h:PastP W pc i l u) (ha:arrR W F d (.sts l) u) (hb:∀b,F b→W'.heap[b]? = W.heap[b]?):PastP W' pc i l u:=fun h0=>by
 obtain ⟨b,c,rfl,h1,h2⟩:=h h0
 have hF:=arr_blkF ha h0
 refine ⟨b,c,rfl,h1,fun j hj g hg u hu=>h2 j hj g hg u ?_⟩
 rw [← hu]
 exact (World.cell?_of_block (hb b hF)).symm
theorem ChP.ext {d i g:Nat} {c:Ch} {x:Cell} {u:Value} (h:ChP W pc i c g u) (hx:(chCells true c)[g]? = some x) (ha:elC (arrR W F d) x u) (hb:∀b,F b→W'.heap[b]? = W.heap[b]?):ChP W' pc i c g u:=by
 match g,hx with
 | 0,_=>exact h
 | 1,_=>exact h
 | 2,_=>exact h
 | 3,_=>exact h
 | 4,_=>exact h
 | 5,_=>exact h
 | 6,_=>exact h
 | 7,_=>exact h
 | 8,_=>exact h
 | 9,_=>exact h
 | 10,_=>exact h
 | 11,hx=>cases hx; exact PastP.ext h ha hb
 | 12,_=>exact h
 | g + 13,hx=>cases hx
theorem WldP.ext {d:Nat} {l:List Ch} {v:Value} (h:WldP W pc l v) (ha:arrR W F (d + 1) (.chs l) v) (hb:∀b,F b→W'.heap[b]? = W.heap[b]?):WldP W' pc l v:=fun h0=>by
 obtain ⟨b,c,rfl,h1,h2⟩:=h h0
 have hF:=arr_blkF ha h0
 refine ⟨b,c,rfl,h1,fun i hi g hg u hu=>?_⟩
 have hu':W.cell? ⟨b,i * 13 + g,none⟩ = some u:=by
  rw [← hu]
  exact (World.cell?_of_block (hb b hF)).symm
 obtain ⟨x,hx⟩:∃x,(chCells true (l.getD i zCh))[g]? = some x:=⟨_,List.getElem?_eq_getElem (by show g < 13; exact hg)⟩
 exact (h2 i hi g hg u hu').ext hx (arr_cel (a:=.chs l) ha hi hx hu') hb
end
theorem WldN.out {W0 W:World} {l:List Ch} {g:Value} (h:WldN W0 W l g):∃A c,g = .agg #[.slice A l.length c]:=by
 obtain ⟨-,F,pc,x,rfl,-,⟨-,y,e,A,c,e2,-⟩,-⟩:=h
 have:x = y:=by
  have:=Value.agg.inj e
  exact congrArg (fun a:Array Value=>a.getD 0 x) this
 exact ⟨A,c,by rw [this,e2]; rfl⟩
theorem WldN.to {W0 W W' W1:World} {l:List Ch} {g:Value} (h:WldN W0 W l g) (n:Nw W1 W') (hs:W1.heap.size≤W0.heap.size) (hz:W.heap.size≤W'.heap.size) (hb:∀b,W0.heap.size≤b→b < W.heap.size→W'.heap[b]? = W.heap[b]?):WldN W1 W' l g:=by
 obtain ⟨-,F,pc,x,rfl,h1,⟨h2,y,e,h3⟩,h4⟩:=h
 have:x = y:=by
  have:=Value.agg.inj e
  exact congrArg (fun a:Array Value=>a.getD 0 x) this
 subst this
 have hk:∀b,F b→W'.heap[b]? = W.heap[b]?:=fun b hF=>hb b (h1 b hF) (h2 b hF)
 exact ⟨n,F,pc,x,rfl,fun b hF=>Nat.le_trans hs (h1 b hF),⟨fun b hF=>Nat.lt_of_lt_of_le (h2 b hF) hz,x,rfl,arrR_ext (fun _ h=>h) hk 4 _ _ h3⟩,h4.ext h3 hk⟩
end Hw
end Go.Proofs.YtklmllaggigkfaaGreat
