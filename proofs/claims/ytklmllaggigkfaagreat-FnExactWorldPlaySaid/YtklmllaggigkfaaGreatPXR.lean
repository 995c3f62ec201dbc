/- What a law writes over a world, cell by cell, and finds there again. -/
import Derived.Shelf.Abstract
import Derived.RangeFuncBox
import Derived.WalkKit
import Derived.OwnWalkIn
import Derived.TacticsInMore
import Derived.LoopNIn
import Derived.LoopIn
import Derived.Test.YtklmllaggigkfaaGreatProg
import Derived.Test.YtklmllaggigkfaaGreatPXM
namespace Go.Proofs.YtklmllaggigkfaaGreat
namespace Hw
open Go Go.RowKit
attribute [local go_sem] Oper.semAt_some
set_option maxRecDepth 100000
set_option linter.unusedVariables false
set_option linter.unusedSimpArgs false
set_option maxHeartbeats 10000000
def mv (f:Bool) (k:Int):Value:=match f with
 | true=>.bool (k % 3 == 0)
 | false=>.int .i64 k
structure Is (W W':World):Prop where
 e:W = W'
def putL:World→List (Addr×Bool)→Int→World
 | W,[],_=>W
 | W,a :: r,k=>putL (W.setCell a.1 (mv a.2 k)) r (k + 1)
theorem putL_app:∀(xs bs:List (Addr×Bool)) (W:World) (k:Int),putL W (xs ++ bs) k = putL (putL W xs k) bs (k + xs.length)
 | [],bs,W,k=>by simp [putL]
 | a :: r,bs,W,k=>by
  rw [List.cons_append,putL,putL_app r bs,putL]
  congr 1
  simp only [List.length_cons]
  omega
def sgA (b off m:Nat) (f:Bool):List (Addr×Bool):=(List.range m).map fun t=>(⟨b,off + t,none⟩,f)
theorem sgA_len (b off m:Nat) (f:Bool):(sgA b off m f).length = m:=by simp [sgA]
theorem sgA_add (b off m n:Nat) (f:Bool):sgA b off (m + n) f = sgA b off m f ++ sgA b (off + m) n f:=by
 unfold sgA
 rw [List.range_add,List.map_append,List.map_map]
 congr 1
 refine List.map_congr_left fun t _=>?_
 simp [Nat.add_assoc]
def rowA (v:Value) (m:Nat) (f:Bool):List (Addr×Bool):=match v with
 | .slice (some a) _ _=>sgA a.block a.off m f
 | _=>[]
def cv (W:World) (b o:Nat):Value:=(W.cell? ⟨b,o,none⟩).getD (.int .i64 0)
theorem cv_at {W:World} {b o:Nat} {u:Value} (h:W.cell? ⟨b,o,none⟩ = some u):cv W b o = u:=by unfold cv; rw [h]; rfl
theorem put_sgA {W wr W':World} {b off m n:Nat} {f:Bool} {k k':Int} (h:wr = putL W (sgA b off m f) k) (hk:k' = k + m) (e:W' = putL wr (sgA b (off + m) n f) k'):W' = putL W (sgA b off (m + n) f) k:=by
 rw [sgA_add,putL_app,← h,sgA_len,← hk]
 exact e
theorem put_one {W:World} {b o:Nat} {f:Bool} {k:Int}:putL W (sgA b o 1 f) k = W.setCell ⟨b,o,none⟩ (mv f k):=by
 simp only [sgA,List.range_succ,List.range_zero,List.nil_append,List.map_cons,List.map_nil,putL,Nat.add_zero]
theorem put_seven {W:World} {b o:Nat} {k:Int}:putL W (sgA b o 7 false) k = ((((((W.setCell ⟨b,o,none⟩ (.int .i64 k)).setCell ⟨b,o + 1,none⟩ (.int .i64 (k + 1))).setCell ⟨b,o + 2,none⟩ (.int .i64 (k + 1 + 1))).setCell ⟨b,o + 3,none⟩ (.int .i64 (k + 1 + 1 + 1))).setCell ⟨b,o + 4,none⟩ (.int .i64 (k + 1 + 1 + 1 + 1))).setCell ⟨b,o + 5,none⟩ (.int .i64 (k + 1 + 1 + 1 + 1 + 1))).setCell ⟨b,o + 6,none⟩ (.int .i64 (k + 1 + 1 + 1 + 1 + 1 + 1)):=by
 simp only [sgA,List.range_succ,List.range_zero,List.nil_append,List.map_cons,List.map_nil,List.cons_append,List.append_assoc,List.map_append,putL,mv,Nat.add_zero]
theorem rowA_zero (A:Option Addr) (l c:Nat) (f:Bool):rowA (.slice A l c) 0 f = []:=by cases A <;> rfl
theorem rowA_some (b off l c m:Nat) (f:Bool):rowA (.slice (some ⟨b,off,none⟩) l c) m f = sgA b off m f:=rfl
theorem markInts_ex (F:Fence) (n:Nat) (hf:F.fn 56) (hro:F.round = none) (R:Nat→Prop) (l:Nat) (v:Value) (k:Int) (W:World) (hu:UnfR R W) (hv:IntsW W R l v) (h0:0≤k) (hk:k + (l:Int)≤9223372036854775807) :
  CallsIn F n Tryz.prog 56 #[v,.int .i64 k] W fun e W'=>e = .returned (.int .i64 (k + l))∧Mk R W W'∧W' = putL W (rowA v l false) k:=by
 obtain ⟨A,c,rfl,hl,hrow⟩:=hv
 refine callsIn_of_wp Tryz.func56 rfl hf ?_ hro
 simp only [Tryz.ntmps56,List.size_toArray,List.length_cons,List.length_nil,Nat.reduceAdd,Nat.reduceSub,Array.replicate_succ,Array.replicate_zero,List.push_toArray,List.append_toArray,List.nil_append,List.cons_append]
 gi_wp2
 gi_loopw [1,5] (fun kk i wr=>∃j:Nat,j≤l∧kk = .int .i64 (k + j)∧i = .int .i64 j∧Mk R W wr∧Is wr (putL W (rowA (.slice A l c) j false) k))
  (fun _ i _=>l - (intOf i).toNat)
 case atStart=>exact ⟨0,Nat.zero_le _,by simp,rfl,Mk.refl _ _,⟨by rw [rowA_zero]; rfl⟩⟩
 case round =>
  obtain ⟨j,hj,rfl,rfl,hm,he⟩:=hrel
  by_cases hlt:j < l
  ·obtain ⟨b,off,rfl,hR,hc⟩:=hrow (by omega)
   obtain ⟨u,hu1,x,rfl⟩:=hc j hlt 0 (by decide)
   rw [Nat.mul_one,Nat.add_zero] at hu1
   obtain ⟨u2,hc2,hl2⟩:=hm.cell _ _ hu1
   obtain ⟨y,rfl⟩:=isI.like ⟨x,rfl⟩ hl2
   have hz:wr.frozen? ⟨b,off + j,none⟩ = false:=(hu.mk hm).at hR
   gi_wp2
   go_roundw
   case rel =>
    refine ⟨j + 1,by omega,?_,?_,hm.trans (Mk.set hR hc2 (.inr (.inl ⟨_,_,rfl,rfl⟩))),?_⟩
    ·rw [show k + (j:Int) + 1 = k + ((j + 1:Nat):Int) by omega]
    ·rw [show (j:Int) + 1 = ((j + 1:Nat):Int) by omega]
    ·refine ⟨?_⟩
     have he:=he.e
     rw [rowA_some] at he ⊢
     exact put_sgA (n:=1) he rfl (put_one (f:=false)).symm
   case measure=>simp [intOf]; omega
  ·obtain rfl:j = l:=by omega
   gi_wp2
   go_ret
   exact ⟨rfl,hm,he.e⟩
theorem markBools_ex (F:Fence) (n:Nat) (hf:F.fn 58) (hro:F.round = none) (R:Nat→Prop) (l:Nat) (v:Value) (k:Int) (W:World) (hu:UnfR R W) (hv:BoolsW W R l v) (h0:0≤k) (hk:k + (l:Int)≤9223372036854775807) :
  CallsIn F n Tryz.prog 58 #[v,.int .i64 k] W fun e W'=>e = .returned (.int .i64 (k + l))∧Mk R W W'∧W' = putL W (rowA v l true) k:=by
 obtain ⟨A,c,rfl,hl,hrow⟩:=hv
 refine callsIn_of_wp Tryz.func58 rfl hf ?_ hro
 simp only [Tryz.ntmps58,List.size_toArray,List.length_cons,List.length_nil,Nat.reduceAdd,Nat.reduceSub,Array.replicate_succ,Array.replicate_zero,List.push_toArray,List.append_toArray,List.nil_append,List.cons_append]
 gi_wp2
 gi_loopw [1,5] (fun kk i wr=>∃j:Nat,j≤l∧kk = .int .i64 (k + j)∧i = .int .i64 j∧Mk R W wr∧Is wr (putL W (rowA (.slice A l c) j true) k))
  (fun _ i _=>l - (intOf i).toNat)
 case atStart=>exact ⟨0,Nat.zero_le _,by simp,rfl,Mk.refl _ _,⟨by rw [rowA_zero]; rfl⟩⟩
 case round =>
  obtain ⟨j,hj,rfl,rfl,hm,he⟩:=hrel
  by_cases hlt:j < l
  ·obtain ⟨b,off,rfl,hR,hc⟩:=hrow (by omega)
   obtain ⟨u,hu1,x,rfl⟩:=hc j hlt 0 (by decide)
   rw [Nat.mul_one,Nat.add_zero] at hu1
   obtain ⟨u2,hc2,hl2⟩:=hm.cell _ _ hu1
   obtain ⟨y,rfl⟩:=isB.like ⟨x,rfl⟩ hl2
   have hz:wr.frozen? ⟨b,off + j,none⟩ = false:=(hu.mk hm).at hR
   gi_wp2
   go_roundw
   case rel =>
    refine ⟨j + 1,by omega,?_,?_,hm.trans (Mk.set hR hc2 (.inr (.inr ⟨_,_,rfl,rfl⟩))),?_⟩
    ·rw [show k + (j:Int) + 1 = k + ((j + 1:Nat):Int) by omega]
    ·rw [show (j:Int) + 1 = ((j + 1:Nat):Int) by omega]
    ·refine ⟨?_⟩
     have he:=he.e
     rw [rowA_some] at he ⊢
     exact put_sgA (n:=1) he rfl (put_one (f:=true)).symm
   case measure=>simp [intOf]; omega
  ·obtain rfl:j = l:=by omega
   gi_wp2
   go_ret
   exact ⟨rfl,hm,he.e⟩
theorem markPkts_ex (F:Fence) (n:Nat) (hf:F.fn 57) (hro:F.round = none) (R:Nat→Prop) (l:Nat) (v:Value) (k:Int) (W:World) (hu:UnfR R W) (hv:PktsW W R l v) (h0:0≤k) (hk:k + 7 * (l:Int)≤9223372036854775807) (hreach:l * 56≤140737488351232) :
  CallsIn F n Tryz.prog 57 #[v,.int .i64 k] W fun e W'=>e = .returned (.int .i64 (k + 7 * l))∧Mk R W W'∧W' = putL W (rowA v (7 * l) false) k:=by
 obtain ⟨A,c,rfl,hl,hrow⟩:=hv
 refine callsIn_of_wp Tryz.func57 rfl hf ?_ hro
 simp only [Tryz.ntmps57,List.size_toArray,List.length_cons,List.length_nil,Nat.reduceAdd,Nat.reduceSub,Array.replicate_succ,Array.replicate_zero,List.push_toArray,List.append_toArray,List.nil_append,List.cons_append]
 gi_wp2
 gi_loopw [1,5] (fun kk i wr=>∃j:Nat,j≤l∧kk = .int .i64 (k + 7 * j)∧i = .int .i64 j∧Mk R W wr∧Is wr (putL W (rowA (.slice A l c) (7 * j) false) k))
  (fun _ i _=>l - (intOf i).toNat)
 case atStart=>exact ⟨0,Nat.zero_le _,by simp,rfl,Mk.refl _ _,⟨by rw [rowA_zero]; rfl⟩⟩
 case round =>
  obtain ⟨j,hj,rfl,rfl,hm,he⟩:=hrel
  by_cases hlt:j < l
  ·obtain ⟨b,off,rfl,hR,hc⟩:=hrow (by omega)
   have key:∀i,i < 7→∃y,wr.cell? ⟨b,off + j * 7 + i,none⟩ = some (.int .i64 y):=fun i hi=>by
    obtain ⟨u,hu1,x,rfl⟩:=hc j hlt i hi
    rw [← Nat.add_assoc] at hu1
    obtain ⟨u2,hc2,hl2⟩:=hm.cell _ _ hu1
    obtain ⟨y,rfl⟩:=isI.like ⟨x,rfl⟩ hl2
    exact ⟨y,hc2⟩
   have hz:∀o,wr.frozen? ⟨b,o,none⟩ = false:=fun o=>(hu.mk hm).at hR
   obtain ⟨y0,c0⟩:=key 0 (by decide)
   obtain ⟨y1,c1⟩:=key 1 (by decide)
   obtain ⟨y2,c2⟩:=key 2 (by decide)
   obtain ⟨y3,c3⟩:=key 3 (by decide)
   obtain ⟨y4,c4⟩:=key 4 (by decide)
   obtain ⟨y5,c5⟩:=key 5 (by decide)
   obtain ⟨y6,c6⟩:=key 6 (by decide)
   have z0:=hz (off + j * 7)
   have z1:=hz (off + j * 7 + 1)
   have z2:=hz (off + j * 7 + 2)
   have z3:=hz (off + j * 7 + 3)
   have z4:=hz (off + j * 7 + 4)
   have z5:=hz (off + j * 7 + 5)
   have z6:=hz (off + j * 7 + 6)
   have c0:wr.cell? ⟨b,off + j * 7,none⟩ = some (.int .i64 y0):=c0
   gi_wp2
   go_roundw
   case rel =>
    refine ⟨j + 1,by omega,?_,?_,hm.trans ((((((((Mk.refl R wr).put hR c0).put hR c1).put hR c2).put hR c3).put hR c4).put hR c5).put hR c6),?_⟩
    ·rw [show k + 7 * (j:Int) + 1 + 1 + 1 + 1 + 1 + 1 + 1 = k + 7 * ((j + 1:Nat):Int) by omega]
    ·rw [show (j:Int) + 1 = ((j + 1:Nat):Int) by omega]
    ·rw [show off + j * 7 = off + 7 * j by omega]
     refine ⟨?_⟩
     have he:=he.e
     rw [rowA_some] at he ⊢
     exact put_sgA (m:=7 * j) (n:=7) he (by omega) put_seven.symm
   case measure=>simp [intOf]; omega
  ·obtain rfl:j = l:=by omega
   gi_wp2
   go_ret
   exact ⟨rfl,hm,he.e⟩
theorem heldInts_ex (F:Fence) (n:Nat) (hf:F.fn 60) (hro:F.round = none) (l:Nat) (A:Option Addr) (c:Nat) (k:Int) (W:World) (hv:0 < l→∃b off,A = some ⟨b,off,none⟩∧∀t,t < l→W.cell? ⟨b,off + t,none⟩ = some (.int .i64 (k + t))) (h0:0≤k) (hk:k + (l:Int)≤9223372036854775807) :
  CallsIn F n Tryz.prog 60 #[.slice A l c,.int .i64 k] W fun e W'=>e = .returned (.int .i64 (k + l))∧W' = W:=by
 refine callsIn_of_wp Tryz.func60 rfl hf ?_ hro
 simp only [Tryz.ntmps60,List.size_toArray,List.length_cons,List.length_nil,Nat.reduceAdd,Nat.reduceSub,Array.replicate_succ,Array.replicate_zero,List.push_toArray,List.append_toArray,List.nil_append,List.cons_append]
 gi_wp2
 gi_loopw [1,5] (fun kk i wr=>∃j:Nat,j≤l∧kk = .int .i64 (k + j)∧i = .int .i64 j∧wr = W)
  (fun _ i _=>l - (intOf i).toNat)
 case atStart=>exact ⟨0,Nat.zero_le _,by simp,rfl,rfl⟩
 case round =>
  obtain ⟨j,hj,rfl,rfl,rfl⟩:=hrel
  by_cases hlt:j < l
  ·obtain ⟨b,off,rfl,hc⟩:=hv (by omega)
   have hc2:=hc j hlt
   clear hc
   gi_wp2
   go_roundw
   case rel =>
    refine ⟨j + 1,by omega,?_,?_,trivial⟩
    ·rw [show k + (j:Int) + 1 = k + ((j + 1:Nat):Int) by omega]
    ·rw [show (j:Int) + 1 = ((j + 1:Nat):Int) by omega]
   case measure=>simp [intOf]; omega
  ·obtain rfl:j = l:=by omega
   gi_wp2
   go_ret
   exact ⟨rfl,rfl⟩
theorem heldBools_ex (F:Fence) (n:Nat) (hf:F.fn 62) (hro:F.round = none) (l:Nat) (A:Option Addr) (c:Nat) (k:Int) (W:World) (hv:0 < l→∃b off,A = some ⟨b,off,none⟩∧∀t,t < l→W.cell? ⟨b,off + t,none⟩ = some (.bool ((k + t) % 3 == 0))) (h0:0≤k) (hk:k + (l:Int)≤9223372036854775807) :
  CallsIn F n Tryz.prog 62 #[.slice A l c,.int .i64 k] W fun e W'=>e = .returned (.int .i64 (k + l))∧W' = W:=by
 refine callsIn_of_wp Tryz.func62 rfl hf ?_ hro
 simp only [Tryz.ntmps62,List.size_toArray,List.length_cons,List.length_nil,Nat.reduceAdd,Nat.reduceSub,Array.replicate_succ,Array.replicate_zero,List.push_toArray,List.append_toArray,List.nil_append,List.cons_append]
 gi_wp2
 gi_loopw [1,5] (fun kk i wr=>∃j:Nat,j≤l∧kk = .int .i64 (k + j)∧i = .int .i64 j∧wr = W)
  (fun _ i _=>l - (intOf i).toNat)
 case atStart=>exact ⟨0,Nat.zero_le _,by simp,rfl,rfl⟩
 case round =>
  obtain ⟨j,hj,rfl,rfl,rfl⟩:=hrel
  by_cases hlt:j < l
  ·obtain ⟨b,off,rfl,hc⟩:=hv (by omega)
   have hc2:=hc j hlt
   clear hc
   gi_wp2
   go_roundw
   case rel =>
    refine ⟨j + 1,by omega,?_,?_,trivial⟩
    ·rw [show k + (j:Int) + 1 = k + ((j + 1:Nat):Int) by omega]
    ·rw [show (j:Int) + 1 = ((j + 1:Nat):Int) by omega]
   case measure=>simp [intOf]; omega
  ·obtain rfl:j = l:=by omega
   gi_wp2
   go_ret
   exact ⟨rfl,rfl⟩
theorem heldPkts_ex (F:Fence) (n:Nat) (hf:F.fn 61) (hro:F.round = none) (l:Nat) (A:Option Addr) (c:Nat) (k:Int) (W:World) (hv:0 < l→∃b off,A = some ⟨b,off,none⟩∧∀t,t < 7 * l→W.cell? ⟨b,off + t,none⟩ = some (.int .i64 (k + t))) (h0:0≤k) (hk:k + 7 * (l:Int)≤9223372036854775807) (hreach:l * 56≤140737488351232) :
  CallsIn F n Tryz.prog 61 #[.slice A l c,.int .i64 k] W fun e W'=>e = .returned (.int .i64 (k + 7 * l))∧W' = W:=by
 refine callsIn_of_wp Tryz.func61 rfl hf ?_ hro
 simp only [Tryz.ntmps61,List.size_toArray,List.length_cons,List.length_nil,Nat.reduceAdd,Nat.reduceSub,Array.replicate_succ,Array.replicate_zero,List.push_toArray,List.append_toArray,List.nil_append,List.cons_append]
 gi_wp2
 gi_loopw [1,5] (fun kk i wr=>∃j:Nat,j≤l∧kk = .int .i64 (k + 7 * j)∧i = .int .i64 j∧wr = W)
  (fun _ i _=>l - (intOf i).toNat)
 case atStart=>exact ⟨0,Nat.zero_le _,by simp,rfl,rfl⟩
 case round =>
  obtain ⟨j,hj,rfl,rfl,rfl⟩:=hrel
  by_cases hlt:j < l
  ·obtain ⟨b,off,rfl,hc⟩:=hv (by omega)
   have key:∀i:Nat,i < 7→wr.cell? ⟨b,off + j * 7 + i,none⟩ = some (.int .i64 (k + 7 * j + i)):=fun i hi=>by
    have:=hc (7 * j + i) (by omega)
    rw [show off + (7 * j + i) = off + j * 7 + i by omega,show k + ((7 * j + i:Nat):Int) = k + 7 * (j:Int) + (i:Int) by omega] at this
    exact this
   have c0:wr.cell? ⟨b,off + j * 7,none⟩ = some (.int .i64 (k + 7 * j)):=by have:=key 0 (by decide); simpa using this
   have c1:wr.cell? ⟨b,off + j * 7 + 1,none⟩ = some (.int .i64 (k + 7 * j + 1)):=key 1 (by decide)
   have c2:wr.cell? ⟨b,off + j * 7 + 2,none⟩ = some (.int .i64 (k + 7 * j + 1 + 1)):=by have:=key 2 (by decide); rw [this]; congr 2; omega
   have c3:wr.cell? ⟨b,off + j * 7 + 3,none⟩ = some (.int .i64 (k + 7 * j + 1 + 1 + 1)):=by have:=key 3 (by decide); rw [this]; congr 2; omega
   have c4:wr.cell? ⟨b,off + j * 7 + 4,none⟩ = some (.int .i64 (k + 7 * j + 1 + 1 + 1 + 1)):=by have:=key 4 (by decide); rw [this]; congr 2; omega
   have c5:wr.cell? ⟨b,off + j * 7 + 5,none⟩ = some (.int .i64 (k + 7 * j + 1 + 1 + 1 + 1 + 1)):=by have:=key 5 (by decide); rw [this]; congr 2; omega
   have c6:wr.cell? ⟨b,off + j * 7 + 6,none⟩ = some (.int .i64 (k + 7 * j + 1 + 1 + 1 + 1 + 1 + 1)):=by have:=key 6 (by decide); rw [this]; congr 2; omega
   clear hc key
   gi_wp2
   go_roundw
   case rel =>
    refine ⟨j + 1,by omega,?_,?_,trivial⟩
    ·rw [show k + 7 * (j:Int) + 1 + 1 + 1 + 1 + 1 + 1 + 1 = k + 7 * ((j + 1:Nat):Int) by omega]
    ·rw [show (j:Int) + 1 = ((j + 1:Nat):Int) by omega]
   case measure=>simp [intOf]; omega
  ·obtain rfl:j = l:=by omega
   gi_wp2
   go_ret
   exact ⟨rfl,rfl⟩
end Hw
end Go.Proofs.YtklmllaggigkfaaGreat
namespace Go.Proofs.YtklmllaggigkfaaGreat
namespace Hw
open Go Go.RowKit
attribute [local go_sem] Oper.semAt_some
set_option maxRecDepth 100000
set_option linter.unusedVariables false
set_option linter.unusedSimpArgs false
set_option maxHeartbeats 10000000
structure IsV (u v:Value):Prop where
 e:u = v
def stA (W:World) (b o:Nat) (s:St):List (Addr×Bool):=(⟨b,o,none⟩,false) :: (⟨b,o + 1,none⟩,false) :: (⟨b,o + 2,none⟩,false) :: (rowA (cv W b (o + 3)) (7 * s.sent.length) false ++ (rowA (cv W b (o + 4)) s.live.length true ++ (rowA (cv W b (o + 5)) s.back.length true ++ rowA (cv W b (o + 6)) s.got.length false)))
def stsA (W:World) (b o:Nat) (l:List St):Nat→List (Addr×Bool)
 | 0=>[]
 | j + 1=>stsA W b o l j ++ stA W b (o + j * 7) (l.getD j zSt)
def pastA (W:World) (v:Value) (l:List St) (j:Nat):List (Addr×Bool):=match v with
 | .slice (some a) _ _=>stsA W a.block a.off l j
 | _=>[]
theorem row_len {W:World} {R:Nat→Prop} {v:Value} {n z:Nat} {P:Nat→Nat→Value→Prop} (h:RowW W R v n z P) {m:Nat} {f:Bool} (hm:n = 0→m = 0):(rowA v m f).length = m:=by
 obtain ⟨A,c,rfl,-,h2⟩:=h
 rcases Nat.eq_zero_or_pos n with h0 | h0
 ·rw [hm h0,rowA_zero]; rfl
 ·obtain ⟨b,off,rfl,-⟩:=h2 h0
  rw [rowA_some,sgA_len]
theorem row_slice {W:World} {R:Nat→Prop} {v:Value} {n z:Nat} {P:Nat→Nat→Value→Prop} (h:RowW W R v n z P):∃A c,v = .slice A n c:=by
 obtain ⟨A,c,rfl,-⟩:=h
 exact ⟨A,c,rfl⟩
theorem cv_keep {R R':Nat→Prop} {W x:World} {b o n z:Nat} {P:Nat→Nat→Value→Prop} {u u0:Value} (h:Mk R W x) (h0:W.cell? ⟨b,o,none⟩ = some u0) (hr:RowW W R' u0 n z P) (h1:x.cell? ⟨b,o,none⟩ = some u):u = cv W b o:=by
 obtain ⟨v,h2,h3⟩:=h.cell _ _ h0
 obtain ⟨A,c,rfl⟩:=row_slice hr
 rw [cv_at h0,← sl_like h3]
 rw [h1] at h2
 cases h2
 rfl
theorem st_len {W:World} {R:Nat→Prop} {b o:Nat} {s:St} (h:∀i,i < 7→∃u,W.cell? ⟨b,o + i,none⟩ = some u∧StW W R s i u):(stA W b o s).length = stN s:=by
 obtain ⟨u3,c3,s3⟩:=h 3 (by decide)
 obtain ⟨u4,c4,s4⟩:=h 4 (by decide)
 obtain ⟨u5,c5,s5⟩:=h 5 (by decide)
 obtain ⟨u6,c6,s6⟩:=h 6 (by decide)
 have s3:PktsW W R s.sent.length u3:=s3
 have s4:BoolsW W R s.live.length u4:=s4
 have s5:BoolsW W R s.back.length u5:=s5
 have s6:IntsW W R s.got.length u6:=s6
 unfold stA stN
 simp only [List.length_cons,List.length_append]
 rw [cv_at c3,cv_at c4,cv_at c5,cv_at c6,row_len s3 (m:=7 * s.sent.length) (by omega),row_len s4 (m:=s.live.length) (by omega),row_len s5 (m:=s.back.length) (by omega),row_len s6 (m:=s.got.length) (by omega)]
 omega
theorem sts_at {W x:World} {R R':Nat→Prop} {l:List St} {b off c:Nat} (hv:StsW W R l (.slice (some ⟨b,off,none⟩) l.length c)) (hx:Mk R' W x) {j:Nat} (hj:j < l.length):∀i,i < 7→∃u,x.cell? ⟨b,off + j * 7 + i,none⟩ = some u∧StW x R (l.getD j zSt) i u:=fun i hi=>by
 obtain ⟨A',c',e,-,h2⟩:=hv.mk hx
 cases e
 obtain ⟨b',off',e,-,h3⟩:=h2 (by omega)
 cases e
 have h4:=h3 j hj i hi
 rw [← Nat.add_assoc] at h4
 exact h4
theorem sts_len {W:World} {R:Nat→Prop} {l:List St} {b off c:Nat} (hv:StsW W R l (.slice (some ⟨b,off,none⟩) l.length c)):∀j,j≤l.length→(stsA W b off l j).length = stsN l j
 | 0,_=>rfl
 | j + 1,h=>by
  rw [stsA,List.length_append,sts_len hv j (by omega),st_len (sts_at hv (Mk.refl R W) (by omega))]
  rfl
theorem markSts_ex (F:Fence) (n:Nat) (hf:F.fn 59) (hp:F.fn 57) (hb:F.fn 58) (hi:F.fn 56) (hro:F.round = none) (hn:1≤n) (R:Nat→Prop) (l:List St) (v:Value) (k:Int) (W:World) (hu:UnfR R W) (hv:StsW W R l v) (h0:0≤k) (hk:k + (stsN l l.length:Int)≤1000000000000) (hs:∀j,j < l.length→(l.getD j zSt).sent.length≤4294967296) :
  CallsIn F n Tryz.prog 59 #[v,.int .i64 k] W fun e W'=>e = .returned (.int .i64 (k + stsN l l.length))∧Mk R W W'∧W' = putL W (pastA W v l l.length) k:=by
 obtain ⟨A,c,rfl,hl,hrow⟩:=id hv
 refine callsIn_of_wp Tryz.func59 rfl hf ?_ hro
 simp only [Tryz.ntmps59,List.size_toArray,List.length_cons,List.length_nil,Nat.reduceAdd,Nat.reduceSub,Array.replicate_succ,Array.replicate_zero,List.push_toArray,List.append_toArray,List.nil_append,List.cons_append]
 gi_wp2
 gi_loopw [1,5] (fun kk i wr=>∃j:Nat,j≤l.length∧kk = .int .i64 (k + stsN l j)∧i = .int .i64 j∧Mk R W wr∧Is wr (putL W (pastA W (.slice A l.length c) l j) k))
  (fun _ i _=>l.length - (intOf i).toNat)
 case atStart=>exact ⟨0,Nat.zero_le _,by simp [stsN],rfl,Mk.refl _ _,⟨by cases A <;> rfl⟩⟩
 case round =>
  obtain ⟨j,hj,rfl,rfl,hm,he⟩:=hrel
  by_cases hlt:j < l.length
  ·obtain ⟨b,off,rfl,hR,-⟩:=hrow (by omega)
   have hle:stsN l j + stN (l.getD j zSt)≤stsN l l.length:=stsN_le (l:=l) (a:=j + 1) (by omega)
   have hsj:=hs j hlt
   obtain ⟨s,es⟩:∃s,l.getD j zSt = s:=⟨_,rfl⟩
   have e1:stsN l (j + 1) = stsN l j + stN s:=by rw [← es]; rfl
   rw [es] at hle hsj
   have hst:stN s = 3 + 7 * s.sent.length + s.live.length + s.back.length + s.got.length:=rfl
   have at_:∀{x:World},Mk R W x→∀i,i < 7→∃u,x.cell? ⟨b,off + j * 7 + i,none⟩ = some u∧StW x R s i u:=fun hx i hi=>by
    rw [← es]; exact sts_at hv hx hlt i hi
   have z_:∀i (n z:Nat) (P:Nat→Nat→Value→Prop),i < 7→(∀u,StW W R s i u→RowW W R u n z P)→∀{x:World} {u:Value},Mk R W x→x.cell? ⟨b,off + j * 7 + i,none⟩ = some u→IsV u (cv W b (off + j * 7 + i)):=fun i n z P hi hP x u hx hu=>⟨by
    obtain ⟨u0,h0,h1⟩:=at_ (Mk.refl R W) i hi
    exact cv_keep hx h0 (hP u0 h1) hu⟩
   have hz:∀{x:World},Mk R W x→∀o,x.frozen? ⟨b,o,none⟩ = false:=fun hx o=>(hu.mk hx).at hR
   obtain ⟨_,c0,y0,rfl⟩:=at_ hm 0 (by decide)
   obtain ⟨_,c1,y1,rfl⟩:=at_ hm 1 (by decide)
   obtain ⟨_,c2,y2,rfl⟩:=at_ hm 2 (by decide)
   obtain ⟨u3,c3,s3⟩:=at_ hm 3 (by decide)
   have z0:=hz hm (off + j * 7)
   have z1:=hz hm (off + j * 7 + 1)
   have z2:=hz hm (off + j * 7 + 2)
   replace c0:wr.cell? ⟨b,off + j * 7,none⟩ = some (.int .i64 y0):=c0
   have q0:Mk R wr _:=(((Mk.refl R wr).put (m:=k + stsN l j) hR c0).put (m:=k + stsN l j + 1) hR c1).put (m:=k + stsN l j + 1 + 1) hR c2
   have m0:=hm.trans q0
   gi_wp2
   refine (markPkts_ex F (n - 1) hp hro R _ u3 _ _ (hu.mk m0) (StW.mk q0 (.inl rfl) s3) (by omega) (by omega) (by omega)).mono ?_
   rintro e w1 ⟨rfl,q1,p1⟩
   have k3:=row_len (m:=7 * s.sent.length) (f:=false) s3 (by omega)
   have x3:=z_ 3 _ _ _ (by decide) (fun _ h=>h) hm c3
   replace p1:Is w1 _:=⟨p1⟩
   have m1:=m0.trans q1
   obtain ⟨u4,c4,s4⟩:=at_ m1 4 (by decide)
   clear c0 c1 c2 c3 s3 z0 z1 z2 q0 q1 m0
   gi_wp2
   refine (markBools_ex F (n - 1) hb hro R _ u4 _ _ (hu.mk m1) s4 (by omega) (by omega)).mono ?_
   rintro e w2 ⟨rfl,q2,p2⟩
   have k4:=row_len (m:=s.live.length) (f:=true) s4 (by omega)
   have x4:=z_ 4 _ _ _ (by decide) (fun _ h=>h) m1 c4
   replace p2:Is w2 _:=⟨p2⟩
   have m2:=m1.trans q2
   obtain ⟨u5,c5,s5⟩:=at_ m2 5 (by decide)
   clear c4 s4 q2 m1
   gi_wp2
   refine (markBools_ex F (n - 1) hb hro R _ u5 _ _ (hu.mk m2) s5 (by omega) (by omega)).mono ?_
   rintro e w3 ⟨rfl,q3,p3⟩
   have k5:=row_len (m:=s.back.length) (f:=true) s5 (by omega)
   have x5:=z_ 5 _ _ _ (by decide) (fun _ h=>h) m2 c5
   replace p3:Is w3 _:=⟨p3⟩
   have m3:=m2.trans q3
   obtain ⟨u6,c6,s6⟩:=at_ m3 6 (by decide)
   clear c5 s5 q3 m2
   gi_wp2
   refine (markInts_ex F (n - 1) hi hro R _ u6 _ _ (hu.mk m3) s6 (by omega) (by omega)).mono ?_
   rintro e w4 ⟨rfl,q4,p4⟩
   have k6:=row_len (m:=s.got.length) (f:=false) s6 (by omega)
   have x6:=z_ 6 _ _ _ (by decide) (fun _ h=>h) m3 c6
   replace p4:Is w4 _:=⟨p4⟩
   have m4:=m3.trans q4
   clear c6 s6 q4 m3
   gi_wp2
   go_roundw
   case rel =>
    refine ⟨j + 1,by omega,?_,?_,m4,⟨?_⟩⟩
    ·rw [e1]
     congr 1
     omega
    ·rw [show (j:Int) + 1 = ((j + 1:Nat):Int) by omega]
    ·show w4 = putL W (stsA W b off l j ++ stA W b (off + j * 7) (l.getD j zSt)) k
     rw [putL_app,sts_len hv j (by omega),es,← (show wr = putL W (stsA W b off l j) k from he.e)]
     unfold stA
     rw [← (show u3 = cv W b (off + j * 7 + 3) from x3.e),← (show u4 = cv W b (off + j * 7 + 4) from x4.e),← (show u5 = cv W b (off + j * 7 + 5) from x5.e),← (show u6 = cv W b (off + j * 7 + 6) from x6.e)]
     simp only [putL,putL_app,k3,k4,k5,k6,mv,show ((7 * s.sent.length:Nat):Int) = 7 * (s.sent.length:Int) by omega]
     rw [p4.e,p3.e,p2.e,p1.e]
   case measure=>simp [intOf]; omega
  ·obtain rfl:j = l.length:=by omega
   gi_wp2
   go_ret
   exact ⟨rfl,hm,he.e⟩
def Held (W:World) (xs:List (Addr×Bool)) (k:Int):Prop:=∀(i:Nat) (a:Addr×Bool),xs[i]? = some a→W.cell? a.1 = some (mv a.2 (k + i))
theorem Held.left {W:World} {xs ys:List (Addr×Bool)} {k:Int} (h:Held W (xs ++ ys) k):Held W xs k:=fun i a hi=>h i a (by
 rw [List.getElem?_append_left (List.getElem?_eq_some_iff.1 hi).1]
 exact hi)
theorem Held.right {W:World} {xs ys:List (Addr×Bool)} {k:Int} (h:Held W (xs ++ ys) k) {m:Nat} (hm:xs.length = m):Held W ys (k + m):=fun i a hi=>by
 have:=h (xs.length + i) a (by rw [List.getElem?_append_right (by omega),show xs.length + i - xs.length = i by omega]; exact hi)
 rw [this]
 congr 2
 omega
theorem Held.tail {W:World} {x:Addr×Bool} {ys:List (Addr×Bool)} {k:Int} (h:Held W (x :: ys) k):W.cell? x.1 = some (mv x.2 k)∧Held W ys (k + 1):=⟨by
 have:=h 0 x rfl
 rw [this]
 congr 2
 omega,fun i a hi=>by
 have:=h (i + 1) a hi
 rw [this]
 congr 2
 omega⟩
theorem Held.sts {W:World} {b off:Nat} {l:List St} {k:Int} {R:Nat→Prop} {c:Nat} (hv:StsW W R l (.slice (some ⟨b,off,none⟩) l.length c)):∀n,n≤l.length→Held W (stsA W b off l n) k→∀j,j < n→Held W (stA W b (off + j * 7) (l.getD j zSt)) (k + stsN l j)
 | 0,_,_,j,hj=>absurd hj (Nat.not_lt_zero j)
 | n + 1,hn,h,j,hj=>by
  rcases Nat.lt_or_ge j n with g | g
  ·exact Held.sts hv n (by omega) h.left j g
  ·obtain rfl:j = n:=by omega
   exact h.right (sts_len hv j (by omega))
theorem held_row {W:World} {R:Nat→Prop} {v:Value} {n z m:Nat} {P:Nat→Nat→Value→Prop} {f:Bool} {k:Int} (hr:RowW W R v n z P) (h:Held W (rowA v m f) k):∃A c,v = .slice A n c∧(0 < n→∃b off,A = some ⟨b,off,none⟩∧∀t,t < m→W.cell? ⟨b,off + t,none⟩ = some (mv f (k + t))):=by
 obtain ⟨A,c,rfl,-,h2⟩:=hr
 refine ⟨A,c,rfl,fun h0=>?_⟩
 obtain ⟨b,off,rfl,-⟩:=h2 h0
 refine ⟨b,off,rfl,fun t ht=>h t (⟨b,off + t,none⟩,f) ?_⟩
 rw [rowA_some]
 unfold sgA
 rw [List.getElem?_map,List.getElem?_range ht]
 rfl
theorem heldSts_ex (F:Fence) (n:Nat) (hf:F.fn 63) (hp:F.fn 61) (hb:F.fn 62) (hi:F.fn 60) (hro:F.round = none) (hn:1≤n) (R:Nat→Prop) (l:List St) (v:Value) (k:Int) (W:World) (hv:StsW W R l v) (hh:Held W (pastA W v l l.length) k) (h0:0≤k) (hk:k + (stsN l l.length:Int)≤1000000000000) (hs:∀j,j < l.length→(l.getD j zSt).sent.length≤4294967296) :
  CallsIn F n Tryz.prog 63 #[v,.int .i64 k] W fun e W'=>e = .returned (.int .i64 (k + stsN l l.length))∧W' = W:=by
 obtain ⟨A,c,rfl,hl,hrow⟩:=id hv
 refine callsIn_of_wp Tryz.func63 rfl hf ?_ hro
 simp only [Tryz.ntmps63,List.size_toArray,List.length_cons,List.length_nil,Nat.reduceAdd,Nat.reduceSub,Array.replicate_succ,Array.replicate_zero,List.push_toArray,List.append_toArray,List.nil_append,List.cons_append]
 gi_wp2
 gi_loopw [1,5] (fun kk i wr=>∃j:Nat,j≤l.length∧kk = .int .i64 (k + stsN l j)∧i = .int .i64 j∧wr = W)
  (fun _ i _=>l.length - (intOf i).toNat)
 case atStart=>exact ⟨0,Nat.zero_le _,by simp [stsN],rfl,rfl⟩
 case round =>
  obtain ⟨j,hj,rfl,rfl,rfl⟩:=hrel
  by_cases hlt:j < l.length
  ·obtain ⟨b,off,rfl,hR,-⟩:=hrow (by omega)
   have hle:stsN l j + stN (l.getD j zSt)≤stsN l l.length:=stsN_le (l:=l) (a:=j + 1) (by omega)
   have hsj:=hs j hlt
   have hd:=Held.sts hv l.length (Nat.le_refl _) (show Held wr (stsA wr b off l l.length) k from hh) j hlt
   have ha:=sts_at hv (Mk.refl R wr) hlt
   obtain ⟨s,es⟩:∃s,l.getD j zSt = s:=⟨_,rfl⟩
   have e1:stsN l (j + 1) = stsN l j + stN s:=by rw [← es]; rfl
   rw [es] at hle hsj hd ha
   have hst:stN s = 3 + 7 * s.sent.length + s.live.length + s.back.length + s.got.length:=rfl
   obtain ⟨u3,c3,s3⟩:=ha 3 (by decide)
   obtain ⟨u4,c4,s4⟩:=ha 4 (by decide)
   obtain ⟨u5,c5,s5⟩:=ha 5 (by decide)
   obtain ⟨u6,c6,s6⟩:=ha 6 (by decide)
   have s3:PktsW wr R s.sent.length u3:=s3
   have s4:BoolsW wr R s.live.length u4:=s4
   have s5:BoolsW wr R s.back.length u5:=s5
   have s6:IntsW wr R s.got.length u6:=s6
   unfold stA at hd
   rw [cv_at c3,cv_at c4,cv_at c5,cv_at c6] at hd
   obtain ⟨c0,hd⟩:=hd.tail
   obtain ⟨c1,hd⟩:=hd.tail
   obtain ⟨c2,hd⟩:=hd.tail
   have d3:=hd.left
   have hd:=hd.right (row_len s3 (by omega))
   have d4:=hd.left
   have hd:=hd.right (row_len s4 (by omega))
   have d5:=hd.left
   have d6:=hd.right (row_len s5 (by omega))
   obtain ⟨A3,k3,rfl,h3⟩:=held_row s3 d3
   obtain ⟨A4,k4,rfl,h4⟩:=held_row s4 d4
   obtain ⟨A5,k5,rfl,h5⟩:=held_row s5 d5
   obtain ⟨A6,k6,rfl,h6⟩:=held_row s6 d6
   replace c0:wr.cell? ⟨b,off + j * 7,none⟩ = some (.int .i64 (k + stsN l j)):=c0
   replace c1:wr.cell? ⟨b,off + j * 7 + 1,none⟩ = some (.int .i64 (k + stsN l j + 1)):=c1
   replace c2:wr.cell? ⟨b,off + j * 7 + 2,none⟩ = some (.int .i64 (k + stsN l j + 1 + 1)):=c2
   clear hd hrow hh hv ha s3 s4 s5 s6 d3 d4 d5 d6
   gi_wp2
   refine (heldPkts_ex F (n - 1) hp hro _ A3 k3 _ _ h3 (by omega) (by omega) (by omega)).mono ?_
   rintro e w1 ⟨rfl,rfl⟩
   clear c0 c1 c2 c3 h3
   have g1:¬ (k + (stsN l j:Int) + 1 + 1 + 1 + 7 * (s.sent.length:Int) < 0):=by omega
   gi_wp2
   refine (heldBools_ex F (n - 1) hb hro _ A4 k4 _ _ ?_ (by omega) (by omega)).mono ?_
   ·intro h
    obtain ⟨b4,o4,e4,g0⟩:=h4 h
    refine ⟨b4,o4,e4,fun t ht=>?_⟩
    rw [g0 t ht]
    show some (Value.bool _) = _
    rw [show k + (stsN l j:Int) + 1 + 1 + 1 + ((7 * s.sent.length:Nat):Int) + (t:Int) = k + (stsN l j:Int) + 1 + 1 + 1 + 7 * (s.sent.length:Int) + (t:Int) by omega]
   rintro e w2 ⟨rfl,rfl⟩
   have g2:¬ (k + (stsN l j:Int) + 1 + 1 + 1 + 7 * (s.sent.length:Int) + (s.live.length:Int) < 0):=by omega
   clear g1 c4 h4
   gi_wp2
   refine (heldBools_ex F (n - 1) hb hro _ A5 k5 _ _ ?_ (by omega) (by omega)).mono ?_
   ·intro h
    obtain ⟨b4,o4,e4,g0⟩:=h5 h
    refine ⟨b4,o4,e4,fun t ht=>?_⟩
    rw [g0 t ht]
    show some (Value.bool _) = _
    rw [show k + (stsN l j:Int) + 1 + 1 + 1 + ((7 * s.sent.length:Nat):Int) + (s.live.length:Int) + (t:Int) = k + (stsN l j:Int) + 1 + 1 + 1 + 7 * (s.sent.length:Int) + (s.live.length:Int) + (t:Int) by omega]
   rintro e w3 ⟨rfl,rfl⟩
   have g3:¬ (k + (stsN l j:Int) + 1 + 1 + 1 + 7 * (s.sent.length:Int) + (s.live.length:Int) + (s.back.length:Int) < 0):=by omega
   clear g2 c5 h5
   gi_wp2
   refine (heldInts_ex F (n - 1) hi hro _ A6 k6 _ _ ?_ (by omega) (by omega)).mono ?_
   ·intro h
    obtain ⟨b4,o4,e4,g0⟩:=h6 h
    refine ⟨b4,o4,e4,fun t ht=>?_⟩
    rw [g0 t ht]
    show some (Value.int _ _) = _
    rw [show k + (stsN l j:Int) + 1 + 1 + 1 + ((7 * s.sent.length:Nat):Int) + (s.live.length:Int) + (s.back.length:Int) + (t:Int) = k + (stsN l j:Int) + 1 + 1 + 1 + 7 * (s.sent.length:Int) + (s.live.length:Int) + (s.back.length:Int) + (t:Int) by omega]
   rintro e w4 ⟨rfl,rfl⟩
   have g4:¬ (k + (stsN l j:Int) + 1 + 1 + 1 + 7 * (s.sent.length:Int) + (s.live.length:Int) + (s.back.length:Int) + (s.got.length:Int) < 0):=by omega
   clear g3 c6 h6
   gi_wp2
   go_roundw
   case rel =>
    refine ⟨j + 1,by omega,?_,?_,trivial⟩
    ·rw [e1]
     congr 1
     omega
    ·rw [show (j:Int) + 1 = ((j + 1:Nat):Int) by omega]
   case measure=>simp [intOf]; omega
  ·obtain rfl:j = l.length:=by omega
   gi_wp2
   go_ret
   exact ⟨rfl,rfl⟩
end Hw
end Go.Proofs.YtklmllaggigkfaaGreat
