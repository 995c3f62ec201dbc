/- The law FnExactWorldPlay: for every input it returns true, and what it was given reads as before. -/
import Derived.Test.YtklmllaggigkfaaGreatRows
import Derived.Test.YtklmllaggigkfaaGreatPYK
import Derived.WalkKit
import Derived.ProofKit
import Derived.OpenShut
import Derived.ShutString
import Derived.ChangeOld
import Derived.Below
import Derived.SizedLaws
import Derived.Carry
import Derived.Leaving
import Derived.Conc.Holds
set_option linter.unusedVariables false
set_option linter.unusedSimpArgs false
set_option maxRecDepth 100000
namespace Go.Proofs.YtklmllaggigkfaaGreat
namespace Hw
open Go Go.ChangeShapes Go.WideShapes Go.ChangeAt Go.RowKit
theorem ownFnExactWorldPlay:ownKnob Tryz.prog.godebug = none:=by kernel_rfl
theorem laidOutFnExactWorldPlay:laidOutB Tryz.prog = true:=by kernel_rfl
theorem rd_lpkt {H:Type} {enc:TypeId×Value→H} {w:World} {base:Nat} {spare:Nat→Bool} {held:Bool} {fuel:Nat} {cs:List Value} {x:DataW H×List MemPlace} (d:Nat) (h:DataW.trod enc Tryz.prog w base spare held fuel 40 cs = some x):∃p,elRel w d (pktCells p) cs:=by
 obtain ⟨fs,hu,hf⟩:=isStr_of (t:=40) (L:=[(3,0,1),(3,1,1),(3,2,1),(3,3,1),(3,4,1),(3,5,1),(3,6,1)]) (by kernel_rfl)
 obtain ⟨hl,hx⟩:=rd_struct hu hf h
 have hc:Tryz.prog.cellsOf 40 = 7:=by kernel_rfl
 obtain ⟨_,_,e0⟩:=hx 0 _ _ _ rfl
 obtain ⟨_,_,e1⟩:=hx 1 _ _ _ rfl
 obtain ⟨_,_,e2⟩:=hx 2 _ _ _ rfl
 obtain ⟨_,_,e3⟩:=hx 3 _ _ _ rfl
 obtain ⟨_,_,e4⟩:=hx 4 _ _ _ rfl
 obtain ⟨_,_,e5⟩:=hx 5 _ _ _ rfl
 obtain ⟨_,_,e6⟩:=hx 6 _ _ _ rfl
 obtain ⟨n0,r0⟩:=rd_int (d:=d) i64U e0
 obtain ⟨n1,r1⟩:=rd_int (d:=d) i64U e1
 obtain ⟨n2,r2⟩:=rd_int (d:=d) i64U e2
 obtain ⟨n3,r3⟩:=rd_int (d:=d) i64U e3
 obtain ⟨n4,r4⟩:=rd_int (d:=d) i64U e4
 obtain ⟨n5,r5⟩:=rd_int (d:=d) i64U e5
 obtain ⟨n6,r6⟩:=rd_int (d:=d) i64U e6
 exact ⟨⟨n0,n1,n2,n3,n4,n5,n6⟩,elRel_step (o:=0) (n:=1) rfl r0 (elRel_step (n:=1) rfl r1 (elRel_step (n:=1) rfl r2 (elRel_step (n:=1) rfl r3 (elRel_step (n:=1) rfl r4 (elRel_step (n:=1) rfl r5 (elRel_step (n:=1) rfl r6 (elRel_end (by rw [hl,hc]; decide))))))))⟩
theorem rd_lev {H:Type} {enc:TypeId×Value→H} {w:World} {base:Nat} {spare:Nat→Bool} {held:Bool} {fuel:Nat} {cs:List Value} {x:DataW H×List MemPlace} (d:Nat) (h:DataW.trod enc Tryz.prog w base spare held fuel 42 cs = some x):∃e,elRel w d (evCells e) cs:=by
 obtain ⟨fs,hu,hf⟩:=isStr_of (t:=42) (L:=[(3,0,1),(3,1,1),(3,2,1),(3,3,1),(40,4,7)]) (by kernel_rfl)
 obtain ⟨hl,hx⟩:=rd_struct hu hf h
 have hc:Tryz.prog.cellsOf 42 = 11:=by kernel_rfl
 obtain ⟨_,_,e0⟩:=hx 0 _ _ _ rfl
 obtain ⟨_,_,e1⟩:=hx 1 _ _ _ rfl
 obtain ⟨_,_,e2⟩:=hx 2 _ _ _ rfl
 obtain ⟨_,_,e3⟩:=hx 3 _ _ _ rfl
 obtain ⟨_,_,e4⟩:=hx 4 _ _ _ rfl
 obtain ⟨n0,r0⟩:=rd_int (d:=d) i64U e0
 obtain ⟨n1,r1⟩:=rd_int (d:=d) i64U e1
 obtain ⟨n2,r2⟩:=rd_int (d:=d) i64U e2
 obtain ⟨n3,r3⟩:=rd_int (d:=d) i64U e3
 obtain ⟨p,r4⟩:=rd_lpkt d e4
 refine ⟨⟨n0,n1,n2,n3,p⟩,?_⟩
 exact elRel_step (o:=0) (n:=1) rfl r0 (elRel_step (n:=1) rfl r1 (elRel_step (n:=1) rfl r2 (elRel_step (n:=1) rfl r3 (elRel_step (n:=7) rfl r4 (elRel_end (by rw [hl,hc]; decide))))))
theorem levsU:Tryz.prog.underlying 22 = some (.slice 42):=by kernel_rfl
theorem rd_levsV {H:Type} {enc:TypeId×Value→H} {w:World} {base:Nat} {spare:Nat→Bool} {held:Bool} {fuel:Nat} {x:DataW H×List MemPlace} {r:Reach} {b:Nat} {v:Value} (hv:Value.okWide Tryz.prog w r b 22 v) (h:DataW.trod enc Tryz.prog w base spare held fuel 22 v.cells.toList = some x):∃l,arrR w (inW w) 4 (.evs l) v:=by
 obtain ⟨u,l,e,hr⟩:=rd_slice0 (d:=3) kEvs .ev zEv (fun _=>rfl) (fun _ _=>rfl) levsU (fun _=>by kernel_rfl) (pos_of (n:=11) (by decide) (by kernel_rfl)) (fun _ _ _ h=>rd_lev 3 h) h
 have:v = u:=by
  unfold Value.okWide at hv
  rw [levsU] at hv
  simp only at hv
  unfold Cell.okWide at hv
  cases v with
  | agg cs=>simp [Cell.ok,levsU] at hv
  | _=>exact (List.cons.inj e).1
 subst this
 exact ⟨l,hr⟩
theorem liftedFnExactWorldPlay (os:Os) (started:os.Started) (H:Type) (enc:TypeId×Value→H) :
  ReturnsInHanded {} Tryz.checked os 3 .any (Rows.fnExactWorldPlaySpec.pre6 enc Tryz.prog Tryz.f3 Rows.fnExactWorldPlayRow.domain false) (Rows.fnExactWorldPlaySpec.post enc Tryz.prog Tryz.f3 false true false false):=by
 refine returnsInHanded_of_change_sized (C:=Tryz.checked) ownFnExactWorldPlay started (by kernel_rfl) Tryz.func3
  (ChangeSpec.witness6 (enc:=enc) (C:=Tryz.checked) false ⟨#[],#[.slice none 0 0],[]⟩ 8 (by kernel_rfl) (by kernel_rfl) (by kernel_rfl) (by kernel_rfl)) ?_
 intro W base args ds gs before hval0 hW hcnd hsz0 _
 have hval:∀(j:Nat) t v,Tryz.f3.params[j]? = some t→args[j]? = some v→Value.okWide Tryz.prog W .any base t v:=hval0
 have hW':=hW
 obtain ⟨p,q,hA0,hV,rfl,hfz,hnd⟩:=hW
 have hA:DataW.TrodAll enc Tryz.prog W 0 (fun _=>true) true Tryz.f3.params.toList args.toList ds p:=hA0
 rw [Tryz.params3] at hA hval
 obtain ⟨v0,vs0,d0,ds0,p0,q0,hargs,rfl,rfl,h0,r0⟩:=trodAll_cons hA
 obtain ⟨rfl,rfl,rfl⟩:=trodAll_nil r0
 obtain rfl:args = #[v0]:=by cases args; simp_all
 obtain ⟨rfl,rfl⟩:=trodVars_none hV
 have k0:=h0
 have lt0:∀x∈p0,x.block < W.heap.size:=by obtain ⟨m,hm⟩:=k0; exact DataW.trod_lt m _ _ _ hm
 obtain ⟨m0,hm0⟩:=h0
 obtain ⟨l0,hl0⟩:=rd_levsV (hval 0 22 v0 rfl rfl) hm0
 obtain ⟨A,c,rfl⟩:∃A c,v0 = .slice A l0.length c:=by
  obtain ⟨A,c,rfl,-⟩:=id hl0
  exact ⟨A,c,rfl⟩
 refine (callsIn_wide.1 (law_in (inW W) W l0 A l0.length c ⟨fun b h=>h,hl0⟩)).mono fun e W' ⟨he,bel⟩=>?_
 subst he
 exact ⟨_,rfl,_,_,_,[],_,[],hW',trodAll_mk1 (shut_bool Tryz.underlying4 _),(trodAll_cons_mk (Below.trod laidOutFnExactWorldPlay (by kernel_rfl) (of_decide_eq_true (by kernel_rfl)) k0 bel lt0) trodAll_mk0),rfl,bel.frame _,fun h=>by cases h⟩
theorem leaving_of_handed {a:Assume} {C:Checked} {os:Os} {f:FuncId} {r:Reach} {Pre:World→Array Value→Prop} {Post:World→Array Value→Value→World→Prop} (h:ReturnsInHanded a C os f r Pre Post):ReturnsInLeavingWide a C os f r Pre Post:=fun e=>by
 obtain ⟨h1,h2,h3,h4,h5⟩:=h e
 refine ⟨h1,h2,h3,h4,fun w tape i hi=>?_⟩
 obtain ⟨n,v,w',g1,g2,g3,g4,⟨j,last,k1,k2,k3⟩,g5⟩:=h5 w tape i hi
 exact ⟨n,v,w',g1,g2,g3,g4,⟨j,last,k1,k2,k3.2.1,onlyLeaving_of_quiet k3.1,k3.2.2⟩,g5⟩
theorem overFnExactWorldPlay:Rows.fnExactWorldPlayRow.holds Tryz.pinned (OpenSpec.ofChange Rows.fnExactWorldPlaySpec) :=
 OpenClaim.holds_of_wide_leaving 3 Tryz.f3 rfl rfl rfl rfl rfl rfl rfl ⟨rfl,rfl,rfl,rfl,rfl⟩ rfl rfl rfl rfl rfl (by kernel_rfl) Tryz.func3 (by kernel_rfl)
  (of_decide_eq_true (by kernel_rfl)) (by unfold Func.isWrapper; first | (rw [if_pos (by decide +kernel)]; kernel_rfl) | (rw [if_neg (by decide +kernel)]; exact ⟨rfl,rfl⟩))
  (fun os started H enc _=>leaving_of_handed (liftedFnExactWorldPlay os started H enc))
end Hw
theorem fnExactWorldPlay_holds:Rows.FnExactWorldPlaySaid:=Hw.overFnExactWorldPlay
#print axioms fnExactWorldPlay_holds
end Go.Proofs.YtklmllaggigkfaaGreat
