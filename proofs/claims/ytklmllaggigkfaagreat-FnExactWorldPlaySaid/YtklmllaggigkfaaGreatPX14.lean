/- What holds of a contract; every operation. -/
import Derived.Test.YtklmllaggigkfaaGreatPX10
import Derived.Test.YtklmllaggigkfaaGreatPX29
import Derived.Test.YtklmllaggigkfaaGreatPX31
set_option linter.unusedVariables false
set_option linter.unusedSimpArgs false
set_option maxHeartbeats 1000000
namespace Go.Proofs.YtklmllaggigkfaaGreat
namespace Hw
open Go
def cellFit (x y:Cell):Prop:=∀C v,cellR C x v→cellR C y v
def fvFit (x y:FV):Prop:=∀C v,fvR C x v→fvR C y v
def cellsFit:List Cell→List Cell→Prop
 | [],[]=>True
 | x :: r,y :: s=>cellFit x y∧cellsFit r s
 | _,_=>False
theorem cellsFit_spec {xs ys:List Cell} (h:cellsFit xs ys):ys.length = xs.length∧∀(j:Nat) (y:Cell),ys[j]? = some y→∃x,xs[j]? = some x∧cellFit x y:=by
 induction xs generalizing ys with
 | nil =>
  cases ys with
  | nil=>exact ⟨rfl,fun j y h=>by simp at h⟩
  | cons y ys=>exact h.elim
 | cons x xs ih =>
  cases ys with
  | nil=>exact h.elim
  | cons y ys =>
   obtain ⟨i1,i2⟩:=ih h.2
   refine ⟨by simp [i1],fun j z hz=>?_⟩
   cases j with
   | zero =>
    simp only [List.getElem?_cons_zero,Option.some.injEq] at hz
    subst hz
    exact ⟨x,rfl,h.1⟩
   | succ j=>simpa using i2 j z (by simpa using hz)
theorem aggFit {xs ys:List Cell} (h:cellsFit xs ys):fvFit (.agg xs) (.agg ys):=fun C v ⟨vs,h1,h2,h3⟩=>by
 obtain ⟨i1,i2⟩:=cellsFit_spec h
 refine ⟨vs,h1,by rw [h2,i1],fun j y hj=>?_⟩
 obtain ⟨x,h4,h5⟩:=i2 j y hj
 obtain ⟨u,h6,h7⟩:=h3 j x h4
 exact ⟨u,h6,h5 C u h7⟩
theorem cellFit.refl (x:Cell):cellFit x x:=fun _ _ h=>h
theorem nilFit (k:EK):cellFit .nilS (.arr false (.nil k)):=fun C v h=>by
 simp only [cellR] at h
 subst h
 exact nil_R C.w _ 3 k
theorem vInts_fit {x:Cell} {l:List Int} (h:vInts x = some l):cellFit x (.arr false (.ints l)):=by
 unfold vInts at h
 split at h
 ·simp only [Option.some.injEq] at h; subst h; exact cellFit.refl _
 ·simp only [Option.some.injEq] at h; subst h; exact nilFit .int
 ·cases h
theorem vBools_fit {x:Cell} {l:List Bool} (h:vBools x = some l):cellFit x (.arr false (.bools l)):=by
 unfold vBools at h
 split at h
 ·simp only [Option.some.injEq] at h; subst h; exact cellFit.refl _
 ·simp only [Option.some.injEq] at h; subst h; exact nilFit .bool
 ·cases h
theorem vPkts_fit {x:Cell} {l:List Pkt} (h:vPkts x = some l):cellFit x (.arr false (.pkts l)):=by
 unfold vPkts at h
 split at h
 ·simp only [Option.some.injEq] at h; subst h; exact cellFit.refl _
 ·simp only [Option.some.injEq] at h; subst h; exact nilFit .pkt
 ·cases h
theorem vSts_fit {x:Cell} {l:List St} (h:vSts x = some l):cellFit x (.arr false (.sts l)):=by
 unfold vSts at h
 split at h
 ·simp only [Option.some.injEq] at h; subst h; exact cellFit.refl _
 ·simp only [Option.some.injEq] at h; subst h; exact nilFit .st
 ·cases h
theorem vChs_fit {x:Cell} {l:List Ch} (h:vChs x = some l):cellFit x (.arr false (.chs l)):=by
 unfold vChs at h
 split at h
 ·simp only [Option.some.injEq] at h; subst h; exact cellFit.refl _
 ·simp only [Option.some.injEq] at h; subst h; exact nilFit .ch
 ·cases h
theorem vEvs_fit {x:Cell} {l:List Ev} (h:vEvs x = some l):cellFit x (.arr false (.evs l)):=by
 unfold vEvs at h
 split at h
 ·simp only [Option.some.injEq] at h; subst h; exact cellFit.refl _
 ·simp only [Option.some.injEq] at h; subst h; exact nilFit .ev
 ·cases h
def bkCells (z:Bool) (b:Bk):List Cell:=[.arr z (.ints b.own),.arr z (.ints b.notes),.int b.locked]
theorem bind_some' {α β:Type} {x:Option α} {f:α→Option β} {b:β} (h:x.bind f = some b):∃a,x = some a∧f a = some b:=by
 cases x with
 | none=>cases h
 | some a=>exact ⟨a,rfl,h⟩
theorem vSt_fit {cs:List Cell} {s:St} (h:vSt cs = some s):cellsFit cs (stCells false s):=by
 unfold vSt at h
 split at h
 ·obtain ⟨x,h1,h⟩:=bind_some' h
  obtain ⟨y,h2,h⟩:=bind_some' h
  obtain ⟨z,h3,h⟩:=bind_some' h
  obtain ⟨u,h4,h⟩:=bind_some' h
  simp only [Option.some.injEq] at h
  subst h
  exact ⟨cellFit.refl _,cellFit.refl _,cellFit.refl _,vPkts_fit h1,vBools_fit h2,vBools_fit h3,vInts_fit h4,trivial⟩
 ·cases h
theorem vBk_fit {cs:List Cell} {s:Bk} (h:vBk cs = some s):cellsFit cs (bkCells false s):=by
 unfold vBk at h
 split at h
 ·obtain ⟨x,h1,h⟩:=bind_some' h
  obtain ⟨y,h2,h⟩:=bind_some' h
  simp only [Option.some.injEq] at h
  subst h
  exact ⟨vInts_fit h1,vInts_fit h2,cellFit.refl _,trivial⟩
 ·cases h
theorem vCh_fit {cs:List Cell} {s:Ch} (h:vCh cs = some s):cellsFit cs (chCells false s):=by
 unfold vCh at h
 split at h
 ·obtain ⟨x,h1,h⟩:=bind_some' h
  obtain ⟨y,h2,h⟩:=bind_some' h
  obtain ⟨z,h3,h⟩:=bind_some' h
  obtain ⟨u,h4,h⟩:=bind_some' h
  simp only [Option.some.injEq] at h
  subst h
  have f1:=vBk_fit h1
  have f2:=vSt_fit h2
  exact ⟨cellFit.refl _,f1.1,f1.2.1,f1.2.2.1,f2.1,f2.2.1,f2.2.2.1,f2.2.2.2.1,f2.2.2.2.2.1,f2.2.2.2.2.2.1,f2.2.2.2.2.2.2.1,vSts_fit h3,vInts_fit h4,trivial⟩
 ·cases h
structure Good (P:Program) (c:Ctr):Prop where
 fn : ∃ f : Func, P.funcs[c.fid]? = some f ∧ f.body.isNone = false ∧ (f.name == "runtime.NumGoroutine") = false
 dec:∀bs args s,c.dec bs args = some s→(c.inp s).1 = bs∧∀C vs,valsR C args vs→valsR C (c.inp s).2 vs
 run:∀s C vs,Inv C (hpOf (c.inp s).1)→(∀i,(c.inp s).1.length≤i→C.ρ i = none)→valsR C (c.inp s).2 vs→(∀p,c.pre = some p→p s) →
  Calls P c.fid vs.toArray C.w fun e w'=>∃v C',e = .returned v∧C'.w = w'∧avR C' (c.out s).1 v∧After C C' (c.inp s).1 (c.out s).2
section
variable {P:Program} {E:Env} {C:Cx} {H:Hp} {n:Nat}
theorem valsR_map {C D:Cx} {f:FV→FV}:∀{xs:List FV} {vs:List Value},(∀x∈xs,∀v,fvR C x v→fvR D (f x) v)→valsR C xs vs→valsR D (xs.map f) vs:=by
 intro xs
 induction xs with
 | nil=>intro vs _ h; cases vs with
  | nil=>trivial
  | cons v vs=>exact h.elim
 | cons x xs ih=>intro vs hf h; cases vs with
  | nil=>exact h.elim
  | cons v vs=>exact ⟨hf x List.mem_cons_self v h.1,ih (fun y hy=>hf y (List.mem_cons_of_mem _ hy)) h.2⟩
theorem cell_view0 {vis:Nat→Prop} {ids:List Nat} (hI:Inv C H) (hS:∀z b,C.S z b→vis b) {x:Cell} {v:Value} (hx:cellR C x v) (ho:∀i∈x.ids,(H i).live→∀b m,C.ρ i = some (some b,m)→vis b) (hn:(x.view0 H).ids = []):cellR (C.enter ids vis) (x.view0 H) v:=by
 cases x with
 | own i sz e =>
  cases hH:H i with
  | dead=>simp [Cell.view0,hH,Cell.ids] at hn
  | mp l=>simp [Cell.view0,hH,Cell.ids] at hn
  | raw m cs=>simp [Cell.view0,hH,Cell.ids] at hn
  | arr a =>
   simp only [Cell.view0,hH]
   have ho':=hI.own i
   rw [hH] at ho'
   rcases ho' with ⟨h0,h0'⟩ | ⟨b,vs,e',h1,h2,h3,h4,h5,h5',h6⟩
   ·rcases hx with ⟨_,rfl⟩ | ⟨b',n,c,vs',h7,_⟩
    ·exact ⟨none,0,by rw [h0],by omega,by rw [h0]; decide,fun k hk=>by omega⟩
    ·rw [h0'] at h7; cases h7
   rcases hx with ⟨h7,_⟩ | ⟨b',n,c,vs',h7,rfl,h8,h9,h10⟩
   ·rw [h1] at h7; cases h7
   rw [h1] at h7
   cases h7
   refine ⟨some ⟨b,0,none⟩,c,rfl,h8,h5',fun k hk=>⟨_,rfl,ho i (by simp [Cell.ids]) (by rw [hH]; trivial) b _ h1,fun j x hjx=>?_⟩⟩
   obtain ⟨u,h11,h12⟩:=h6 k hk j x hjx
   refine ⟨u,?_,elC_imp h12 fun _ b _ h13=>arrR_ext (fun b hb=>hS true b hb) (fun _ _=>rfl) 3 b u h13⟩
   have ha:(⟨b,0,none⟩:Addr).add (k * a.esz + j) = ⟨b,k * a.esz + j,none⟩:=by unfold Addr.add; split <;> simp_all
   rw [ha]
   show C.w.cell? _ = _
   simp [World.cell?,h4,h11]
 | arr z a=>exact arrR_ext (hS z) (fun _ _=>rfl) 4 a v hx
 | rp z e o =>
  have hS':∀b,C.S z b→(C.enter ids vis).S z b:=fun b hb=>by
   cases z
   ·exact hS false b hb
   ·exact hb
  obtain ⟨ad,h1,h2,h3⟩:=hx
  refine ⟨ad,h1,hS' _ h2,fun j y hj=>?_⟩
  obtain ⟨u,h4,h5⟩:=h3 j y hj
  exact ⟨u,h4,elC_imp h5 fun _ b _ h6=>arrR_ext hS' (fun _ _=>rfl) 3 b u h6⟩
 | ptr i o=>simp [Cell.view0,Cell.ids] at hn
 | ep i sz k o=>simp [Cell.view0,Cell.ids] at hn
 | tail i sz e k=>simp [Cell.view0,Cell.ids] at hn
 | mp i=>simp [Cell.view0,Cell.ids] at hn
 | clo f i=>simp [Cell.view0,Cell.ids] at hn
 | _=>exact hx
theorem vInts_ids {x:Cell} {l:List Int} (h:vInts x = some l):x.ids = []:=by
 unfold vInts at h; split at h <;> first | rfl | cases h
theorem vBools_ids {x:Cell} {l:List Bool} (h:vBools x = some l):x.ids = []:=by
 unfold vBools at h; split at h <;> first | rfl | cases h
theorem vPkts_ids {x:Cell} {l:List Pkt} (h:vPkts x = some l):x.ids = []:=by
 unfold vPkts at h; split at h <;> first | rfl | cases h
theorem vSts_ids {x:Cell} {l:List St} (h:vSts x = some l):x.ids = []:=by
 unfold vSts at h; split at h <;> first | rfl | cases h
theorem vSt_ids {cs:List Cell} {s:St} (h:vSt cs = some s):∀y∈cs,y.ids = []:=by
 unfold vSt at h
 split at h
 ·obtain ⟨x,h1,h⟩:=bind_some' h
  obtain ⟨y,h2,h⟩:=bind_some' h
  obtain ⟨z,h3,h⟩:=bind_some' h
  obtain ⟨u,h4,h⟩:=bind_some' h
  intro y hy
  simp only [List.mem_cons,List.not_mem_nil,or_false] at hy
  rcases hy with rfl | rfl | rfl | rfl | rfl | rfl | rfl
  ·rfl
  ·rfl
  ·rfl
  ·exact vPkts_ids h1
  ·exact vBools_ids h2
  ·exact vBools_ids h3
  ·exact vInts_ids h4
 ·cases h
theorem vBk_ids {cs:List Cell} {s:Bk} (h:vBk cs = some s):∀y∈cs,y.ids = []:=by
 unfold vBk at h
 split at h
 ·obtain ⟨x,h1,h⟩:=bind_some' h
  obtain ⟨y,h2,h⟩:=bind_some' h
  intro y hy
  simp only [List.mem_cons,List.not_mem_nil,or_false] at hy
  rcases hy with rfl | rfl | rfl
  ·exact vInts_ids h1
  ·exact vInts_ids h2
  ·rfl
 ·cases h
theorem vCh_ids {cs:List Cell} {s:Ch} (h:vCh cs = some s):∀y∈cs,y.ids = []:=by
 unfold vCh at h
 split at h
 ·obtain ⟨x,h1,h⟩:=bind_some' h
  obtain ⟨y,h2,h⟩:=bind_some' h
  obtain ⟨z,h3,h⟩:=bind_some' h
  obtain ⟨u,h4,h⟩:=bind_some' h
  have e1:=vBk_ids h1
  have e2:=vSt_ids h2
  intro y hy
  simp only [List.mem_cons,List.not_mem_nil,or_false] at hy
  rcases hy with rfl | rfl | rfl | rfl | rfl | rfl | rfl | rfl | rfl | rfl | rfl | rfl | rfl
  ·rfl
  ·exact e1 _ (by simp)
  ·exact e1 _ (by simp)
  ·rfl
  ·exact e2 _ (by simp)
  ·exact e2 _ (by simp)
  ·exact e2 _ (by simp)
  ·exact e2 _ (by simp)
  ·exact e2 _ (by simp)
  ·exact e2 _ (by simp)
  ·exact e2 _ (by simp)
  ·exact vSts_ids h3
  ·exact vInts_ids h4
 ·cases h
theorem rowChs_R:∀{m:Nat} {cs:List Cell} {l:List Ch},rowChs H m cs = some l→l.length = m∧∀(k:Nat),k < m→∀(j:Nat) (x:Cell),(chCells false (l.getD k zCh))[j]? = some x→∃y,cs[k * 13 + j]? = some y∧cellFit (y.view0 H) x∧(y.view0 H).ids = []:=by
 intro m
 induction m with
 | zero =>
  intro cs l h
  unfold rowChs at h
  split at h
  ·simp only [Option.some.injEq] at h; subst h; exact ⟨rfl,fun k hk=>by omega⟩
  ·cases h
 | succ m ih =>
  intro cs l h
  unfold rowChs at h
  obtain ⟨c,h1,h⟩:=bind_some' h
  cases h2:rowChs H m (cs.drop 13) with
  | none=>rw [h2] at h; cases h
  | some l' =>
   rw [h2] at h
   simp only [Option.map_some,Option.some.injEq] at h
   subst h
   obtain ⟨e1,e2⟩:=ih h2
   refine ⟨by simp [e1],fun k hk j x hj=>?_⟩
   cases k with
   | zero =>
    obtain ⟨f1,f2⟩:=cellsFit_spec (vCh_fit h1)
    obtain ⟨y',f3,f4⟩:=f2 j x (by simpa using hj)
    rw [List.getElem?_map] at f3
    cases hy:(cs.take 13)[j]? with
    | none=>rw [hy] at f3; cases f3
    | some y =>
     rw [hy] at f3
     simp only [Option.map_some,Option.some.injEq] at f3
     subst f3
     refine ⟨y,?_,f4,vCh_ids h1 _ (List.mem_map.2 ⟨y,List.mem_of_getElem? hy,rfl⟩)⟩
     rw [List.getElem?_take] at hy
     split at hy
     ·simpa using hy
     ·cases hy
   | succ k =>
    obtain ⟨y,f1,f2⟩:=e2 k (by omega) j x (by simpa using hj)
    refine ⟨y,?_,f2⟩
    rw [List.getElem?_drop] at f1
    rw [← f1]
    congr 1
    omega
theorem chCells_flag {c:Ch} {j:Nat} {x:Cell} (h:(chCells true c)[j]? = some x):∃y,(chCells false c)[j]? = some y∧((∃a,x = .arr true a∧y = .arr false a)∨(∃n,x = .int n∧y = .int n)):=by
 unfold chCells at *
 rcases j with _ | _ | _ | _ | _ | _ | _ | _ | _ | _ | _ | _ | _ | j
 all_goals first
  | (simp at h; subst h; exact ⟨_,rfl,.inl ⟨_,rfl,rfl⟩⟩)
  | (simp at h; subst h; exact ⟨_,rfl,.inr ⟨_,rfl,rfl⟩⟩)
  | (simp at h)
theorem own_out (hI:Inv C H) {i b m:Nat} (hl:(H i).live) (hr:C.ρ i = some (some b,m)):¬ C.frz b∧¬ C.vis b:=by
 have ho:=hI.own i
 cases hH:H i with
 | dead=>rw [hH] at hl; exact hl.elim
 | mp l =>
  rw [hH] at ho
  obtain ⟨b',_,h1,h2,h3,_⟩:=ho
  rw [hr] at h1
  cases h1
  exact ⟨h2,h3⟩
 | raw k cs =>
  rw [hH] at ho
  obtain ⟨b',_,_,h1,h2,h3,_⟩:=ho
  rw [hr] at h1
  cases h1
  exact ⟨h2,h3⟩
 | arr a =>
  rw [hH] at ho
  rcases ho with ⟨_,h1⟩ | ⟨b',_,_,h1,h2,h3,_⟩
  ·rw [hr] at h1; cases h1
  ·rw [hr] at h1
   cases h1
   exact ⟨h2,h3⟩
theorem cell_view {vis:Nat→Prop} {ids vs:List Nat} (hI:Inv C H) (hS:∀z b,C.S z b→vis b) {x:Cell} {v:Value} (hx:cellR C x v) (hin:∀i∈x.ids,i∈vs) (hcl:∀i∈vs,∀j∈(H i).ids,j∈vs) (ho:∀i∈vs,(H i).live→∀b m,C.ρ i = some (some b,m)→vis b) (hn:(x.view H).ids = []):cellR (C.enter ids vis) (x.view H) v:=by
 by_cases hc:x.view H = x.view0 H
 ·rw [hc] at hn ⊢
  exact cell_view0 hI hS hx (fun i hi=>ho i (hin i hi)) hn
 ·cases x with
  | own i sz e =>
   cases hH:H i with
   | dead=>simp [Cell.view,Cell.view0,hH] at hc
   | mp l=>simp [Cell.view,Cell.view0,hH] at hc
   | arr a=>simp [Cell.view,Cell.view0,hH] at hc
   | raw m cs =>
    simp only [Cell.view,hH] at hn ⊢
    cases hr:rowChs H m cs with
    | none=>rw [hr] at hn; simp [Cell.ids] at hn
    | some l =>
     rw [hr] at hn
     simp only at hn ⊢
     cases hsz:Nat.beq sz 13 with
     | false=>rw [hsz] at hn; simp [Cell.ids] at hn
     | true =>
      simp only [cond_true]
      have hsz:=Nat.eq_of_beq_eq_true hsz
      subst hsz
      obtain ⟨r1,r2⟩:=rowChs_R hr
      have ho':=hI.own i
      rw [hH] at ho'
      obtain ⟨b,vs',e',h1,h2,h3,h4,h5,h6⟩:=ho'
      rcases hx with ⟨h7,_⟩ | ⟨b',n,c,vs'',h7,rfl,h8,h9,h10,h11⟩
      ·rw [h1] at h7; cases h7
      rw [h1] at h7
      cases h7
      have hiv:i∈vs:=hin i (by simp [Cell.ids])
      refine ⟨some ⟨b,0,none⟩,c,by rw [show (Arr.chs l).len = l.length from rfl,r1],by rw [show (Arr.chs l).len = l.length from rfl,r1]; exact h8,by rw [show (Arr.chs l).len = l.length from rfl,r1]; unfold big; omega,fun k hk=>⟨_,rfl,ho i hiv (by rw [hH]; trivial) b _ h1,fun j x hjx=>?_⟩⟩
      have hk:k < m:=by rw [← r1]; exact hk
      have hjx:(chCells true (l.getD k zCh))[j]? = some x:=hjx
      obtain ⟨y,hy,hxy⟩:=chCells_flag hjx
      obtain ⟨q,q1,q2,q2'⟩:=r2 k hk j y hy
      obtain ⟨u,q3,q4⟩:=h6 _ q q1
      have ha:(⟨b,0,none⟩:Addr).add (k * (Arr.chs l).esz + j) = ⟨b,k * 13 + j,none⟩:=by
       show (⟨b,0,none⟩:Addr).add (k * 13 + j) = _
       unfold Addr.add; split <;> simp_all
      have hqi:∀i'∈q.ids,i'∈vs:=fun i' hi'=>hcl i hiv i' (by rw [hH]; exact List.mem_flatMap.2 ⟨q,List.mem_of_getElem? q1,hi'⟩)
      refine ⟨u,by rw [ha]; show C.w.cell? _ = _; simp [World.cell?,h4,q3],?_⟩
      have hr':=q2 _ _ (cell_view0 (ids:=ids) hI hS q4 (fun i' hi'=>ho i' (hqi i' hi')) q2')
      rcases hxy with ⟨a,rfl,rfl⟩ | ⟨n,rfl,rfl⟩
      ·exact arrR_43 hr'
      ·exact hr'
  | tail i sz e k =>
   cases hH:H i with
   | dead=>simp [Cell.view,Cell.view0,hH] at hc
   | mp l=>simp [Cell.view,Cell.view0,hH] at hc
   | arr a=>simp [Cell.view,Cell.view0,hH] at hc
   | raw m cs =>
    simp only [Cell.view,hH] at hn ⊢
    cases hr:rowChs H m cs with
    | none=>rw [hr] at hn; simp [Cell.ids] at hn
    | some l =>
     rw [hr] at hn
     simp only at hn ⊢
     cases hsz:Nat.beq sz 13 with
     | false=>rw [hsz] at hn; simp [Cell.ids] at hn
     | true =>
      simp only [cond_true]
      have hsz:=Nat.eq_of_beq_eq_true hsz
      subst hsz
      obtain ⟨r1,r2⟩:=rowChs_R hr
      have ho':=hI.own i
      rw [hH] at ho'
      obtain ⟨b,vs',e',h1,h2,h3,h4,h5,h6⟩:=ho'
      obtain ⟨b',n,c,vs'',h7,rfl,h8,h9,h10,h11,h12⟩:=hx
      rw [h1] at h7
      cases h7
      have hiv:i∈vs:=hin i (by simp [Cell.ids])
      have hl:(Arr.chs (l.drop k)).len = m - k:=by show (l.drop k).length = _; rw [List.length_drop,r1]
      refine ⟨some ⟨b,k * 13,none⟩,c,by rw [hl],by rw [hl]; exact h9,by rw [hl]; unfold big; omega,fun q hq=>⟨_,rfl,ho i hiv (by rw [hH]; trivial) b _ h1,fun j x hjx=>?_⟩⟩
      rw [hl] at hq
      have hjx:(chCells true ((l.drop k).getD q zCh))[j]? = some x:=hjx
      rw [show (l.drop k).getD q zCh = l.getD (k + q) zCh by simp [List.getD_eq_getElem?_getD,List.getElem?_drop]] at hjx
      obtain ⟨y,hy,hxy⟩:=chCells_flag hjx
      obtain ⟨z,q1,q2,q2'⟩:=r2 (k + q) (by omega) j y hy
      obtain ⟨u,q3,q4⟩:=h6 _ z q1
      have ha:(⟨b,k * 13,none⟩:Addr).add (q * (Arr.chs (l.drop k)).esz + j) = ⟨b,(k + q) * 13 + j,none⟩:=by
       show (⟨b,k * 13,none⟩:Addr).add (q * 13 + j) = _
       rw [show (k + q) * 13 + j = k * 13 + (q * 13 + j) by omega]
       unfold Addr.add; split <;> simp_all
      have hqi:∀i'∈z.ids,i'∈vs:=fun i' hi'=>hcl i hiv i' (by rw [hH]; exact List.mem_flatMap.2 ⟨z,List.mem_of_getElem? q1,hi'⟩)
      refine ⟨u,by rw [ha]; show C.w.cell? _ = _; simp [World.cell?,h4,q3],?_⟩
      have hr':=q2 _ _ (cell_view0 (ids:=ids) hI hS q4 (fun i' hi'=>ho i' (hqi i' hi')) q2')
      rcases hxy with ⟨a,rfl,rfl⟩ | ⟨n,rfl,rfl⟩
      ·exact arrR_43 hr'
      ·exact hr'
  | _=>exact absurd rfl hc
theorem fv_view {vis:Nat→Prop} {ids vs:List Nat} (hI:Inv C H) (hS:∀z b,C.S z b→vis b) {x:FV} {v:Value} (hx:fvR C x v) (hin:∀i∈x.ids,i∈vs) (hcl:∀i∈vs,∀j∈(H i).ids,j∈vs) (ho:∀i∈vs,(H i).live→∀b m,C.ρ i = some (some b,m)→vis b) (hn:(x.view H).ids = []):fvR (C.enter ids vis) (x.view H) v:=by
 cases x with
 | c x=>exact cell_view hI hS hx hin hcl ho hn
 | agg cs =>
  obtain ⟨vs,h1,h2,h3⟩:=hx
  refine ⟨vs,h1,by rw [List.length_map]; exact h2,fun j y hj=>?_⟩
  rw [List.getElem?_map] at hj
  cases hc:cs[j]? with
  | none=>rw [hc] at hj; cases hj
  | some x =>
   rw [hc] at hj
   simp only [Option.map_some,Option.some.injEq] at hj
   subst hj
   obtain ⟨u,h4,h5⟩:=h3 j x hc
   have hm:=List.mem_of_getElem? hc
   refine ⟨u,h4,cell_view hI hS h5 (fun i hi=>hin i (List.mem_flatMap.2 ⟨x,hm,hi⟩)) hcl ho ?_⟩
   simp only [FV.view,FV.ids,List.flatMap_eq_nil_iff] at hn
   exact hn _ (List.mem_map.2 ⟨x,hm,rfl⟩)
theorem view0_loc {H':Hp} {c:Cell} (hc:∀j∈c.ids,H' j = H j):c.view0 H' = c.view0 H:=by
 cases c with
 | own i sz e=>simp only [Cell.view0,hc i (by simp [Cell.ids])]
 | _=>rfl
theorem rowChs_loc {H':Hp}:∀{m:Nat} {cs:List Cell},(∀y∈cs,∀j∈y.ids,H' j = H j)→rowChs H' m cs = rowChs H m cs
 | 0,cs,h=>by cases cs <;> rfl
 | m + 1,cs,h=>by
  unfold rowChs
  have e1:(cs.take 13).map (Cell.view0 H') = (cs.take 13).map (Cell.view0 H):=List.map_congr_left fun y hy=>view0_loc (h y (List.mem_of_mem_take hy))
  have e2:rowChs H' m (cs.drop 13) = rowChs H m (cs.drop 13):=rowChs_loc fun y hy=>h y (List.mem_of_mem_drop hy)
  rw [e1,e2]
theorem view_loc {H':Hp} {S:List Nat} {x:FV} (hH:∀j∈S,H' j = H j) (hin:∀j∈x.ids,j∈S) (hcl:∀i∈S,∀j∈(H i).ids,j∈S):x.view H' = x.view H:=by
 have key:∀c:Cell,(∀j∈c.ids,j∈S)→c.view H' = c.view H:=by
  intro c hc
  cases c with
  | own i sz e =>
   have hi:i∈S:=hc i (by simp [Cell.ids])
   simp only [Cell.view,hH i hi]
   cases hb:H i with
   | raw m cs =>
    simp only
    rw [rowChs_loc (m:=m) (cs:=cs) fun y hy j hj=>hH j (hcl i hi j (by rw [hb]; exact List.mem_flatMap.2 ⟨y,hy,hj⟩))]
   | _=>rfl
  | tail i sz e k =>
   have hi:i∈S:=hc i (by simp [Cell.ids])
   simp only [Cell.view,hH i hi]
   cases hb:H i with
   | raw m cs =>
    simp only
    rw [rowChs_loc (m:=m) (cs:=cs) fun y hy j hj=>hH j (hcl i hi j (by rw [hb]; exact List.mem_flatMap.2 ⟨y,hy,hj⟩))]
   | _=>rfl
  | _=>rfl
 cases x with
 | c x=>simp only [FV.view,key x hin]
 | agg cs =>
  simp only [FV.view]
  congr 1
  exact List.map_congr_left fun c hc=>key c fun j hj=>hin j (List.mem_flatMap.2 ⟨c,hc,hj⟩)
theorem mem_dead {ids:List Nat} {i:Nat}:i∈(deadOf ids).map (·.1)↔i∈ids:=by
 unfold deadOf
 rw [List.map_map]
 simp [Function.comp_def]
theorem add_blk (a:Addr) (i:Nat):(a.add i).block = a.block:=by
 unfold Addr.add
 split <;> rfl
theorem add_adr (a:Addr) (i j:Nat):(a.add i).add j = a.add (i + j):=by
 unfold Addr.add
 by_cases hj:j = 0
 ·subst hj; simp
 ·by_cases hi:i = 0
  ·subst hi; simp [hj]
  ·simp [hi,hj,Nat.add_assoc]
theorem cell_ren_id (c:Cell):c.ren (fun i=>i) = c:=by cases c <;> rfl
theorem fv_ren_id (x:FV):x.ren (fun i=>i) = x:=by
 cases x with
 | c x=>exact congrArg FV.c (cell_ren_id x)
 | agg cs=>exact congrArg FV.agg ((List.map_congr_left fun c _=>cell_ren_id c).trans (List.map_id' cs))
theorem blk_ren_id (b:Blk):b.ren (fun i=>i) = b:=by
 cases b with
 | raw m cs=>exact congrArg (Blk.raw m) ((List.map_congr_left fun c _=>cell_ren_id c).trans (List.map_id' cs))
 | _=>rfl
theorem cell_tt {C D:Cx} {x:Cell} {v:Value} (hw:D.w = C.w) (hS:∀z b,C.S z b→D.frz b) (hf:x.flat = true) (h:cellR C x v):cellR D x.tt v:=by
 cases x with
 | arr z a=>exact arrR_ext (hS z) (fun _ _=>by rw [hw]) 4 a v h
 | int _=>exact h
 | u8 _=>exact h
 | bool _=>exact h
 | nilS=>exact h
 | ifc _=>exact h
 | _=>cases hf
theorem fv_tt {C D:Cx} {x:FV} {v:Value} (hw:D.w = C.w) (hS:∀z b,C.S z b→D.frz b) (hf:x.cells.all Cell.flat = true) (h:fvR C x v):fvR D x.tt v:=by
 cases x with
 | c x=>exact cell_tt hw hS (by simpa [FV.cells] using hf) h
 | agg cs =>
  obtain ⟨vs,h1,h2,h3⟩:=h
  refine ⟨vs,h1,by rw [List.length_map]; exact h2,fun j y hj'=>?_⟩
  rw [List.getElem?_map] at hj'
  cases hc:cs[j]? with
  | none=>rw [hc] at hj'; cases hj'
  | some z =>
   rw [hc] at hj'
   simp only [Option.map_some,Option.some.injEq] at hj'
   subst hj'
   obtain ⟨u,h4,h5⟩:=h3 j z hc
   exact ⟨u,h4,cell_tt hw hS (List.all_eq_true.1 hf z (List.mem_of_getElem? hc)) h5⟩
theorem flat_ids {x:FV} (h:x.cells.all Cell.flat = true):x.ids = []:=by
 have key:∀c:Cell,c.flat = true→c.ids = []:=fun c hc=>by cases c <;> first | rfl | cases hc
 cases x with
 | c x=>exact key x (by simpa [FV.cells] using h)
 | agg cs =>
  show cs.flatMap Cell.ids = []
  rw [List.flatMap_eq_nil_iff]
  exact fun c hc=>key c (List.all_eq_true.1 h c hc)
theorem fv_fro {C : Cx} {H : Hp} {vs : List Nat} {x : FV} {v : Value} (hI : Inv C H) (hx : fvR C x v) (hs : x.safe = true) (hin : ∀ i ∈ x.ids, i ∈ vs) (hcl : ∀ i ∈ vs, ∀ j ∈ (H i).ids, j ∈ vs) (hsf : ∀ i ∈ vs, (H i).safe = true) (hf : (x.view H).cells.all Cell.flat = true) : fvR (C.fz vs) ((x.view H).tt) v := by
  let C0 : Cx := ⟨C.w, C.frz, fun _ => False, C.ρ⟩
  let H0 : Hp := fun i => bif memN i vs then H i else .dead
  have hH : ∀ j ∈ vs, H0 j = H j := fun j hj => by
    have : memN j vs = true := memN_iff.2 hj
    show (bif memN j vs then H j else .dead) = H j
    rw [this]; rfl
  have hmem : ∀ {j}, (H0 j).live → j ∈ vs := fun {j} hl => by
    cases hm : memN j vs with
    | true => exact memN_iff.1 hm
    | false =>
      have : H0 j = .dead := by
        show (bif memN j vs then H j else .dead) = .dead
        rw [hm]; rfl
      rw [this] at hl; exact hl.elim
  have hI0 : Inv C0 H0 := by
    refine ⟨fun i => ?_, fun i j b n m hi hj hri hrj => ?_, hI.frz, fun b hb => hb.elim⟩
    · by_cases hi : i ∈ vs
      · rw [hH i hi, ← blk_ren_id (H i)]
        exact OwnAt_ren (C := C) (D := C0) (i := i) (j := i) rfl rfl (fun b hb => hb.elim) (.inl (hsf i hi)) (fun p hp => hp) (fun _ _ p hp => hp) (hI.own i)
      · have : H0 i = .dead := by
          have hm : memN i vs = false := by
            cases hm : memN i vs with
            | true => exact absurd (memN_iff.1 hm) hi
            | false => rfl
          show (bif memN i vs then H i else .dead) = .dead
          rw [hm]; rfl
        rw [this]; trivial
    · have h1 := hmem hi
      have h2 := hmem hj
      rw [hH i h1] at hi
      rw [hH j h2] at hj
      exact hI.inj i j b n m hi hj hri hrj
  have hx0 : fvR C0 x v := by
    rw [← fv_ren_id x]
    exact fvR_ren (C := C) (D := C0) rfl (fun _ h => h) (.inl hs) (fun _ _ p hp => hp) hx
  have hv : x.view H0 = x.view H := view_loc hH hin hcl
  have h1 : fvR (C0.enter [] (C.fz vs).frz) (x.view H0) v :=
    fv_view (ids := []) (vs := vs) hI0 (fun z b hb => by cases z with
      | true => exact .inl hb
      | false => exact hb.elim) hx0 hin (fun i hi j hj => by rw [hH i hi] at hj; exact hcl i hi j hj) (fun i hi _ b m hp => .inr ⟨i, m, hi, hp⟩) (by rw [hv]; exact flat_ids hf)
  rw [hv] at h1
  exact fv_tt (C := C0.enter [] (C.fz vs).frz) (D := C.fz vs) rfl (fun z b hb => by cases z with
    | true => exact .inl hb
    | false => exact hb) hf h1
theorem mixA_R {D:Cx} {f:Nat→Nat} {ids:List Nat} (hh:∀x v,(∀i∈x.ids,i∈ids)→fvR C x v→fvR D (x.ren f) v):∀{args:List FV} {vw:List Bool} {vs:List Value},(∀x∈viewedOf vw args,∀v,fvR C x v→fvR D (x.view H) v)→(∀x∈handedOf vw args,∀i∈x.ids,i∈ids)→valsR C args vs→valsR D (mixA H f vw args) vs:=by
 intro args
 induction args with
 | nil=>intro vw vs _ _ h; cases vs with
  | nil=>cases vw <;> trivial
  | cons v vs=>exact h.elim
 | cons x args ih=>intro vw vs h1 h2 h; cases vs with
  | nil=>exact h.elim
  | cons v vs =>
   cases vw with
   | nil =>
    simp only [viewedOf,handedOf,mixA] at h1 h2 ⊢
    exact ⟨hh x v (h2 x List.mem_cons_self) h.1,ih (vw:=[]) (fun y hy=>by cases args <;> simp [viewedOf] at hy) (fun y hy=>h2 y (List.mem_cons_of_mem _ hy)) h.2⟩
   | cons b vw =>
    cases b with
    | true =>
     simp only [viewedOf,handedOf,mixA] at h1 h2 ⊢
     exact ⟨h1 x List.mem_cons_self v h.1,ih (fun y hy=>h1 y (List.mem_cons_of_mem _ hy)) h2 h.2⟩
    | false =>
     simp only [viewedOf,handedOf,mixA] at h1 h2 ⊢
     exact ⟨hh x v (h2 x List.mem_cons_self) h.1,ih h1 (fun y hy=>h2 y (List.mem_cons_of_mem _ hy)) h.2⟩
theorem aCall_ok {c : Ctr} {r : OpR} (hG : Good P c) (hI : Inv C H) (hfr : ∀ i, n ≤ i → i < r.nid → C.ρ i = none) {args : List FV} {vs : List Value} (hx : valsR C args vs) (hr : aCall c H n args = some r) (hk : r.ok) :
    Calls P c.fid vs.toArray C.w fun e w' => ∃ v, e = .returned v ∧ ∃ C', Left C H n r v w' C' := by
  unfold aCall at hr
  simp only [Ctr.F] at hr
  generalize hgi : gather H 64 ((handedOf c.vw args).flatMap FV.ids) [] = ids at hr
  generalize hgv : gather H 64 ((viewedOf c.vw args).flatMap FV.ids) [] = vi at hr
  cases hid : (idsOk H n ids (handedOf c.vw args) && idsOk H n vi (viewedOf c.vw args) && ((viewedOf c.vw args).all fun x => (x.view H).ids.isEmpty) && vi.all (fun i => !memN i ids)) with
  | false => rw [hid] at hr; cases hr
  | true =>
    rw [hid] at hr
    simp only [cond_true] at hr
    simp only [Bool.and_eq_true] at hid
    obtain ⟨⟨⟨hid, hidv⟩, hvn⟩, hdj⟩ := hid
    obtain ⟨i1, i2, i3, i4⟩ := idsOk_of hid
    obtain ⟨j1, j2, j3, j4⟩ := idsOk_of hidv
    cases hd : c.dec (handed H ids) (mixA H (fun i => idx i ids) c.vw args) with
    | none => rw [hd] at hr; cases hr
    | some s =>
      rw [hd] at hr
      simp only [Option.map_some] at hr
      cases hb : (stillDead (handed H ids) (c.out s).2 && ((viewedOf c.vw args).isEmpty || ((c.out s).1.safe && (c.out s).2.all Blk.safe))) with
      | false => rw [hb] at hr; cases hr
      | true =>
        rw [hb] at hr
        simp only [cond_true, Option.some.injEq] at hr
        subst hr
        rw [Bool.and_eq_true] at hb
        obtain ⟨hb1, hb2⟩ := hb
        obtain ⟨d1, d2⟩ := hG.dec _ _ _ hd
        have key : ∀ vis : Nat → Prop, (∀ b, C.vis b → vis b) → (∀ i ∈ ids, (H i).live → ∀ b m, C.ρ i = some (some b, m) → ¬ vis b) → (∀ b, vis b → b < C.w.heap.size) →
            (viewedOf c.vw args = [] ∨ ((∀ z b, C.S z b → vis b) ∧ ∀ i ∈ vi, (H i).live → ∀ b m, C.ρ i = some (some b, m) → vis b)) →
            ((((c.out s).1.safe = true) ∧ ∀ b ∈ (c.out s).2, b.safe = true) ∨ ∀ b, vis b → C.vis b) →
            Calls P c.fid vs.toArray C.w fun e w' => ∃ v, e = .returned v ∧ ∃ C', Left C H n ⟨c.pre.map fun p => p s, (c.out s).1.ren (sg n ids), List.append vi ids, wsFrom n ids 0 (c.out s).2, Nat.add n (Nat.sub (c.out s).2.length ids.length)⟩ v w' C' := by
          intro vis v1 v2 v3 v4 v5
          have hvals := d2 (C.enter ids vis) vs (mixA_R (C := C) (D := C.enter ids vis) (ids := ids) (fun x v hxi hxv => fvR_ren (C := C) (D := C.enter ids vis) rfl (fun _ h => h) (.inr v1) (fun i hi p hp => enter_rho (hxi i hi) hp) hxv)
            (fun x hx' v hxv => by
              rcases v4 with v4 | ⟨v4, v4'⟩
              · rw [v4] at hx'; cases hx'
              · exact fv_view hI v4 hxv (j3 x hx') j4 v4' (by simpa using List.all_eq_true.1 hvn x hx')) i3 hx)
          refine Calls.mono (hG.run s (C.enter ids vis) vs (by rw [d1]; exact enter_inv' hI i1 i4 v1 v2 v3) (fun i hi => by
            rw [d1] at hi
            have : ids.length ≤ i := by simpa [handed] using hi
            simp only [Cx.enter]
            rw [if_neg (by omega)]) hvals (fun p hp => by simpa [OpR.ok, hp] using hk)) fun e w' he => ?_
          obtain ⟨v, C', rfl, rfl, h1, h2⟩ := he
          rw [d1] at h2
          obtain ⟨g1, g2, g3, g4⟩ := back_ok (n := n) (ids := ids) hI hfr i1 i2 h2 hb1 v1 (v5.imp_left fun h => h.2)
          refine ⟨v, rfl, C.back C' n ids, rfl, avR_ren (C := C') rfl (fun _ h => h) (v5.imp (fun h => h.1) fun h b hb => ?_) g1 h1, g2, g3, g4⟩
          have : C'.vis = vis := h2.ext.vis
          rw [this] at hb
          exact h b hb
        cases hve : viewedOf c.vw args with
        | nil =>
          exact key C.vis (fun _ h => h) (fun i hi hl b m hr hv => (own_out hI hl hr).2 hv) hI.vis (.inl hve) (.inr fun _ h => h)
        | cons y ys =>
          rw [hve] at hb2
          simp only [List.isEmpty_cons, Bool.false_or, Bool.and_eq_true] at hb2
          refine key (fun b => b < C.w.heap.size ∧ ∀ i ∈ ids, (H i).live → ∀ m, C.ρ i ≠ some (some b, m)) (fun b hb => ⟨hI.vis b hb, fun i hi hl m hr => ?_⟩) (fun i hi hl b m hr hv => hv.2 i hi hl m hr) (fun b hb => hb.1) (.inr ⟨fun z b hb => ⟨?_, fun i hi hl m hr => ?_⟩, fun i hi hl b m hr => ⟨?_, fun i' hi' hl' m' hr' => ?_⟩⟩) (.inl ⟨hb2.1, fun b hb => List.all_eq_true.1 hb2.2 b hb⟩)
          · exact (own_out hI hl hr).2 hb
          · cases z
            · exact hI.vis b hb
            · exact hI.frz b hb
          · cases z
            · exact (own_out hI hl hr).2 hb
            · exact (own_out hI hl hr).1 hb
          · exact hI.lt hl hr
          · have e := hI.inj i i' b m m' hl hl' hr hr'
            subst e
            have := List.all_eq_true.1 hdj i hi
            rw [memN_iff.2 hi'] at this
            cases this
end
section
variable {P:Program} {E:Env} {C:Cx} {H:Hp} {n:Nat}
theorem fvs_R {fr:Fr} {a:Act} {π:List (Nat×Bool)} (hF:FrR C fr a.tmps) (hπ:holds π a.tmps):∀{xs:List Operand} {vs:List FV},fvs (xs.map fun x=>opnd fr π x) = some vs→valsR C vs (xs.map a.eval)
 | [],vs,h=>by
  simp only [List.map_nil,fvs,Option.some.injEq] at h
  subst h
  trivial
 | x :: xs,vs,h=>by
  simp only [List.map_cons,fvs] at h
  cases h1:asFV (opnd fr π x) with
  | none=>rw [h1] at h; cases h
  | some y =>
   rw [h1] at h
   simp only [Option.bind_some] at h
   cases h2:fvs (xs.map fun x=>opnd fr π x) with
   | none=>rw [h2] at h; cases h
   | some ys =>
    rw [h2] at h
    simp only [Option.map_some,Option.some.injEq] at h
    subst h
    exact ⟨asFV_R hF hπ h1,fvs_R hF hπ h2⟩
theorem ctrAt_mem:∀{G:List Ctr} {f k:Nat} {c:Ctr},ctrAt G f k = some c→c∈G∧c.fid = f
 | x :: G,f,k,c,h=>by
  unfold ctrAt at h
  cases hb:Nat.beq x.fid f with
  | true =>
   rw [hb] at h
   simp only [cond_true] at h
   cases k with
   | zero =>
    simp only [Option.some.injEq] at h
    subst h
    exact ⟨List.mem_cons_self,Nat.eq_of_beq_eq_true hb⟩
   | succ k =>
    obtain ⟨h1,h2⟩:=ctrAt_mem h
    exact ⟨List.mem_cons_of_mem _ h1,h2⟩
  | false =>
   rw [hb] at h
   obtain ⟨h1,h2⟩:=ctrAt_mem (by simpa using h)
   exact ⟨List.mem_cons_of_mem _ h1,h2⟩
theorem aBuildSlice_nid {k:EK} {e:Nat} {raw:Bool} {len:Nat} {js:List Nat} {xs:List FV} {r:OpR} (h:aBuildSlice k e raw len H n js xs = some r):r.nid = n + 1:=by
 unfold aBuildSlice at h
 cases hb:(Nat.beq xs.length len && Nat.beq js.length len && inOrder js 0 && Nat.ble len 1000 && xs.all (fun x=>Nat.beq x.cells.length k.size)) with
 | false=>rw [hb] at h; cases h
 | true =>
  rw [hb] at h
  simp only [cond_true] at h
  cases raw with
  | true=>simp only [cond_true,Option.some.injEq] at h; subst h; rfl
  | false =>
   simp only [cond_false] at h
   cases hc:((xs.flatMap FV.cells).all (Cell.lasts H) && nodupN (frozenIds (xs.flatMap FV.cells))) with
   | false=>rw [hc] at h; cases h
   | true =>
    rw [hc] at h
    simp only [cond_true] at h
    cases hes:elsOf k (xs.map fun x=>x.cells.map (Cell.last H)) with
    | none=>rw [hes] at h; cases h
    | some es =>
     rw [hes] at h
     simp only [Option.bind_some] at h
     cases ha:Arr.ofEls k es with
     | none=>rw [ha] at h; cases h
     | some a=>rw [ha] at h; simp only [Option.map_some,Option.some.injEq] at h; subst h; rfl
theorem aAppend_nid {k:EK} {e:Nat} {s x:Cell} {r:OpR} (h:aAppend k e H n s x = some r):r.nid = n + 1:=by
 unfold aAppend at h
 cases hs:asSrc k H x with
 | none=>rw [hs] at h; cases h
 | some y =>
  rw [hs] at h
  simp only [Option.bind_some] at h
  split at h
  ·cases hc:(Arr.nil k).app y.1 with
   | none=>rw [hc] at h; cases h
   | some c=>rw [hc] at h; simp only [Option.map_some,Option.some.injEq] at h; subst h; rfl
  ·split at h
   ·rename_i a _
    revert h
    cases (memN _ y.2 || !Nat.beq _ a.esz || !Nat.beq _ k.size || !Nat.beq e _ || !Nat.beq a.ek.code k.code) with
    | true=>intro h; cases h
    | false =>
     simp only [cond_false]
     intro h
     cases hc:a.app y.1 with
     | none=>rw [hc] at h; cases h
     | some c=>rw [hc] at h; simp only [Option.map_some,Option.some.injEq] at h; subst h; rfl
   ·cases h
  ·cases h
theorem nilMk_R {b:Bool} {cs:List Cell} {u:Value} (h:fvR C (.agg cs) u):fvR C (.agg (bif b then cs.map nilMk else cs)) u:=by
 cases b with
 | false=>exact h
 | true =>
  obtain ⟨vs,h1,h2,h3⟩:=h
  refine ⟨vs,h1,by simp [h2],fun j x hj=>?_⟩
  simp only [cond_true,List.getElem?_map] at hj
  cases hc:cs[j]? with
  | none=>rw [hc] at hj; cases hj
  | some y =>
   rw [hc] at hj
   simp only [Option.map_some,Option.some.injEq] at hj
   subst hj
   obtain ⟨u,h4,h5⟩:=h3 j y hc
   refine ⟨u,h4,?_⟩
   cases y with
   | nilP=>exact ⟨h5,fun x e=>by cases e; exact h5⟩
   | _=>exact h5
theorem op_val {o:Oper} {a:Act} {r:OpR} {v:Value} (hI:Inv C H) (h:(execOp a.eval o).run P C.w = .ok (.value v) C.w) (hv:avR C r.v v) (hws:r.ws = []):OpOK P o a C H n r :=
 .inl ⟨v,C.w,h,C,Inv.refl_left hI hws hv⟩
theorem mapOk_of (hE:TyOK P E) {t:Nat} (h:mapOk E t = true):P.underlying t = some (.map E.intT E.intT):=by
 unfold mapOk at h
 rw [Bool.and_eq_true,Bool.not_eq_true'] at h
 have ht:=Nat.eq_of_beq_eq_true h.1
 subst ht
 rcases hE.map with h1 | h1
 ·rw [h1] at h; cases h.2
 ·exact h1
theorem evOp_ok (hE : TyOK P E) (hG : ∀ c ∈ E.G, Good P c) {o : Oper} {π : List (Nat × Bool)} {fr : Fr} {a : Act} {r : OpR} (hF : FrR C fr a.tmps) (hπ : holds π a.tmps) (hI : Inv C H) (hfr : ∀ i, n ≤ i → i < r.nid → C.ρ i = none)
    (hr : evOp E o π fr H n = some r) (hk : r.ok) : OpOK P o a C H n r := by
  unfold evOp at hr
  split at hr
  ·
    rename_i x ho
    cases hx : opnd fr π x with
    | none => rw [hx] at hr; cases hr
    | some v =>
      rw [hx] at hr
      simp only [Option.map_some, Option.some.injEq] at hr
      subst hr
      refine op_val hI (v := a.eval x) (by unfold execOp; simp [ho]) ?_ rfl
      rcases opnd_R hF hπ hx with h | h
      · simp only; rw [h]; trivial
      · exact h
  · rename_i x ho
    cases hx : opnd fr π x with
    | none => rw [hx] at hr; cases hr
    | some v =>
      rw [hx] at hr
      simp only [Option.map_some, Option.some.injEq] at hr
      subst hr
      refine op_val hI (v := a.eval x) (by unfold execOp; simp [ho]) ?_ rfl
      rcases opnd_R hF hπ hx with h | h
      · simp only; rw [h]; trivial
      · exact h
  ·
    rename_i d x y ho
    split at hr
    · rename_i g hg
      have hd := asC_R hF hπ hg
      have hdt : a.tmps[d]? = some (.bool g) := by
        have : a.tmps.getD d undef = .bool g := hd
        rw [Array.getD_eq_getD_getElem?] at this
        cases ht : a.tmps[d]? with
        | none => rw [ht] at this; cases this
        | some u => rw [ht] at this; simp only [Option.getD_some] at this; rw [this]
      have hon : ∀ b, g = b → holds ((d, b) :: π) a.tmps := by
        intro b hb e he
        rcases List.mem_cons.1 he with rfl | he
        · rw [← hb]; exact hdt
        · exact hπ e he
      have hrun : (execOp a.eval o).run P C.w = .ok (.value (if g then a.eval x else a.eval y)) C.w := by
        unfold execOp
        have : a.eval (.tmp d) = .bool g := hd
        simp [ho, this, asBool]
      split at hr
      · rename_i u v hu hv
        simp only [okv, Option.some.injEq] at hr
        subst hr
        refine op_val hI hrun ?_ rfl
        cases g with
        | true => exact asC_R hF (hon true rfl) hu
        | false => exact asC_R hF (hon false rfl) hv
      · rename_i u v hu hv
        simp only [okv, Option.some.injEq] at hr
        subst hr
        refine op_val hI hrun ?_ rfl
        cases g with
        | true => exact asC_R hF (hon true rfl) hu
        | false => exact asC_R hF (hon false rfl) hv
      · cases hr
    · cases hr
  ·
    rename_i t ho
    cases ht : E.T.get t with
    | none => rw [ht] at hr; cases hr
    | some ti =>
      rw [ht] at hr
      simp only [Option.map_some, Option.some.injEq] at hr
      subst hr
      obtain ⟨v, w', h1, C', h2⟩ := alloc_ok (hE.T.get ht) hI (hfr n (Nat.le_refl _) (Nat.lt_succ_self _))
      exact .inl ⟨v, w', by unfold execOp; simp [ho, h1], C', h2⟩
  ·
    rename_i t x ho
    cases hx : asFV (opnd fr π x) with
    | none => rw [hx] at hr; cases hr
    | some v =>
      rw [hx] at hr
      simp only [Option.bind_some] at hr
      cases hm : Nat.beq t E.markT with
      | true =>
        rw [hm] at hr
        simp only [cond_true] at hr
        obtain ⟨u, w', h1, C', h2⟩ := aMark_ok (P := P) (t := t) hI (hfr n (Nat.le_refl _) (by rw [aMark_nid hr]; exact Nat.lt_succ_self _)) (asFV_R hF hπ hx) hr
        exact .inl ⟨u, w', by unfold execOp; simp [ho, h1], C', h2⟩
      | false =>
      rw [hm] at hr
      simp only [cond_false, Option.some.injEq] at hr
      subst hr
      obtain ⟨u, w', h1, C', h2⟩ := box_ok (P := P) (t := t) hI (hfr n (Nat.le_refl _) (Nat.lt_succ_self _)) (asFV_R hF hπ hx)
      exact .inl ⟨u, w', by unfold execOp; simp [ho, h1], C', h2⟩
  ·
    rename_i t x ho
    cases ht : E.T.get t with
    | none => rw [ht] at hr; cases hr
    | some ti =>
      rw [ht] at hr
      cases hx : asC (opnd fr π x) with
      | none => rw [hx] at hr; cases hr
      | some p =>
        rw [hx] at hr
        simp only [Option.bind_some] at hr
        obtain ⟨u, h1, h2, h3⟩ := aLoad_ok (hE.T.get ht) hI (asC_R hF hπ hx) hr hk
        exact op_val hI (by unfold execOp; simp [ho, h1]) h2 h3
  ·
    rename_i t x y ho
    cases ht : E.T.get t with
    | none => rw [ht] at hr; cases hr
    | some ti =>
      rw [ht] at hr
      cases hx : asC (opnd fr π x) with
      | none => rw [hx] at hr; cases hr
      | some p =>
        rw [hx] at hr
        cases hy : asFV (opnd fr π y) with
        | none => rw [hy] at hr; cases hr
        | some v =>
          rw [hy] at hr
          simp only [Option.bind_some] at hr
          obtain ⟨w', h1, C', h2⟩ := aStore_ok (hE.T.get ht) hI (asC_R hF hπ hx) (fv_cells (asFV_R hF hπ hy)) hr hk
          exact .inr (.inl ⟨w', by unfold execOp; simp [ho, h1], C', h2⟩)
  ·
    rename_i x ho
    split at hr
    · rename_i i k hx
      simp only [okv, Option.some.injEq] at hr
      subst hr
      have h1 := asC_R hF hπ hx
      obtain ⟨b, m, h2, h3⟩ := h1
      exact op_val hI (v := a.eval x) (by unfold execOp; simp [ho, h3]) ⟨b, m, h2, h3⟩ rfl
    · rename_i i sz k q hx
      simp only [okv, Option.some.injEq] at hr
      subst hr
      have h1 := asC_R hF hπ hx
      obtain ⟨b, m, h2, h3⟩ := h1
      exact op_val hI (v := a.eval x) (by unfold execOp; simp [ho, h3]) ⟨b, m, h2, h3⟩ rfl
    · rename_i z e q hx
      simp only [okv, Option.some.injEq] at hr
      subst hr
      have h1 := asC_R hF hπ hx
      obtain ⟨ad, h2, h3⟩ := h1
      exact op_val hI (v := a.eval x) (by unfold execOp; simp [ho, h2]) ⟨ad, h2, h3⟩ rfl
    · rename_i l q hx
      simp only [Option.some.injEq] at hr
      subst hr
      have h1 := asC_R hF hπ hx
      obtain ⟨l, g⟩ := l
      cases l with
      | nil => exact absurd rfl hk
      | cons s l =>
        have h1' := h1
        obtain ⟨⟨ad, h2, h3⟩, -⟩ := h1
        exact op_val hI (v := a.eval x) (by unfold execOp; simp [ho, h2]) h1' rfl
    · cases hr
  ·
    rename_i op t x y ty ho
    cases hx : asFV (opnd fr π x) with
    | none => rw [hx] at hr; cases hr
    | some u =>
      rw [hx] at hr
      cases hy : asFV (opnd fr π y) with
      | none => rw [hy] at hr; cases hr
      | some v =>
        rw [hy] at hr
        simp only [Option.bind_some] at hr
        obtain ⟨z, h1, h2, h3⟩ := aBin_ok (X := x) (Y := y) hE (asFV_R hF hπ hx) (asFV_R hF hπ hy) hr hk
        refine op_val hI (v := z) ?_ h2 h3
        unfold execOp
        simp only [ho]
        rw [Sem.run_bind, h1]
        rfl
  ·
    rename_i t x ho
    split at hr
    · rename_i b hx
      simp only [okv, Option.some.injEq] at hr
      subst hr
      have h1 : a.eval x = .bool b := asC_R hF hπ hx
      exact op_val hI (v := .bool (!b)) (by unfold execOp; simp [ho, h1, Op.unary]) rfl rfl
    · cases hr
  ·
    rename_i t x ho
    split at hr
    · rename_i b hx
      simp only [okv, Option.some.injEq] at hr
      subst hr
      have h1 : a.eval x = .int .i64 b := asC_R hF hπ hx
      exact op_val hI (v := .int .i64 (wrap (0 - b))) (by unfold execOp; simp [ho, h1, Op.unary, Op.intArith, wrap]) rfl rfl
    · cases hr
  ·
    rename_i t x f ho
    cases ht : E.T.get t with
    | none => rw [ht] at hr; cases hr
    | some ti =>
      rw [ht] at hr
      cases hx : asC (opnd fr π x) with
      | none => rw [hx] at hr; cases hr
      | some p =>
        rw [hx] at hr
        simp only [Option.bind_some] at hr
        cases hf : Nat.blt f ti.offs.length with
        | false => rw [hf] at hr; cases hr
        | true =>
          rw [hf] at hr
          simp only [cond_true] at hr
          obtain ⟨z, h1, h2, h3⟩ := aFieldAddr_ok (hE.T.get ht) (Nat.le_of_ble_eq_true hf) (asC_R hF hπ hx) hr hk
          exact op_val hI (by unfold execOp; simp [ho, h1]) h2 h3
  ·
    rename_i t x i ho
    cases ht : elemOf E.T t with
    | none => rw [ht] at hr; cases hr
    | some te =>
      rw [ht] at hr
      simp only [Option.bind_some] at hr
      obtain ⟨u1, u2, _, _⟩ := elemOf_ok hE.T ht
      split at hr
      · rename_i y j hx hi
        have h0 : a.eval i = .int .i64 j := asC_R hF hπ hi
        obtain ⟨z, h1, h2, h3⟩ := aIndexAddr_ok u1 u2 hI (asC_R hF hπ hx) hr hk
        exact op_val hI (by unfold execOp; simp [ho, h0, h1]) h2 h3
      · cases hr
  ·
    rename_i t parts ho
    cases ht : E.T.get t with
    | none => rw [ht] at hr; cases hr
    | some ti =>
      rw [ht] at hr
      simp only [Option.bind_some] at hr
      cases he : (ti.offs.isEmpty && !(parts.isEmpty && ti.agg)) with
      | true => rw [he] at hr; cases hr
      | false =>
        rw [he] at hr
        simp only [cond_false] at hr
        cases hx : fvs (parts.toList.map fun e => opnd fr π e.2) with
        | none => rw [hx] at hr; cases hr
        | some xs =>
          rw [hx] at hr
          simp only [Option.bind_some] at hr
          cases hf : fill ti.offs ti.fsz ((parts.toList.map (·.1)).zip xs) ti.zero with
          | none => rw [hf] at hr; cases hr
          | some cs =>
            rw [hf] at hr
            simp only [Option.map_some, Option.some.injEq] at hr
            subst hr
            have hv : valsR C xs ((parts.map fun (x : Nat × Operand) => (x.1, a.eval x.2)).toList.map (·.2)) := by
              have : (parts.toList.map fun e => opnd fr π e.2) = (parts.toList.map (·.2)).map fun x => opnd fr π x := by rw [List.map_map]; rfl
              rw [this] at hx
              have h := fvs_R hF hπ hx
              simpa [List.map_map, Function.comp_def] using h
            obtain ⟨u, h1, h2⟩ := build_ok (hE.T.get ht) hv (by
              rw [Bool.and_eq_false_iff] at he
              rcases he with he | he
              · exact .inl fun h => by rw [h] at he; cases he
              · simp only [Bool.not_eq_false', Bool.and_eq_true] at he
                exact .inr ⟨by simpa using he.1, he.2⟩) (by simpa [List.map_map, Function.comp_def] using hf)
            exact op_val hI (v := u) (by unfold execOp; simp [ho, h1]) (nilMk_R h2) rfl
  ·
    rename_i t len parts ho
    cases ht : elemOf E.T t with
    | none => rw [ht] at hr; cases hr
    | some te =>
      rw [ht] at hr
      simp only [Option.bind_some] at hr
      obtain ⟨u1, u2, _, _⟩ := elemOf_ok hE.T ht
      cases hke : te.2.ek with
      | none => rw [hke] at hr; cases hr
      | some k =>
        rw [hke] at hr
        simp only [Option.bind_some] at hr
        cases hx : fvs (parts.toList.map fun e => opnd fr π e.2) with
        | none => rw [hx] at hr; cases hr
        | some xs =>
          rw [hx] at hr
          simp only [Option.bind_some] at hr
          have hv : valsR C xs ((parts.map fun (x : Nat × Operand) => (x.1, a.eval x.2)).toList.map (·.2)) := by
            have : (parts.toList.map fun e => opnd fr π e.2) = (parts.toList.map (·.2)).map fun x => opnd fr π x := by rw [List.map_map]; rfl
            rw [this] at hx
            have h := fvs_R hF hπ hx
            simpa [List.map_map, Function.comp_def] using h
          obtain ⟨u, w', h1, C', h2⟩ := buildSlice_ok (len := len) u1 u2 hke hI (hfr n (Nat.le_refl _) (by rw [aBuildSlice_nid hr]; exact Nat.lt_succ_self _)) hv (by simpa [List.map_map, Function.comp_def] using hr)
          exact .inl ⟨u, w', by unfold execOp; simp [ho, h1], C', h2⟩
  ·
    rename_i t x y ho
    cases ht : elemOf E.T t with
    | none => rw [ht] at hr; cases hr
    | some te =>
      rw [ht] at hr
      simp only [Option.bind_some] at hr
      obtain ⟨u1, u2, u3, ti, u4, u5⟩ := elemOf_ok hE.T ht
      cases hke : te.2.ek with
      | none => rw [hke] at hr; cases hr
      | some k =>
        rw [hke] at hr
        simp only [Option.bind_some] at hr
        split at hr
        · rename_i p q hp hq
          simp only [Option.some.injEq] at hr
          subst hr
          have e1 : a.eval x = .int .i64 p := asC_R hF hπ hp
          have e2 : a.eval y = .int .i64 q := asC_R hF hπ hq
          obtain ⟨v, w', h1, C', h2⟩ := make_ok (P := P) u4 (by rw [u5]; exact u2) hke (by rw [u5]; exact u3) hI (hfr n (Nat.le_refl _) (Nat.lt_succ_self _)) hk
          rw [u5] at h2
          exact .inl ⟨v, w', by unfold execOp; simp [ho, e1, e2, h1], C', h2⟩
        · cases hr
  ·
    rename_i t x ho
    cases hm : mapOk E t with
    | false => rw [hm] at hr; cases hr
    | true =>
      rw [hm] at hr
      simp only [cond_true] at hr
      have hu := mapOk_of hE hm
      split at hr
      · simp only [Option.some.injEq] at hr
        subst hr
        obtain ⟨v, w', h1, C', h2⟩ := makeMap_ok (P := P) hu hI (hfr n (Nat.le_refl _) (Nat.lt_succ_self _)) (r := none) (fun v h => by cases h)
        exact .inl ⟨v, w', by unfold execOp; simp [ho, h1], C', h2⟩
      · rename_i x
        split at hr
        · rename_i p hp
          simp only [Option.some.injEq] at hr
          subst hr
          have e1 : a.eval x = .int .i64 p := asC_R hF hπ hp
          obtain ⟨v, w', h1, C', h2⟩ := makeMap_ok (P := P) hu hI (hfr n (Nat.le_refl _) (Nat.lt_succ_self _)) (r := some (.int .i64 p)) (fun v h => by cases h; exact ⟨_, rfl⟩)
          exact .inl ⟨v, w', by unfold execOp; simp [ho, e1, h1], C', h2⟩
        · cases hr
  ·
    rename_i t m k ok ho
    cases hm : (ok || !mapOk E t) with
    | true => rw [hm] at hr; cases hr
    | false =>
      rw [hm] at hr
      simp only [cond_false] at hr
      rw [Bool.or_eq_false_iff] at hm
      obtain ⟨hok, hm⟩ := hm
      subst hok
      have hu := mapOk_of hE (by simpa using hm)
      split at hr
      · rename_i i j hp hq
        split at hr
        · rename_i l hH
          simp only [Option.some.injEq] at hr
          subst hr
          have e1 : cellR C (.mp i) (a.eval m) := asC_R hF hπ hp
          have e2 : a.eval k = .int .i64 j := asC_R hF hπ hq
          have h1 := lookup_ok hu hE.int (hE.zint C.w) hI hH e1 (show 1 ≤ j from hk)
          exact op_val hI (v := .int .i64 (l.getD (j - 1).toNat 0)) (by unfold execOp; simp [ho, e2, h1]) rfl rfl
        · cases hr
      · cases hr
  ·
    rename_i t m k x ho
    cases hm : mapOk E t with
    | false => rw [hm] at hr; cases hr
    | true =>
      rw [hm] at hr
      simp only [Bool.not_true, cond_false] at hr
      have hu := mapOk_of hE hm
      split at hr
      · rename_i i j y hp hq hy
        split at hr
        · rename_i l hH
          simp only [Option.some.injEq] at hr
          subst hr
          have e1 : cellR C (.mp i) (a.eval m) := asC_R hF hπ hp
          have e2 : a.eval k = .int .i64 j := asC_R hF hπ hq
          have e3 : a.eval x = .int .i64 y := asC_R hF hπ hy
          obtain ⟨w', h1, C', h2⟩ := update_ok (n := n) hu hE.int hI hH e1 (x := y) (show 1 ≤ j ∧ j ≤ (l.length : Int) + 1 from hk)
          exact .inr (.inl ⟨w', by unfold execOp; simp [ho, e2, e3, h1], C', h2⟩)
        · cases hr
      · cases hr
  ·
    rename_i t x ho
    cases ht : E.T.get t with
    | none => rw [ht] at hr; cases hr
    | some ti =>
      rw [ht] at hr
      simp only [Option.bind_some] at hr
      split at hr
      · rename_i hx
        cases hb : (ti.agg && Nat.blt 0 t) with
        | false => rw [hb] at hr; cases hr
        | true =>
          rw [hb] at hr
          simp only [cond_true, okv, Option.some.injEq] at hr
          subst hr
          rw [Bool.and_eq_true] at hb
          obtain ⟨vs, h1, h2, _⟩ := asFV_R hF hπ hx
          have h0 : vs = #[] := Array.eq_empty_of_size_eq_zero (by simpa using h2)
          subst h0
          obtain ⟨d, hd1, hd2, -, -⟩ := (hE.T.get ht).d
          have ht0 : 0 < t := Nat.le_of_ble_eq_true hb.2
          rw [hb.1] at hd2
          refine op_val hI (v := .iface t (.agg #[])) ?_ ?_ rfl
          · unfold execOp
            cases d <;> simp [isRowD] at hd2 <;> simp [ho, h1, Instr.makeInterface, run_underlying hd1]
          · show _ = ifcVal t
            unfold ifcVal
            rw [if_neg (Nat.pos_iff_ne_zero.1 ht0)]
      · cases hr
  ·
    rename_i x t0 t okb ho
    cases okb with
    | false => cases hr
    | true =>
    simp only [Bool.not_true, cond_false] at hr
    cases ht : E.T.get t with
    | none => rw [ht] at hr; cases hr
    | some ti =>
      rw [ht] at hr
      simp only [Option.bind_some] at hr
      split at hr
      · rename_i k hx
        cases hb : (ti.agg && ti.zv.isEmpty && Nat.blt 0 t) with
        | false => rw [hb] at hr; cases hr
        | true =>
          rw [hb] at hr
          simp only [cond_true, Option.some.injEq] at hr
          subst hr
          simp only [Bool.and_eq_true] at hb
          obtain ⟨⟨b1, b2⟩, b3⟩ := hb
          have h0 : a.eval x = ifcVal k := asC_R hF hπ hx
          obtain ⟨d, hd1, hd2, -, -⟩ := (hE.T.get ht).d
          rw [b1] at hd2
          have ht0 : 0 < t := Nat.le_of_ble_eq_true b3
          obtain ⟨z, hz1, hz2⟩ := (hE.T.get ht).run_zero C.w
          have hz : z = .agg #[] := by
            rw [List.isEmpty_iff.1 b2] at hz2
            cases z <;> simp [Value.cells] at hz2
            rw [hz2]
          subst hz
          refine op_val hI (v := .tuple #[.agg #[], .bool (Nat.beq k t)]) ?_ ?_ rfl
          · unfold execOp
            unfold ifcVal at h0
            by_cases hk0 : k = 0
            · subst hk0
              rw [if_pos rfl] at h0
              have hbt : Nat.beq 0 t = false := by
                cases hb : Nat.beq 0 t with
                | false => rfl
                | true => exact absurd (Nat.eq_of_beq_eq_true hb) (fun e => Nat.lt_irrefl 0 (Nat.lt_of_lt_of_eq ht0 e.symm))
              cases d <;> simp [isRowD] at hd2 <;> simp [ho, h0, Instr.typeAssert, run_underlying hd1, hz1, hbt]
            · rw [if_neg hk0] at h0
              by_cases hkt : k = t
              · subst hkt
                have hbt : Nat.beq k k = true := Nat.beq_refl k
                cases d <;> simp [isRowD] at hd2 <;> simp [ho, h0, Instr.typeAssert, run_underlying hd1, hbt]
              · have hbt : Nat.beq k t = false := by
                  cases hb : Nat.beq k t with
                  | false => rfl
                  | true => exact absurd (Nat.eq_of_beq_eq_true hb) hkt
                cases d <;> simp [isRowD] at hd2 <;> simp [ho, h0, Instr.typeAssert, run_underlying hd1, hz1, hbt, hkt]
          · refine ⟨_, rfl, rfl, fun j y hj => ?_⟩
            match j, hj with
            | 0, hj =>
              simp only [List.getElem?_cons_zero, Option.some.injEq] at hj
              subst hj
              exact ⟨_, rfl, #[], rfl, rfl, fun j x h => by simp at h⟩
            | 1, hj =>
              simp only [List.getElem?_cons_succ, List.getElem?_cons_zero, Option.some.injEq] at hj
              subst hj
              exact ⟨_, rfl, rfl⟩
            | j + 2, hj => simp at hj
      · cases hr
  ·
    rename_i s t x ho
    cases hb : (Nat.beq s E.u8T && Nat.beq t E.intT) with
    | false => rw [hb] at hr; cases hr
    | true =>
      rw [hb] at hr
      simp only [cond_true] at hr
      rw [Bool.and_eq_true] at hb
      obtain ⟨h1, h2⟩ := hb
      have h1 := Nat.eq_of_beq_eq_true h1
      have h2 := Nat.eq_of_beq_eq_true h2
      subst h1 h2
      split at hr
      · rename_i b hx
        simp only [okv, Option.some.injEq] at hr
        subst hr
        have h0 : a.eval x = .int .u8 b := asC_R hF hπ hx
        exact op_val hI (v := .int .i64 (wrap b)) (by unfold execOp; simp [ho, h0, convert, run_underlying hE.int, run_underlying hE.u8, Conv.intToInt, wrap]) rfl rfl
      · cases hr
  ·
    rename_i t x lo hi mx ho
    cases hb : mx.isSome with
    | true => rw [hb] at hr; cases hr
    | false =>
      rw [hb] at hr
      simp only [cond_false] at hr
      cases mx with
      | some _ => cases hb
      | none =>
      cases ht : elemOf E.T t with
      | none => rw [ht] at hr; cases hr
      | some te =>
        rw [ht] at hr
        simp only [Option.bind_some] at hr
        obtain ⟨u1, u2, _⟩ := elemOf_ok hE.T ht
        split at hr
        · rename_i h
          split at hr
          · rename_i z b i hx hh
            simp only [Option.some.injEq] at hr
            subst hr
            have hk : 0 ≤ i ∧ i ≤ (b.len : Int) := hk
            have e1 := asC_R hF hπ hx
            have e2 : a.eval h = .int .i64 i := asC_R hF hπ hh
            obtain ⟨A, c, e3, g1, g2, g3⟩ := e1
            have hc : 0 ≤ i ∧ i ≤ (c : Int) := by omega
            have hsl : (b.sub 0 i.toNat).len = i.toNat := by
              have hl : i.toNat ≤ b.len := by omega
              cases b <;> simp [Arr.sub, Arr.len] at hl ⊢ <;> omega
            have hsg : ∀ k, k < i.toNat → (b.sub 0 i.toNat).get k = b.get k := fun k hk' => by
              cases b <;> simp [Arr.sub, Arr.get, hk']
            have hse : (b.sub 0 i.toNat).esz = b.esz := by cases b <;> rfl
            refine op_val hI (v := .slice A i.toNat c) ?_ ⟨A, c, by rw [hsl], by rw [hsl]; omega, by rw [hsl]; omega, fun k hk' => ?_⟩ rfl
            · unfold execOp
              have ha : ∀ A : Option Addr, Option.map (fun x => Addr.add x 0) A = A := fun A => by cases A <;> rfl
              simp [ho, e2, e3, Instr.sliceAt, Instr.slice, run_underlying u1, Instr.sliceBounds, Instr.sliceBound, asIntOf, hc, u2.run_size, ha]
            · rw [hsl] at hk'
              obtain ⟨ad, q1, q2, q3⟩ := g3 k (by omega)
              refine ⟨ad, q1, q2, fun j x hj => ?_⟩
              rw [hsg k hk'] at hj
              rw [hse]
              exact q3 j x hj
          · cases hr
        · rename_i l
          have fro : ∀ (c : Cell) (j : Int), asC (opnd fr π x) = some c → asC (opnd fr π l) = some (.int j) → aFro H n c j te.2.size = some r → OpOK P o a C H n r := by
            intro c j hx hh hr
            have e1 : cellR C c (a.eval x) := asC_R hF hπ hx
            have e2 : a.eval l = .int .i64 j := asC_R hF hπ hh
            unfold aFro at hr
            cases hfro : froOk H n (gather H 64 c.ids []) [.c c] with
            | false => rw [hfro] at hr; cases hr
            | true =>
              rw [hfro] at hr
              simp only [cond_true] at hr
              have hfro' := hfro
              unfold froOk at hfro'
              simp only [Bool.and_eq_true, List.all_cons, List.all_nil] at hfro'
              obtain ⟨⟨⟨⟨hid, hlive⟩, hsf⟩, hs, -⟩, hf, -⟩ := hfro'
              obtain ⟨i1, i2, i3, i4⟩ := idsOk_of hid
              have hlv : ∀ i ∈ gather H 64 c.ids [], (H i).live := fun i hi => by
                have := List.all_eq_true.1 hlive i hi
                cases hb : H i with
                | dead => rw [hb] at this; cases this
                | mp l => trivial
                | raw m cs => trivial
                | arr a => trivial
              have e3 : fvR (C.fz (gather H 64 c.ids [])) (((FV.c c).view H).tt) (a.eval x) := fv_fro hI e1 hs (i3 (.c c) (List.mem_singleton.2 rfl)) i4 (fun i hi => List.all_eq_true.1 hsf i hi) hf
              split at hr
              · rename_i y b hv
                cases hz : Nat.beq b.esz te.2.size with
                | false => rw [hz] at hr; cases hr
                | true =>
                  rw [hz] at hr
                  simp only [cond_true, Option.some.injEq] at hr
                  subst hr
                  have hz := Nat.eq_of_beq_eq_true hz
                  have hk : 0 ≤ j ∧ j ≤ (b.len : Int) := hk
                  have e3 : cellR (C.fz (gather H 64 c.ids [])) (c.view H).tt (a.eval x) := e3
                  rw [hv] at e3
                  obtain ⟨A, cp, e4, g1, g2, g3⟩ := e3
                  have hsl : (b.sub j.toNat b.len).len = b.len - j.toNat := by
                    cases b <;> simp [Arr.sub, Arr.len] <;> omega
                  have hsg : ∀ k, k < b.len - j.toNat → (b.sub j.toNat b.len).get k = b.get (j.toNat + k) := fun k hk' => by
                    cases b <;> simp only [Arr.len] at hk' <;> simp [Arr.sub, Arr.get, Arr.len, List.getD_eq_getElem?_getD, List.getElem?_drop]
                  have hse : (b.sub j.toNat b.len).esz = b.esz := by cases b <;> rfl
                  have hfz := fz_inv hI hlv
                  refine .inl ⟨.slice (if cp = j.toNat then A else A.map (·.add (j.toNat * te.2.size))) (b.len - j.toNat) (cp - j.toNat), C.w, ?_, C.fz (gather H 64 c.ids []), rfl, ?_, hfz, fz_ext _ (fun b' i m hi hm => ⟨i, m, mem_dead.2 hi, hlv i hi, hm⟩), fun i p hp => .inl hp⟩
                  · unfold execOp
                    simp [ho, e2, e4, Instr.sliceAt, Instr.slice, run_underlying u1, Instr.sliceBounds, Instr.sliceBound, asIntOf, hk, u2.run_size]
                  · refine ⟨if cp = j.toNat then A else A.map (·.add (j.toNat * te.2.size)), cp - j.toNat, by rw [hsl], by rw [hsl]; omega, by rw [hsl]; omega, fun k hk' => ?_⟩
                    rw [hsl] at hk'
                    rw [if_neg (by omega)]
                    obtain ⟨ad, q1, q2, q3⟩ := g3 (j.toNat + k) (by omega)
                    refine ⟨ad.add (j.toNat * te.2.size), by rw [q1]; rfl, by rw [add_blk]; exact q2, fun i x hi => ?_⟩
                    rw [hsg k hk'] at hi
                    rw [hse]
                    have := q3 i x hi
                    rw [add_adr, show j.toNat * te.2.size + (k * b.esz + i) = (j.toNat + k) * b.esz + i by rw [← hz, Nat.add_mul]; omega]
                    exact this
              · cases hr
          split at hr
          · rename_i i sz e j hx hh
            split at hr
            · rename_i m cs hH
              cases hb : (Nat.beq sz te.2.size && Nat.beq e te.1) with
              | false => rw [hb] at hr; cases hr
              | true =>
                rw [hb] at hr
                simp only [cond_true, Option.some.injEq] at hr
                subst hr
                rw [Bool.and_eq_true] at hb
                have hs := Nat.eq_of_beq_eq_true hb.1
                subst hs
                have hk : 0 ≤ j ∧ j < (m : Int) := hk
                have e1 : cellR C (.own i te.2.size e) (a.eval x) := asC_R hF hπ hx
                have e2 : a.eval l = .int .i64 j := asC_R hF hπ hh
                have ho' := hI.own i
                rw [hH] at ho'
                obtain ⟨b, vs', e', h1, h2, h3, h4, h5, h6⟩ := ho'
                rcases e1 with ⟨h7, _⟩ | ⟨b', n', c, vs'', h7, e1, h8, h9, h10, h11⟩
                · rw [h1] at h7; cases h7
                rw [h1] at h7
                cases h7
                have hj : ((j.toNat : Nat) : Int) = j := by omega
                have hc : c ≠ j.toNat := by omega
                have hadd : (⟨b, 0, none⟩ : Addr).add (j.toNat * te.2.size) = ⟨b, j.toNat * te.2.size, none⟩ := by unfold Addr.add; split <;> simp_all
                refine op_val hI (v := .slice (some ⟨b, j.toNat * te.2.size, none⟩) (m - j.toNat) (c - j.toNat)) ?_ ⟨b, m, c - j.toNat, vs'', h1, rfl, by omega, by omega, h9, by rw [h10]; congr 1; omega, by omega⟩ rfl
                unfold execOp
                have hk' : 0 ≤ j ∧ j ≤ (m : Int) := ⟨hk.1, by omega⟩
                simp [ho, e2, e1, Instr.sliceAt, Instr.slice, run_underlying u1, Instr.sliceBounds, Instr.sliceBound, asIntOf, hk', u2.run_size, hc, hadd]
            · exact fro _ _ hx hh hr
          · rename_i c j hne hx hh
            exact fro _ _ hx hh hr
          · cases hr
        · cases hr
  ·
    rename_i x i ho
    split at hr
    · rename_i xs hx
      cases hi : xs[i]? with
      | none => rw [hi] at hr; cases hr
      | some v =>
        rw [hi] at hr
        simp only [Option.map_some, Option.some.injEq] at hr
        subst hr
        rcases opnd_R hF hπ hx with h | h
        · cases h
        · obtain ⟨vs, h1, h2, h3⟩ := h
          obtain ⟨u, h4, h5⟩ := h3 i v hi
          exact op_val hI (v := u) (by unfold execOp; simp [ho, h1, Instr.extract, h4]) h5 rfl
    · cases hr
  ·
    rename_i f first cap ho
    split at hr
    · rename_i x hf hc
      split at hr
      · rename_i i hx
        simp only [okv, Option.some.injEq] at hr
        subst hr
        obtain ⟨b, m, h1, h2⟩ : cellR C (.ptr i 0) (a.eval x) := asC_R hF hπ hx
        have e1 : first = #[x] := Array.ext' (by simpa using hf)
        have e2 : cap = #[] := Array.ext' (by simpa using hc)
        subst e1 e2
        refine op_val hI (v := .func (.func f) #[.pointer (some ⟨b, 0, none⟩)] #[]) ?_ ⟨b, m, h1, rfl⟩ rfl
        unfold execOp
        simp [ho, Instr.makeFunc, h2]
      · cases hr
    · cases hr
  ·
    rename_i c1 args ats ho
    split at hr
    · rename_i x t hargs hats
      cases ht : elemOf E.T t with
      | none => rw [ht] at hr; cases hr
      | some te =>
        rw [ht] at hr
        simp only [Option.bind_some] at hr
        obtain ⟨u1, _⟩ := elemOf_ok hE.T ht
        cases hx : asC (opnd fr π x) with
        | none => rw [hx] at hr; cases hr
        | some c =>
          rw [hx] at hr
          simp only [Option.bind_some] at hr
          obtain ⟨z, h1, h2, h3⟩ := aLen_ok (P := P) (ty := o.type) u1 hI (asC_R hF hπ hx) hr hk
          have e1 : args = #[x] := Array.ext' (by simpa using hargs)
          have e2 : ats = #[t] := Array.ext' (by simpa using hats)
          subst e1 e2
          exact op_val hI (v := z) (by unfold execOp; simp [ho, resolve, invoke, builtin, h1]) h2 h3
    · cases hr
  ·
    rename_i c1 args ats ho
    split at hr
    · rename_i x y hargs
      split at hr
      · rename_i b1 b2 hx hy
        simp only [okv, Option.some.injEq] at hr
        subst hr
        have h1 : a.eval x = .int .i64 b1 := asC_R hF hπ hx
        have h2 : a.eval y = .int .i64 b2 := asC_R hF hπ hy
        have e1 : args = #[x, y] := Array.ext' (by simpa using hargs)
        subst e1
        refine op_val hI (v := .int .i64 (bif decide (b1 < b2) then b2 else b1)) ?_ rfl rfl
        unfold execOp
        simp [ho, resolve, invoke, builtin, h1, h2, Builtin.max_, Builtin.max2]
      · cases hr
    · cases hr
  ·
    rename_i c1 args ats ho
    split at hr
    · rename_i x y hargs
      split at hr
      · rename_i b1 b2 hx hy
        simp only [okv, Option.some.injEq] at hr
        subst hr
        have h1 : a.eval x = .int .i64 b1 := asC_R hF hπ hx
        have h2 : a.eval y = .int .i64 b2 := asC_R hF hπ hy
        have e1 : args = #[x, y] := Array.ext' (by simpa using hargs)
        subst e1
        refine op_val hI (v := .int .i64 (bif decide (b2 < b1) then b2 else b1)) ?_ rfl rfl
        unfold execOp
        simp [ho, resolve, invoke, builtin, h1, h2, Builtin.min_, Builtin.min2]
      · cases hr
    · cases hr
  ·
    rename_i c1 args ats ho
    split at hr
    · rename_i s x t u hargs hats
      cases htu : Nat.beq t u with
      | false => rw [htu] at hr; cases hr
      | true =>
        rw [htu] at hr
        simp only [cond_true] at hr
        have htu := Nat.eq_of_beq_eq_true htu
        subst htu
        cases ht : elemOf E.T t with
        | none => rw [ht] at hr; cases hr
        | some te =>
          rw [ht] at hr
          simp only [Option.bind_some] at hr
          obtain ⟨u1, u2, _, _⟩ := elemOf_ok hE.T ht
          cases hke : te.2.ek with
          | none => rw [hke] at hr; cases hr
          | some k =>
            rw [hke] at hr
            simp only [Option.bind_some] at hr
            cases hs : asC (opnd fr π s) with
            | none => rw [hs] at hr; cases hr
            | some cs =>
              rw [hs] at hr
              cases hx : asC (opnd fr π x) with
              | none => rw [hx] at hr; cases hr
              | some cx =>
                rw [hx] at hr
                simp only [Option.bind_some] at hr
                obtain ⟨v, w', h1, C', h2⟩ := append_ok (P := P) (ty := o.type) u1 u2 hke hI (hfr n (Nat.le_refl _) (by rw [aAppend_nid hr]; exact Nat.lt_succ_self _)) (asC_R hF hπ hs) (asC_R hF hπ hx) hr hk
                have e1 : args = #[s, x] := Array.ext' (by simpa using hargs)
                have e2 : ats = #[t, t] := Array.ext' (by simpa using hats)
                subst e1 e2
                exact .inl ⟨v, w', by unfold execOp; simp [ho, resolve, invoke, builtin, h1], C', h2⟩
    · cases hr
  ·
    rename_i c1 args ats ho
    split at hr
    · rename_i s x t u hargs hats
      cases htu : Nat.beq t u with
      | false => rw [htu] at hr; cases hr
      | true =>
        rw [htu] at hr
        simp only [cond_true] at hr
        have htu := Nat.eq_of_beq_eq_true htu
        subst htu
        cases ht : elemOf E.T t with
        | none => rw [ht] at hr; cases hr
        | some te =>
          rw [ht] at hr
          simp only [Option.bind_some] at hr
          obtain ⟨u1, u2, _, _⟩ := elemOf_ok hE.T ht
          cases hke : te.2.ek with
          | none => rw [hke] at hr; cases hr
          | some k =>
            rw [hke] at hr
            simp only [Option.bind_some] at hr
            cases hs : asC (opnd fr π s) with
            | none => rw [hs] at hr; cases hr
            | some cs =>
              rw [hs] at hr
              cases hx : asC (opnd fr π x) with
              | none => rw [hx] at hr; cases hr
              | some cx =>
                rw [hx] at hr
                simp only [Option.bind_some] at hr
                obtain ⟨v, w', h1, C', h2⟩ := copy_ok (P := P) (ty := o.type) u1 u2 hke hI (asC_R hF hπ hs) (asC_R hF hπ hx) hr hk
                have e1 : args = #[s, x] := Array.ext' (by simpa using hargs)
                have e2 : ats = #[t, t] := Array.ext' (by simpa using hats)
                subst e1 e2
                exact .inl ⟨v, w', by unfold execOp; simp [ho, resolve, invoke, builtin, h1], C', h2⟩
    · cases hr
  ·
    rename_i c1 f args ats ho
    cases hc : ctrAt E.G f ((E.at o.dst).getD 0) with
    | none => rw [hc] at hr; cases hr
    | some c =>
      rw [hc] at hr
      simp only [Option.bind_some] at hr
      cases hx : fvs (args.toList.map (opnd fr π)) with
      | none => rw [hx] at hr; cases hr
      | some xs =>
        rw [hx] at hr
        simp only [Option.bind_some] at hr
        obtain ⟨m1, m2⟩ := ctrAt_mem hc
        have hg := hG c m1
        have h := aCall_ok hg hI hfr (fvs_R hF hπ hx) hr hk
        obtain ⟨fn, f1, f2, f3⟩ := hg.fn
        rw [m2] at f1 h
        refine .inr (.inr ⟨f, (args.toList.map a.eval).toArray, ?_, h⟩)
        unfold execOp
        have f3' : ¬ fn.name = "runtime.NumGoroutine" := by simpa using f3
        have f2' : fn.body ≠ none := by intro h; rw [h] at f2; cases f2
        have e : Array.map a.eval args = (args.toList.map a.eval).toArray := Array.ext' (by simp)
        simp [ho, resolve, Deferred.ofValue, invoke, callFunc, Act.eval, f1, f3', f2', e]
  ·
    rename_i c1 d args ats ho
    cases hd : asC (opnd fr π (.tmp d)) with
    | none => rw [hd] at hr; cases hr
    | some y =>
      rw [hd] at hr
      cases y <;> try cases hr
      case clo f i =>
        simp only at hr
        cases hc : ctrAt E.G f 0 with
        | none => rw [hc] at hr; cases hr
        | some c =>
          rw [hc] at hr
          simp only [Option.bind_some] at hr
          cases hx : fvs (args.toList.map (opnd fr π)) with
          | none => rw [hx] at hr; cases hr
          | some xs =>
            rw [hx] at hr
            simp only [Option.bind_some] at hr
            obtain ⟨m1, m2⟩ := ctrAt_mem hc
            have hg := hG c m1
            obtain ⟨b, m, h1, hv⟩ : cellR C (.clo f i) (a.eval (.tmp d)) := asC_R hF hπ hd
            have h0 : valsR C (.c (.ptr i 0) :: xs) (.pointer (some ⟨b, 0, none⟩) :: args.toList.map a.eval) := ⟨⟨b, m, h1, rfl⟩, fvs_R hF hπ hx⟩
            have h := aCall_ok hg hI hfr h0 hr hk
            obtain ⟨fn, f1, f2, f3⟩ := hg.fn
            rw [m2] at f1 h
            refine .inr (.inr ⟨f, (.pointer (some ⟨b, 0, none⟩) :: args.toList.map a.eval).toArray, ?_, h⟩)
            unfold execOp
            have f3' : ¬ fn.name = "runtime.NumGoroutine" := by simpa using f3
            have f2' : fn.body ≠ none := by intro h; rw [h] at f2; cases f2
            have e : Array.map a.eval args = (args.toList.map a.eval).toArray := Array.ext' (by simp)
            simp [ho, hv, resolve, Deferred.ofValue, invoke, callFunc, f1, f3', f2', e]
      rename_i f
      cases hc : E.G[(E.at o.dst).getD 0]? with
      | none => simp only [hc] at hr; cases hr
      | some c =>
        simp only [hc] at hr
        simp only [Option.bind_some] at hr
        cases hx : fvs (args.toList.map (opnd fr π)) with
        | none => rw [hx] at hr; cases hr
        | some xs =>
          rw [hx] at hr
          simp only [Option.bind_some, Option.map_eq_some_iff] at hr
          obtain ⟨r', hr', rfl⟩ := hr
          have m1 := List.mem_of_getElem? hc
          have hg := hG c m1
          have hk' : r'.ok ∧ f = some c.fid := by
            unfold OpR.ok at hk ⊢
            dsimp only at hk
            cases hq : r'.chk with
            | none => rw [hq] at hk; exact ⟨trivial, hk⟩
            | some q => rw [hq] at hk; exact ⟨hk.1, hk.2⟩
          obtain ⟨hk1, rfl⟩ := hk'
          have h := aCall_ok (r := r') hg hI hfr (fvs_R hF hπ hx) hr' hk1
          obtain ⟨fn, f1, f2, f3⟩ := hg.fn
          have hv : a.eval (.tmp d) = .func (.func c.fid) #[] #[] := asC_R hF hπ hd
          refine .inr (.inr ⟨c.fid, (args.toList.map a.eval).toArray, ?_, h.mono fun e w' ⟨v, he, C', hL⟩ => ⟨v, he, C', ⟨hL.w, hL.v, hL.inv, hL.ext, hL.new⟩⟩⟩)
          unfold execOp
          have f3' : ¬ fn.name = "runtime.NumGoroutine" := by simpa using f3
          have f2' : fn.body ≠ none := by intro h; rw [h] at f2; cases f2
          have e : Array.map a.eval args = (args.toList.map a.eval).toArray := Array.ext' (by simp)
          simp [ho, hv, resolve, Deferred.ofValue, invoke, callFunc, f1, f3', f2', e]
  ·
    rename_i c1 d m args ats ho
    cases hd : asC (opnd fr π (.tmp d)) with
    | none => rw [hd] at hr; cases hr
    | some y =>
      rw [hd] at hr
      cases y <;> try cases hr
      rename_i k
      cases hc : E.G[(E.at o.dst).getD 0]? with
      | none => simp only [hc] at hr; cases hr
      | some c =>
        simp only [hc] at hr
        simp only [Option.bind_some] at hr
        cases hm : E.mth.find? fun e => Nat.beq e.2.2 c.fid && decide (e.2.1 = m) with
        | none => simp only [hm] at hr; cases hr
        | some e =>
          simp only [hm] at hr
          simp only [Option.bind_some] at hr
          cases hx : fvs (args.toList.map (opnd fr π)) with
          | none => rw [hx] at hr; cases hr
          | some xs =>
            rw [hx] at hr
            simp only [Option.bind_some, Option.map_eq_some_iff] at hr
            obtain ⟨r', hr', rfl⟩ := hr
            have m1 := List.mem_of_getElem? hc
            have hg := hG c m1
            have hk' : r'.ok ∧ k = e.1 := by
              unfold OpR.ok at hk ⊢
              dsimp only at hk
              cases hq : r'.chk with
              | none => rw [hq] at hk; exact ⟨trivial, hk⟩
              | some q => rw [hq] at hk; exact ⟨hk.1, hk.2⟩
            obtain ⟨hk1, rfl⟩ := hk'
            have m2 := List.mem_of_find?_eq_some hm
            have m3 := List.find?_some hm
            simp only [Bool.and_eq_true, decide_eq_true_eq] at m3
            have m4 : e.2.2 = c.fid := Nat.eq_of_beq_eq_true m3.1
            obtain ⟨m5, m6⟩ := hE.mth e m2
            have h0 : valsR C (.agg [] :: xs) (.agg #[] :: args.toList.map a.eval) := ⟨⟨#[], rfl, rfl, fun j x hj => by cases j <;> cases hj⟩, fvs_R hF hπ hx⟩
            have h := aCall_ok (r := r') hg hI hfr h0 hr' hk1
            obtain ⟨fn, f1, f2, f3⟩ := hg.fn
            have hv : a.eval (.tmp d) = ifcVal e.1 := asC_R hF hπ hd
            have hv' : ifcVal e.1 = .iface e.1 (.agg #[]) := by
              unfold ifcVal
              rw [if_neg (by omega)]
            rw [hv'] at hv
            refine .inr (.inr ⟨c.fid, (.agg #[] :: args.toList.map a.eval).toArray, ?_, h.mono fun e w' ⟨v, he, C', hL⟩ => ⟨v, he, C', ⟨hL.w, hL.v, hL.inv, hL.ext, hL.new⟩⟩⟩)
            unfold execOp
            have f3' : ¬ fn.name = "runtime.NumGoroutine" := by simpa using f3
            have f2' : fn.body ≠ none := by intro h; rw [h] at f2; cases f2
            have e0 : Array.map a.eval args = (args.toList.map a.eval).toArray := Array.ext' (by simp)
            have m7 := m6 C.w
            rw [m3.2, m4] at m7
            simp [ho, hv, resolve, invoke, callMethod, callFunc, m7, f1, f3', f2', e0]
            exact List.take_of_length_le (by simp)
  · cases hr
end
end Hw
end Go.Proofs.YtklmllaggigkfaaGreat
