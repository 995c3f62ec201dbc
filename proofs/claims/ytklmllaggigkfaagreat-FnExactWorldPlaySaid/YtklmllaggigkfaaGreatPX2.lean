/- What the abstract values say of memory, and that it is kept while other memory turns. -/
import Derived.Test.YtklmllaggigkfaaGreatPX0
import Derived.Tactics
import Derived.Laws.World
import Derived.Laws.CopyRow
import Derived.Laws.Cells
import Derived.Laws.Sem
import Derived.Laws.Tables
import Derived.Laws.MakeOwn
import Derived.Great.BuildSlice
import Derived.Maps.AppendAt
import Derived.ChangeKeysEq
set_option linter.unusedVariables false
namespace Go.Proofs.YtklmllaggigkfaaGreat
namespace Hw
open Go
structure Cx where
 w:World
 frz:Nat→Prop
 vis:Nat→Prop
 ρ:Nat→Option (Option Nat×Nat)
def big:Int:=9223372036854775807
def fnVal (f:Option Nat):Value:=match f with
 | none=>.nilFunc
 | some f=>.func (.func f) #[] #[]
def elC (R:Arr→Value→Prop):Cell→Value→Prop
 | .int n,v=>v = .int .i64 n
 | .u8 n,v=>v = .int .u8 n
 | .bool b,v=>v = .bool b
 | .fnv f,v=>v = fnVal f
 | .arr _ a,v=>R a v
 | _,_=>False
def rowR (w:World) (S:Nat→Prop) (a:Arr) (A:Option Addr) (R:Arr→Value→Prop):Prop :=
 ∀k:Nat,k < a.len→∃ad,A = some ad∧S ad.block∧∀(j:Nat) (x:Cell),((a.get k).cells true)[j]? = some x→∃u,w.cell? (ad.add (k * a.esz + j)) = some u∧elC R x u
def arrR (w:World) (S:Nat→Prop):Nat→Arr→Value→Prop
 | 0,_,_=>False
 | d + 1,a,v=>∃A c,v = .slice A a.len c∧a.len≤c∧(a.len:Int)≤big∧rowR w S a A (arrR w S d)
def Cx.S (C:Cx) (z:Bool):Nat→Prop:=fun b=>match z with | true=>C.frz b | false=>C.vis b
def ifcVal (n:Nat):Value:=if n = 0 then .nilIface else .iface n (.agg #[])
def mkR (w:World) (S:Nat→Prop):List St→Nat→Value→Prop
 | [],_,v=>v = .pointer none
 | s :: r,o,v=>∃ad:Addr,v = .pointer (some (ad.add o))∧S ad.block∧(∀(j:Nat) (x:Cell),(stCells true s)[j]? = some x→∃u,w.cell? (ad.add j) = some u∧elC (arrR w S 3) x u)∧∃u,w.cell? (ad.add 7) = some u∧mkR w S r 0 u
def cellR (C:Cx):Cell→Value→Prop
 | .int n,v=>v = .int .i64 n
 | .u8 n,v=>v = .int .u8 n
 | .bool b,v=>v = .bool b
 | .nilS,v=>v = .slice none 0 0
 | .nilP,v=>v = .pointer none
 | .ifc n,v=>v = ifcVal n
 | .fnv f,v=>v = fnVal f
 | .lit x,v=>v = x∧oneC x = true
 | .arr z a,v=>arrR C.w (C.S z) 4 a v
 | .own i sz e,v=>(C.ρ i = some (none,0)∧v = .slice none 0 0)∨∃(b n c:Nat) (vs:Array Value),C.ρ i = some (some b,n)∧v = .slice (some ⟨b,0,none⟩) n c∧n≤c∧C.w.heap[b]? = some (Obj.cells vs e (0,0))∧vs.size = c * sz∧c≤9223372036854775807
 | .tail i sz e t,v=>∃(b n c:Nat) (vs:Array Value),C.ρ i = some (some b,n)∧v = .slice (some ⟨b,t * sz,none⟩) (n - t) c∧t≤n∧n - t≤c∧C.w.heap[b]? = some (Obj.cells vs e (0,0))∧vs.size = (t + c) * sz∧((t + c:Nat):Int)≤9223372036854775807
 | .mk l o,v=>mkR C.w C.frz l.l o v∧∀x,l.g = some x→v = x
 | .mp i,v=>∃b n,C.ρ i = some (some b,n)∧v = .map (some b)
 | .clo f i,v=>∃b n,C.ρ i = some (some b,n)∧v = .func (.func f) #[.pointer (some ⟨b,0,none⟩)] #[]
 | .ptr i o,v=>∃b n,C.ρ i = some (some b,n)∧v = .pointer (some ⟨b,o,none⟩)
 | .ep i sz k o,v=>∃b n,C.ρ i = some (some b,n)∧v = .pointer (some ⟨b,k * sz + o,none⟩)
 | .rp z e o,v=>∃ad,v = .pointer (some ad)∧C.S z ad.block∧∀(j:Nat) (x:Cell),(e.cells z)[o + j]? = some x→∃u,C.w.cell? (ad.add j) = some u∧elC (arrR C.w (C.S z) 3) x u
def mpL:Nat→List Int→List MapEntry
 | _,[]=>[]
 | k,x :: r=>{ key:=.int .i64 ((k:Int) + 1),val:=.int .i64 x,born:=k } :: mpL (k + 1) r
def OwnAt (C : Cx) (i : Nat) : Blk → Prop
  | .dead => True
  | .mp l => ∃ (b m : Nat), C.ρ i = some (some b, m) ∧ ¬ C.frz b ∧ ¬ C.vis b ∧ C.w.heap[b]? = some (Obj.map (mpL 0 l).toArray l.length)
  | .raw m cs => ∃ (b : Nat) (vs : Array Value) (e : TypeId), C.ρ i = some (some b, m) ∧ ¬ C.frz b ∧ ¬ C.vis b ∧ C.w.heap[b]? = some (Obj.cells vs e (0, 0)) ∧ vs.size = cs.length ∧ ∀ (j : Nat) (x : Cell), cs[j]? = some x → ∃ u, vs[j]? = some u ∧ cellR C x u
  | .arr a => (a.len = 0 ∧ C.ρ i = some (none, 0)) ∨ ∃ (b : Nat) (vs : Array Value) (e : TypeId), C.ρ i = some (some b, a.len) ∧ ¬ C.frz b ∧ ¬ C.vis b ∧ C.w.heap[b]? = some (Obj.cells vs e (0, 0)) ∧ a.len * a.esz ≤ vs.size ∧ (a.len : Int) ≤ big ∧
      ∀ k : Nat, k < a.len → ∀ (j : Nat) (x : Cell), ((a.get k).cells true)[j]? = some x → ∃ u, vs[k * a.esz + j]? = some u ∧ elC (arrR C.w C.frz 3) x u
def Blk.live:Blk→Prop
 | .dead=>False
 | _=>True
structure Inv (C:Cx) (H:Hp):Prop where
 own:∀i,OwnAt C i (H i)
 inj:∀i j b n m,(H i).live→(H j).live→C.ρ i = some (some b,n)→C.ρ j = some (some b,m)→i = j
 frz:∀b,C.frz b→b < C.w.heap.size
 vis:∀b,C.vis b→b < C.w.heap.size
def Unf:Obj→Prop
 | .cells _ _ r=>r = (0,0)
 | _=>True
structure Ext (T:Nat→Prop) (C C':Cx):Prop where
 os:C'.w.os = C.w.os
 tape:C'.w.tape = C.w.tape
 output:C'.w.output = C.w.output
 size:C.w.heap.size≤C'.w.heap.size
 blk:∀b,b < C.w.heap.size→¬ T b→C'.w.heap[b]? = C.w.heap[b]?
 shp:∀(b:Nat) (vs:Array Value) (e:TypeId),C.w.heap[b]? = some (Obj.cells vs e (0,0))→∃vs':Array Value,C'.w.heap[b]? = some (Obj.cells vs' e (0,0))∧vs'.size = vs.size
 unf:∀(b:Nat) (o':Obj),(∀o:Obj,C.w.heap[b]? = some o→Unf o)→C'.w.heap[b]? = some o'→Unf o'
 frz:∀b,C.frz b→C'.frz b
 new:∀b,C'.frz b→C.frz b∨T b∨C.w.heap.size≤b
 vis:C'.vis = C.vis
 rho:∀i p,C.ρ i = some p→C'.ρ i = some p
def fvR (C:Cx):FV→Value→Prop
 | .c x,v=>cellR C x v
 | .agg cs,v=>∃vs:Array Value,v = .agg vs∧vs.size = cs.length∧∀(j:Nat) (x:Cell),cs[j]? = some x→∃u,vs[j]? = some u∧cellR C x u
def avR (C:Cx):AV→Value→Prop
 | .v x,v=>fvR C x v
 | .tup xs,v=>∃vs:Array Value,v = .tuple vs∧vs.size = xs.length∧∀(j:Nat) (x:FV),xs[j]? = some x→∃u,vs[j]? = some u∧fvR C x u
 | .top,_=>True
def Arr.rk:Arr→Nat
 | .sts _=>1
 | .chs _=>2
 | _=>0
theorem get_of_mem {α:Type} {l:List α} {j:Nat} {x:α} (h:l[j]? = some x):x∈l:=List.mem_of_getElem? h
theorem cells_rk {a:Arr} {k:Nat} {z y:Bool} {b:Arr} (h:Cell.arr y b∈(a.get k).cells z):b.rk < a.rk:=by
 cases a <;> simp [Arr.get,El.cells,pktCells,stCells,chCells,evCells,wsCells,Arr.rk] at h ⊢
 ·rcases h with h | h | h | h
  all_goals (obtain ⟨_,rfl⟩:=h; rfl)
 ·rcases h with h | h | h | h | h | h | h | h
  all_goals (obtain ⟨_,rfl⟩:=h; first | exact (by decide:(0:Nat) < 2) | exact (by decide:(1:Nat) < 2))
theorem elC_imp {R R':Arr→Value→Prop} {x:Cell} {u:Value} (h:elC R x u) (hR:∀y a,x = .arr y a→R a u→R' a u):elC R' x u:=by
 cases x <;> simp only [elC] at h ⊢ <;> first | exact h | exact hR _ _ rfl h
theorem arrR_any {w:World} {S:Nat→Prop}:∀(r:Nat) (a:Arr),a.rk≤r→∀(d d':Nat) (v:Value),r≤d→r≤d'→arrR w S (d + 1) a v→arrR w S (d' + 1) a v:=by
 intro r
 induction r with
 | zero =>
  intro a ha d d' v _ _ h
  obtain ⟨A,c,rfl,hc,hb,hr⟩:=h
  refine ⟨A,c,rfl,hc,hb,fun k hk=>?_⟩
  obtain ⟨ad,e,hS,hx⟩:=hr k hk
  refine ⟨ad,e,hS,fun j x hj=>?_⟩
  obtain ⟨u,h1,h2⟩:=hx j x hj
  refine ⟨u,h1,elC_imp h2 fun y b hb' _=>?_⟩
  subst hb'
  have:=cells_rk (get_of_mem hj)
  omega
 | succ r ih =>
  intro a ha d d' v hd hd' h
  obtain ⟨A,c,rfl,hc,hb,hr⟩:=h
  refine ⟨A,c,rfl,hc,hb,fun k hk=>?_⟩
  obtain ⟨ad,e,hS,hx⟩:=hr k hk
  refine ⟨ad,e,hS,fun j x hj=>?_⟩
  obtain ⟨u,h1,h2⟩:=hx j x hj
  refine ⟨u,h1,elC_imp h2 fun y b hb' h3=>?_⟩
  subst hb'
  have hlt:=cells_rk (get_of_mem hj)
  obtain ⟨d,rfl⟩:∃m,d = m + 1:=⟨d - 1,by omega⟩
  obtain ⟨d',rfl⟩:∃m,d' = m + 1:=⟨d' - 1,by omega⟩
  exact ih b (by omega) d d' u (by omega) (by omega) h3
theorem rk_le (a:Arr):a.rk≤2:=by cases a <;> simp [Arr.rk]
theorem arrR_34 {w:World} {S:Nat→Prop} {a:Arr} {v:Value} (h:arrR w S 3 a v):arrR w S 4 a v:=arrR_any 2 a (rk_le a) 2 3 v (by decide) (by decide) h
theorem arrR_43 {w:World} {S:Nat→Prop} {a:Arr} {v:Value} (h:arrR w S 4 a v):arrR w S 3 a v:=arrR_any 2 a (rk_le a) 3 2 v (by decide) (by decide) h
theorem cell?_same {w w':World} {ad:Addr} (h:w'.heap[ad.block]? = w.heap[ad.block]?):w'.cell? ad = w.cell? ad:=by
 unfold World.cell?
 rw [h]
theorem add_block (ad:Addr) (n:Nat):(ad.add n).block = ad.block:=by unfold Addr.add; split <;> rfl
theorem arrR_ext {w w':World} {S S':Nat→Prop} (hS:∀b,S b→S' b) (hb:∀b,S b→w'.heap[b]? = w.heap[b]?):∀(d:Nat) (a:Arr) (v:Value),arrR w S d a v→arrR w' S' d a v:=by
 intro d
 induction d with
 | zero=>intro a v h; exact h
 | succ d ih =>
  intro a v h
  obtain ⟨A,c,rfl,hc,hg,hr⟩:=h
  refine ⟨A,c,rfl,hc,hg,fun k hk=>?_⟩
  obtain ⟨ad,e,hs,hx⟩:=hr k hk
  refine ⟨ad,e,hS _ hs,fun j x hj=>?_⟩
  obtain ⟨u,h1,h2⟩:=hx j x hj
  refine ⟨u,?_,elC_imp h2 fun _ b _ h3=>ih b u h3⟩
  exact (cell?_same (w:=w) (w':=w') (ad:=ad.add (k * a.esz + j)) (by rw [add_block]; exact hb _ hs)).trans h1
theorem mkR_ext {w w':World} {S S':Nat→Prop} (hS:∀b,S b→S' b) (hb:∀b,S b→w'.heap[b]? = w.heap[b]?):∀(l:List St) (o:Nat) (v:Value),mkR w S l o v→mkR w' S' l o v:=by
 intro l
 induction l with
 | nil=>intro o v h; exact h
 | cons s r ih =>
  intro o v h
  obtain ⟨ad,h1,h2,h3,u,h4,h5⟩:=h
  have key:∀j,w'.cell? (ad.add j) = w.cell? (ad.add j):=fun j=>cell?_same (by rw [add_block]; exact hb _ h2)
  refine ⟨ad,h1,hS _ h2,fun j x hj=>?_,u,(key 7).trans h4,ih 0 u h5⟩
  obtain ⟨u,h6,h7⟩:=h3 j x hj
  exact ⟨u,(key j).trans h6,elC_imp h7 fun _ b _ h8=>arrR_ext hS hb 3 b u h8⟩
structure Off (T:Nat→Prop) (C:Cx):Prop where
 frz:∀b,C.frz b→¬ T b
 vis:∀b,C.vis b→¬ T b
 frzl:∀b,C.frz b→b < C.w.heap.size
 visl:∀b,C.vis b→b < C.w.heap.size
section
variable {T:Nat→Prop} {C C':Cx}
theorem Ext.S (h:Ext T C C') (z:Bool):∀b,C.S z b→C'.S z b:=by
 intro b hb
 cases z
 ·simp only [Cx.S] at hb ⊢
  rw [h.vis]
  exact hb
 ·exact h.frz b hb
theorem Ext.same (h:Ext T C C') (o:Off T C) (z:Bool):∀b,C.S z b→C'.w.heap[b]? = C.w.heap[b]?:=by
 intro b hb
 cases z
 ·exact h.blk b (o.visl b hb) (o.vis b hb)
 ·exact h.blk b (o.frzl b hb) (o.frz b hb)
theorem cellR_ext (h:Ext T C C') (o:Off T C) {x:Cell} {v:Value} (hx:cellR C x v):cellR C' x v:=by
 cases x with
 | int n=>exact hx
 | u8 n=>exact hx
 | bool b=>exact hx
 | nilS=>exact hx
 | nilP=>exact hx
 | ifc n=>exact hx
 | fnv f=>exact hx
 | lit y=>exact hx
 | arr z a=>exact arrR_ext (h.S z) (h.same o z) 4 a v hx
 | own i sz e =>
  rcases hx with ⟨h1,h2⟩ | ⟨b,n,c,vs,h1,h2,h3,h4,h5⟩
  ·exact .inl ⟨h.rho _ _ h1,h2⟩
  obtain ⟨vs',h6,h7⟩:=h.shp b vs e h4
  exact .inr ⟨b,n,c,vs',h.rho _ _ h1,h2,h3,h6,by rw [h7]; exact h5⟩
 | tail i sz e k =>
  obtain ⟨b,n,c,vs,h1,h2,h3,h4,h5,h6⟩:=hx
  obtain ⟨vs',h7,h8⟩:=h.shp b vs e h5
  exact ⟨b,n,c,vs',h.rho _ _ h1,h2,h3,h4,h7,by rw [h8]; exact h6⟩
 | mk l k=>exact ⟨mkR_ext (h.S true) (h.same o true) l.l k v hx.1,hx.2⟩
 | ptr i k =>
  obtain ⟨b,n,h1,h2⟩:=hx
  exact ⟨b,n,h.rho _ _ h1,h2⟩
 | mp i =>
  obtain ⟨b,n,h1,h2⟩:=hx
  exact ⟨b,n,h.rho _ _ h1,h2⟩
 | clo f i =>
  obtain ⟨b,n,h1,h2⟩:=hx
  exact ⟨b,n,h.rho _ _ h1,h2⟩
 | ep i sz k o =>
  obtain ⟨b,n,h1,h2⟩:=hx
  exact ⟨b,n,h.rho _ _ h1,h2⟩
 | rp z e k =>
  obtain ⟨ad,h1,h2,h3⟩:=hx
  refine ⟨ad,h1,h.S z _ h2,fun j y hj=>?_⟩
  obtain ⟨u,h4,h5⟩:=h3 j y hj
  refine ⟨u,?_,elC_imp h5 fun _ b _ h6=>arrR_ext (h.S z) (h.same o z) 3 b u h6⟩
  exact (cell?_same (w:=C.w) (w':=C'.w) (ad:=ad.add j) (by rw [add_block]; exact h.same o z _ h2)).trans h4
theorem fvR_ext (h:Ext T C C') (o:Off T C) {x:FV} {v:Value} (hx:fvR C x v):fvR C' x v:=by
 cases x with
 | c x=>exact cellR_ext h o hx
 | agg cs =>
  obtain ⟨vs,h1,h2,h3⟩:=hx
  refine ⟨vs,h1,h2,fun j y hj=>?_⟩
  obtain ⟨u,h4,h5⟩:=h3 j y hj
  exact ⟨u,h4,cellR_ext h o h5⟩
theorem avR_ext (h:Ext T C C') (o:Off T C) {x:AV} {v:Value} (hx:avR C x v):avR C' x v:=by
 cases x with
 | v x=>exact fvR_ext h o hx
 | tup xs =>
  obtain ⟨vs,h1,h2,h3⟩:=hx
  refine ⟨vs,h1,h2,fun j y hj=>?_⟩
  obtain ⟨u,h4,h5⟩:=h3 j y hj
  exact ⟨u,h4,fvR_ext h o h5⟩
 | top=>trivial
theorem lt_of_block {w:World} {b:Nat} {o:Obj} (h:w.heap[b]? = some o):b < w.heap.size:=(Array.getElem?_eq_some_iff.1 h).1
theorem OwnAt_ext (h:Ext T C C') (o:Off T C) {i:Nat} {x:Blk} (hx:OwnAt C i x) (hT:∀b n,C.ρ i = some (some b,n)→¬ T b):OwnAt C' i x:=by
 cases x with
 | dead=>trivial
 | mp l =>
  obtain ⟨b,m,h1,h2,h3,h4⟩:=hx
  have hb:=lt_of_block h4
  refine ⟨b,m,h.rho _ _ h1,fun hf=>?_,by rw [h.vis]; exact h3,by rw [h.blk b hb (hT b m h1)]; exact h4⟩
  rcases h.new b hf with h7 | h7 | h7
  ·exact h2 h7
  ·exact hT b m h1 h7
  ·omega
 | raw m cs =>
  obtain ⟨b,vs,e,h1,h2,h3,h4,h5,h6⟩:=hx
  have hb:=lt_of_block h4
  refine ⟨b,vs,e,h.rho _ _ h1,fun hf=>?_,by rw [h.vis]; exact h3,by rw [h.blk b hb (hT b m h1)]; exact h4,h5,fun j y hj=>?_⟩
  ·rcases h.new b hf with h7 | h7 | h7
   ·exact h2 h7
   ·exact hT b m h1 h7
   ·omega
  ·obtain ⟨u,h7,h8⟩:=h6 j y hj
   exact ⟨u,h7,cellR_ext h o h8⟩
 | arr a =>
  rcases hx with ⟨h1,h2⟩ | ⟨b,vs,e,h1,h2,h3,h4,h5,h5',h6⟩
  ·exact .inl ⟨h1,h.rho _ _ h2⟩
  have hb:=lt_of_block h4
  refine .inr ⟨b,vs,e,h.rho _ _ h1,fun hf=>?_,by rw [h.vis]; exact h3,by rw [h.blk b hb (hT b _ h1)]; exact h4,h5,h5',fun k hk j y hj=>?_⟩
  ·rcases h.new b hf with h7 | h7 | h7
   ·exact h2 h7
   ·exact hT b _ h1 h7
   ·omega
  ·obtain ⟨u,h7,h8⟩:=h6 k hk j y hj
   exact ⟨u,h7,elC_imp h8 fun _ b _ h9=>arrR_ext (h.S true) (h.same o true) 3 b u h9⟩
theorem Ext.refl (T:Nat→Prop) (C:Cx):Ext T C C:=⟨rfl,rfl,rfl,Nat.le_refl _,fun _ _ _=>rfl,fun b vs e h=>⟨vs,h,rfl⟩,fun b o h0 h=>h0 o h,fun _ h=>h,fun _ h=>.inl h,rfl,fun _ _ h=>h⟩
theorem Ext.trans {C'':Cx} {T':Nat→Prop} (h:Ext T C C') (k:Ext T' C' C'') (hT:∀b,T' b→b < C.w.heap.size→T b):Ext T C C'' where
 os:=k.os.trans h.os
 tape:=k.tape.trans h.tape
 output:=k.output.trans h.output
 size:=Nat.le_trans h.size k.size
 blk:=fun b hb hn=>(k.blk b (Nat.lt_of_lt_of_le hb h.size) (fun ht=>hn (hT b ht hb))).trans (h.blk b hb hn)
 shp:=fun b vs e hb=>by
  obtain ⟨vs',h1,h2⟩:=h.shp b vs e hb
  obtain ⟨vs'',h3,h4⟩:=k.shp b vs' e h1
  exact ⟨vs'',h3,h4.trans h2⟩
 unf:=fun b o' h0 h'=>k.unf b o' (fun o ho=>h.unf b o h0 ho) h'
 frz:=fun b hb=>k.frz b (h.frz b hb)
 new:=fun b hb=>by
  rcases k.new b hb with h1 | h1 | h1
  ·exact h.new b h1
  ·rcases Nat.lt_or_ge b C.w.heap.size with h2 | h2
   ·exact .inr (.inl (hT b h1 h2))
   ·exact .inr (.inr h2)
  ·exact .inr (.inr (Nat.le_trans h.size h1))
 vis:=k.vis.trans h.vis
 rho:=fun i p hp=>k.rho i p (h.rho i p hp)
end
theorem Inv.off {C:Cx} {H:Hp} (h:Inv C H) {T:Nat→Prop} (hT:∀b,T b→∃i n,(H i).live∧C.ρ i = some (some b,n)):Off T C:=by
 refine ⟨fun b hb ht=>?_,fun b hb ht=>?_,h.frz,h.vis⟩ <;>
 ·obtain ⟨i,n,hl,hr⟩:=hT b ht
  have ho:=h.own i
  cases hH:H i with
  | dead=>rw [hH] at hl; exact hl
  | mp l =>
   rw [hH] at ho
   obtain ⟨b',m,h1,h2,h3,_⟩:=ho
   rw [hr] at h1
   cases h1
   first | exact h2 hb | exact h3 hb
  | raw m cs =>
   rw [hH] at ho
   obtain ⟨b',vs,e,h1,h2,h3,_⟩:=ho
   rw [hr] at h1
   cases h1
   first | exact h2 hb | exact h3 hb
  | arr a =>
   rw [hH] at ho
   rcases ho with ⟨_,h1⟩ | ⟨b',vs,e,h1,h2,h3,_⟩
   ·rw [hr] at h1; cases h1
   rw [hr] at h1
   cases h1
   first | exact h2 hb | exact h3 hb
theorem Inv.lt {C:Cx} {H:Hp} (h:Inv C H) {i b n:Nat} (hl:(H i).live) (hr:C.ρ i = some (some b,n)):b < C.w.heap.size:=by
 have ho:=h.own i
 cases hH:H i with
 | dead=>rw [hH] at hl; exact hl.elim
 | mp l =>
  rw [hH] at ho
  obtain ⟨b',m,h1,_,_,h4⟩:=ho
  rw [hr] at h1
  cases h1
  exact lt_of_block h4
 | raw m cs =>
  rw [hH] at ho
  obtain ⟨b',vs,e,h1,_,_,h4,_⟩:=ho
  rw [hr] at h1
  cases h1
  exact lt_of_block h4
 | arr a =>
  rw [hH] at ho
  rcases ho with ⟨_,h1⟩ | ⟨b',vs,e,h1,_,_,h4,_⟩
  ·rw [hr] at h1; cases h1
  rw [hr] at h1
  cases h1
  exact lt_of_block h4
end Hw
end Go.Proofs.YtklmllaggigkfaaGreat
/- The operations one by one: what the evaluator says is what the model does. Part 1: types, operands, reads. -/
set_option linter.unusedVariables false
set_option linter.unusedSimpArgs false
namespace Go.Proofs.YtklmllaggigkfaaGreat
namespace Hw
open Go
def isRowD:TypeDesc→Bool
 | .struct _=>true
 | .array _ _=>true
 | _=>false
def isStrD:TypeDesc→Bool
 | .struct _=>true
 | _=>false
def fieldsD (P:Program):TypeDesc→List (Nat×Nat)
 | .struct fs=>fs.toList.map fun f=>(f.offset,((P.info? f.type).map (·.size)).getD 0)
 | _=>[]
def elemD:TypeDesc→Nat
 | .slice e=>e
 | _=>0
def zvOf:EK→List Value
 | .int=>[.int .i64 0]
 | .u8=>[.int .u8 0]
 | .bool=>[.bool false]
 | .pkt=>[.int .i64 0,.int .i64 0,.int .i64 0,.int .i64 0,.int .i64 0,.int .i64 0,.int .i64 0]
 | .st=>[.int .i64 0,.int .i64 0,.int .i64 0,.slice none 0 0,.slice none 0 0,.slice none 0 0,.slice none 0 0]
 | .ch=>[.int .i64 0,.slice none 0 0,.slice none 0 0,.int .i64 0,.int .i64 0,.int .i64 0,.int .i64 0,.slice none 0 0,.slice none 0 0,.slice none 0 0,.slice none 0 0,.slice none 0 0,.slice none 0 0]
 | .ev=>[.int .i64 0,.int .i64 0,.int .i64 0,.int .i64 0,.int .i64 0,.int .i64 0,.int .i64 0,.int .i64 0,.int .i64 0,.int .i64 0,.int .i64 0]
 | .ws=>[.int .i64 0,.nilFunc,.nilFunc]
structure TIok (P:Program) (t:Nat) (ti:TI):Prop where
 info:(P.info? t).map (fun i=>(i.size,i.bytes,i.zero.map fun z=>z.cells.toList)) = some (ti.size,ti.bytes,some ti.zv)
 one:ti.zv.all Value.oneCell' = true
 agg:(P.underlying t).map isRowD = some ti.agg
 str:(P.underlying t).map isStrD = some ti.agg
 fld:(P.underlying t).map (fieldsD P) = some (ti.offs.zip ti.fsz)
 pos:(ti.offs.length == ti.fsz.length && ti.fsz.all fun s=>Nat.blt 0 s) = true
 elem:(P.underlying t).map elemD = some ti.elem
 ek:match ti.ek with
  | some k=>ti.zv = zvOf k∧ti.size = k.size∧(Nat.blt 0 ti.bytes && Nat.ble ti.bytes 4096) = true
  | none=>True
def TabOK (P:Program) (T:Tab):Prop:=∀e∈T,TIok P e.1 e.2
theorem Tab.get_mem:∀{T:Tab} {t:Nat} {ti:TI},T.get t = some ti→(t,ti)∈T
 | (j,x) :: r,t,ti,h=>by
  unfold Tab.get at h
  cases hj:Nat.beq j t with
  | true =>
   rw [hj] at h
   simp only [cond_true,Option.some.injEq] at h
   subst h
   rw [Nat.eq_of_beq_eq_true hj]
   exact List.mem_cons_self
  | false =>
   rw [hj] at h
   exact List.mem_cons_of_mem _ (Tab.get_mem (by simpa using h))
theorem TabOK.get {P:Program} {T:Tab} (h:TabOK P T) {t:Nat} {ti:TI} (ht:T.get t = some ti):TIok P t ti:=h _ (Tab.get_mem ht)
section
variable {P:Program} {t:Nat} {ti:TI}
theorem TIok.i (h:TIok P t ti):∃i z,P.info? t = some i∧i.zero = some z∧i.size = ti.size∧i.bytes = ti.bytes∧z.cells.toList = ti.zv:=by
 have:=h.info
 cases hi:P.info? t with
 | none=>rw [hi] at this; cases this
 | some i =>
  rw [hi] at this
  simp only [Option.map_some,Option.some.injEq,Prod.mk.injEq] at this
  obtain ⟨h1,h2,h3⟩:=this
  cases hz:i.zero with
  | none=>rw [hz] at h3; cases h3
  | some z =>
   rw [hz] at h3
   exact ⟨i,z,rfl,hz,h1,h2,by simpa using h3⟩
theorem TIok.d (h:TIok P t ti):∃d,P.underlying t = some d∧isRowD d = ti.agg∧fieldsD P d = ti.offs.zip ti.fsz∧elemD d = ti.elem:=by
 have h1:=h.agg
 have h2:=h.fld
 have h3:=h.elem
 cases hd:P.underlying t with
 | none=>rw [hd] at h1; cases h1
 | some d =>
  rw [hd] at h1 h2 h3
  exact ⟨d,rfl,by simpa using h1,by simpa using h2,by simpa using h3⟩
theorem TIok.run_size (h:TIok P t ti) (w:World):(sizeOf t).run P w = .ok ti.size w:=by
 obtain ⟨i,z,h1,_,h3,_⟩:=h.i
 simp [sizeOf,typeInfo,h1,h3]
theorem TIok.run_zero (h:TIok P t ti) (w:World):∃z,(zeroValue t).run P w = .ok z w∧z.cells.toList = ti.zv:=by
 obtain ⟨i,z,h1,h2,_,_,h5⟩:=h.i
 exact ⟨z,by simp [zeroValue,typeInfo,h1,h2],h5⟩
theorem TIok.run_agg (h:TIok P t ti) (w:World):(isAgg t).run P w = .ok ti.agg w:=by
 obtain ⟨d,h1,h2,_⟩:=h.d
 unfold isAgg
 rw [Sem.run_bind,run_underlying h1]
 cases d <;> simp [isRowD] at h2 <;> simp [h2]
end
def RunsTo (P:Program) (o:Oper) (a:Act) (w:World) (Φ:Value→World→Prop):Prop :=
 (∃v w',(execOp a.eval o).run P w = .ok (.value v) w'∧Φ v w')∨(∃w',(execOp a.eval o).run P w = .ok .skip w'∧Φ undef w') ∨
  (∃f args,(execOp a.eval o).run P w = .ok (.enter f args) w∧Calls P f args w fun e w'=>∃v,e = .returned v∧Φ v w')
theorem RunsTo.wp {P:Program} {o:Oper} {a:Act} {w:World} {Φ:Value→World→Prop} {K:Act→World→Prop} {Q:Exit→Act→World→Prop}
  (h:RunsTo P o a w Φ) (hK:∀v w',Φ v w'→K (a.put o.dst v) w'):o.wp P a w K Q:=by
 unfold Oper.wp
 rcases h with ⟨v,w',h1,h2⟩ | ⟨w',h1,h2⟩ | ⟨f,args,h1,h2⟩
 ·rw [h1]; exact hK _ _ h2
 ·rw [h1]; exact hK _ _ h2
 ·rw [h1]
  refine Calls.mono h2 fun e w' he=>?_
  obtain ⟨v,rfl,hv⟩:=he
  exact hK _ _ hv
structure Left (C:Cx) (H:Hp) (n:Nat) (r:OpR) (v:Value) (w':World) (C':Cx):Prop where
 w:C'.w = w'
 v:avR C' r.v v
 inv:Inv C' (wr H r.ws)
 ext:Ext (fun b=>∃i m,i∈r.ws.map (·.1)∧(H i).live∧C.ρ i = some (some b,m)) C C'
 new:∀i p,C'.ρ i = some p→C.ρ i = some p∨(n≤i∧i < r.nid∧∀b,p.1 = some b→(∃j m,j∈r.ws.map (·.1)∧(H j).live∧C.ρ j = some (some b,m))∨C.w.heap.size≤b)
def OpOK (P:Program) (o:Oper) (a:Act) (C:Cx) (H:Hp) (n:Nat) (r:OpR):Prop:=RunsTo P o a C.w fun v w'=>∃C',Left C H n r v w' C'
theorem Inv.refl_left {C:Cx} {H:Hp} {n:Nat} {r:OpR} {v:Value} (h:Inv C H) (hws:r.ws = []) (hv:avR C r.v v):Left C H n r v C.w C :=
 ⟨rfl,hv,by rw [hws]; exact h,Ext.refl _ _,fun i p hp=>.inl hp⟩
def holds (π:List (Nat×Bool)) (tmps:Array Value):Prop:=∀e∈π,tmps[e.1]? = some (.bool e.2)
structure FrR (C:Cx) (fr:Fr) (tmps:Array Value):Prop where
 slot:∀t,holds (fr t).g tmps→(fr t).v = .top∨∃v,tmps[t]? = some v∧avR C (fr t).v v
 off:∀t,¬ holds (fr t).g tmps→tmps[t]? = some undef∨tmps[t]? = none
theorem eqB_true {a b:Bool} (h:eqB a b = true):a = b:=by cases a <;> cases b <;> simp [eqB] at h ⊢
theorem holds_sub:∀{π π':List (Nat×Bool)} {tmps:Array Value},subPath π π' = true→holds π' tmps→holds π tmps
 | [],_,_,_,_=>fun e he=>by cases he
 | (d,b) :: r,π',tmps,h,hp=>by
  unfold subPath at h
  rw [Bool.and_eq_true] at h
  intro e he
  rcases List.mem_cons.1 he with rfl | he
  ·obtain ⟨e',h1,h2⟩:=List.any_eq_true.1 h.1
   rw [Bool.and_eq_true] at h2
   have:=hp e' h1
   rw [Nat.eq_of_beq_eq_true h2.1,eqB_true h2.2] at this
   exact this
  ·exact holds_sub h.2 hp e he
theorem cellOfVal_R (C:Cx) (v:Value) (h:oneC v = true):cellR C (cellOfVal v) v:=by
 unfold cellOfVal
 split <;> simp_all [cellR,ifcVal,fnVal]
theorem avOfVal_R (C:Cx) (v:Value):avR C (avOfVal v) v:=by
 unfold avOfVal
 split
 ·rename_i cs
  cases h:cs.toList.all oneC with
  | false=>trivial
  | true =>
   refine ⟨cs,rfl,by simp,fun j x hj=>?_⟩
   rw [List.getElem?_map] at hj
   cases hc:cs.toList[j]? with
   | none=>rw [hc] at hj; cases hj
   | some u =>
    rw [hc] at hj
    simp only [Option.map_some,Option.some.injEq] at hj
    subst hj
    exact ⟨u,by simpa using hc,cellOfVal_R C u (List.all_eq_true.1 h u (List.mem_of_getElem? hc))⟩
 ·trivial
 ·rename_i h1 h2
  exact cellOfVal_R C v (by cases v <;> simp_all [oneC])
theorem opnd_R {C:Cx} {fr:Fr} {a:Act} {π:List (Nat×Bool)} (h:FrR C fr a.tmps) (hπ:holds π a.tmps) {x:Operand} {v:AV} (hx:opnd fr π x = some v):v = .top∨avR C v (a.eval x):=by
 cases x with
 | tmp t =>
  cases hs:subPath (fr t).g π with
  | false=>simp only [opnd,hs,cond_false] at hx; cases hx
  | true =>
   simp only [opnd,hs,cond_true,Option.some.injEq] at hx
   subst hx
   rcases h.slot t (holds_sub hs hπ) with h1 | ⟨u,h1,h2⟩
   ·exact .inl h1
   ·refine .inr ?_
    have:a.eval (.tmp t) = u:=by simp [Act.eval,Array.getD_eq_getD_getElem?,h1]
    rw [this]
    exact h2
 | const v' =>
  simp only [opnd,Option.some.injEq] at hx
  subst hx
  exact .inr (avOfVal_R C v')
 | func f =>
  simp only [opnd,Option.some.injEq] at hx
  subst hx
  exact .inr rfl
 | «global» g=>cases hx
theorem asFV_R {C:Cx} {fr:Fr} {a:Act} {π:List (Nat×Bool)} (h:FrR C fr a.tmps) (hπ:holds π a.tmps) {x:Operand} {v:FV} (hx:asFV (opnd fr π x) = some v):fvR C v (a.eval x):=by
 unfold asFV at hx
 split at hx
 ·rename_i y hy
  simp only [Option.some.injEq] at hx
  subst hx
  rcases opnd_R h hπ hy with h1 | h1
  ·cases h1
  ·exact h1
 ·cases hx
theorem asC_R {C:Cx} {fr:Fr} {a:Act} {π:List (Nat×Bool)} (h:FrR C fr a.tmps) (hπ:holds π a.tmps) {x:Operand} {v:Cell} (hx:asC (opnd fr π x) = some v):cellR C v (a.eval x):=by
 unfold asC at hx
 split at hx
 ·rename_i y hy
  simp only [Option.some.injEq] at hx
  subst hx
  rcases opnd_R h hπ hy with h1 | h1
  ·cases h1
  ·exact h1
 ·cases hx
def cellsR (C:Cx) (cs:List Cell) (vs:List Value):Prop:=vs.length = cs.length∧∀(j:Nat) (x:Cell),cs[j]? = some x→∃u,vs[j]? = some u∧cellR C x u
theorem oneCell_of {C:Cx} {x:Cell} {u:Value} (h:cellR C x u):u.oneCell' = true:=by
 cases x <;> simp only [cellR] at h
 case lit y =>
  obtain ⟨rfl,h⟩:=h
  cases u <;> simp_all [oneC,Value.oneCell']
 case arr z a=>obtain ⟨A,c,rfl,_⟩:=h; rfl
 case own i sz e=>rcases h with ⟨_,rfl⟩ | ⟨b,n,c,vs,_,rfl,_⟩ <;> rfl
 case tail i sz e k=>obtain ⟨b,n,c,vs,_,rfl,_⟩:=h; rfl
 case mk l o =>
  obtain ⟨l,g⟩:=l
  obtain ⟨h,-⟩:=h
  cases l with
  | nil=>have h:u = .pointer none:=h; subst h; rfl
  | cons s r=>obtain ⟨ad,rfl,_⟩:=h; rfl
 case ptr i o=>obtain ⟨b,n,_,rfl⟩:=h; rfl
 case mp i=>obtain ⟨b,n,_,rfl⟩:=h; rfl
 case clo f i=>obtain ⟨b,n,_,rfl⟩:=h; rfl
 case ep i sz k o=>obtain ⟨b,n,_,rfl⟩:=h; rfl
 case rp z e o=>obtain ⟨ad,rfl,_⟩:=h; rfl
 case ifc n=>subst h; unfold ifcVal; split <;> rfl
 case fnv f=>subst h; unfold fnVal; split <;> rfl
 all_goals (subst h; rfl)
theorem fv_cells {C:Cx} {x:FV} {v:Value} (h:fvR C x v):cellsR C x.cells v.cells.toList:=by
 cases x with
 | c x =>
  have h1:=oneCell_of h
  have:v.cells.toList = [v]:=by cases v <;> simp_all [Value.cells,Value.oneCell']
  rw [this]
  refine ⟨rfl,fun j y hj=>?_⟩
  cases j with
  | zero =>
   simp only [FV.cells,List.getElem?_cons_zero,Option.some.injEq] at hj
   subst hj
   exact ⟨v,rfl,h⟩
  | succ j=>simp [FV.cells] at hj
 | agg cs =>
  obtain ⟨vs,rfl,h2,h3⟩:=h
  exact ⟨by simpa [Value.cells,FV.cells] using h2,fun j y hj=>by
   obtain ⟨u,h4,h5⟩:=h3 j y hj
   exact ⟨u,by simpa [Value.cells] using h4,h5⟩⟩
theorem cellsR_one {C:Cx} {cs:List Cell} {vs:List Value} (h:cellsR C cs vs):∀u∈vs,u.oneCell' = true:=by
 intro u hu
 obtain ⟨j,hj,rfl⟩:=List.mem_iff_getElem.1 hu
 have hl:j < cs.length:=by rw [← h.1]; exact hj
 obtain ⟨u,h1,h2⟩:=h.2 j _ (List.getElem?_eq_getElem hl)
 rw [List.getElem?_eq_getElem hj,Option.some.injEq] at h1
 rw [h1]
 exact oneCell_of h2
theorem cellsR_ext {T:Nat→Prop} {C C':Cx} (h:Ext T C C') (o:Off T C) {cs:List Cell} {vs:List Value} (hx:cellsR C cs vs):cellsR C' cs vs :=
 ⟨hx.1,fun j y hj=>by obtain ⟨u,h1,h2⟩:=hx.2 j y hj; exact ⟨u,h1,cellR_ext h o h2⟩⟩
theorem fvOfCells_R {C:Cx} {agg:Bool} {cs:List Cell} {vs:List Value} {v:AV} (h:cellsR C cs vs) (hv:fvOfCells agg cs = some v):(agg = true∧avR C v (.agg vs.toArray))∨(agg = false∧∃u,vs = [u]∧avR C v u):=by
 unfold fvOfCells at hv
 cases agg with
 | true =>
  simp only [cond_true,Option.some.injEq] at hv
  subst hv
  exact .inl ⟨rfl,vs.toArray,rfl,by simpa using h.1,fun j x hj=>by obtain ⟨u,h1,h2⟩:=h.2 j x hj; exact ⟨u,by simpa using h1,h2⟩⟩
 | false =>
  simp only [cond_false] at hv
  split at hv
  ·rename_i x
   simp only [Option.some.injEq] at hv
   subst hv
   obtain ⟨u,h1,h2⟩:=h.2 0 x rfl
   have:vs.length = 1:=h.1
   match vs,this,h1 with
   | [y],_,h1 =>
    simp only [List.getElem?_cons_zero,Option.some.injEq] at h1
    subst h1
    exact .inr ⟨rfl,y,rfl,h2⟩
  ·cases hv
end Hw
end Go.Proofs.YtklmllaggigkfaaGreat
/- The operations one by one. Part 2: memory: loads, stores, new blocks, what becomes a part of what lasts. -/
set_option linter.unusedVariables false
set_option linter.unusedSimpArgs false
namespace Go.Proofs.YtklmllaggigkfaaGreat
namespace Hw
open Go
theorem upd_self {α:Type} (H:Nat→α) (i:Nat) (b:α):upd H i b i = b:=by simp [upd]
theorem upd_ne {α:Type} {H:Nat→α} {i j:Nat} {b:α} (h:j≠i):upd H i b j = H j:=by
 unfold upd
 have:Nat.beq j i = false:=by
  cases hb:Nat.beq j i with
  | true=>exact absurd (Nat.eq_of_beq_eq_true hb) h
  | false=>rfl
 rw [this]
 rfl
theorem memN_iff:∀{l:List Nat} {i:Nat},memN i l = true↔i∈l
 | [],i=>by simp [memN]
 | j :: r,i=>by
  unfold memN
  cases h:Nat.beq i j with
  | true=>simp [Nat.eq_of_beq_eq_true h]
  | false =>
   have hne:i≠j:=fun e=>by rw [e] at h; simp at h
   simp [memN_iff (l:=r),hne]
theorem wr_append:∀(l1 l2:List (Nat×Blk)) (H:Hp),wr H (l1 ++ l2) = wr (wr H l1) l2
 | [],_,_=>rfl
 | (i,b) :: r,l2,H=>wr_append r l2 (upd H i b)
theorem wr_off:∀(l:List (Nat×Blk)) (H:Hp) (i:Nat),i ∉ l.map (·.1)→wr H l i = H i
 | [],_,_,_=>rfl
 | (j,b) :: r,H,i,h=>by
  simp only [List.map_cons,List.mem_cons,not_or] at h
  rw [wr,wr_off r _ i h.2,upd_ne h.1]
theorem cells_len (a:Arr) (k:Nat) (z:Bool):((a.get k).cells z).length = a.esz:=by cases a <;> rfl
theorem cells_plain {e:El} {z:Bool} {x:Cell} (h:x∈e.cells z):(∃n,x = .int n)∨(∃n,x = .u8 n)∨(∃b,x = .bool b)∨(∃a,x = .arr z a)∨∃f,x = .fnv f:=by
 cases e <;> simp [El.cells,pktCells,stCells,chCells,evCells,wsCells] at h
 case int=>exact .inl ⟨_,h⟩
 case u8=>exact .inr (.inl ⟨_,h⟩)
 case bool=>exact .inr (.inr (.inl ⟨_,h⟩))
 case pkt=>rcases h with h | h | h | h | h | h | h <;> exact .inl ⟨_,h⟩
 case st=>rcases h with h | h | h | h | h | h | h <;> first | exact .inl ⟨_,h⟩ | exact .inr (.inr (.inr (.inl ⟨_,h⟩)))
 case ch=>rcases h with h | h | h | h | h | h | h | h | h | h | h | h | h <;> first | exact .inl ⟨_,h⟩ | exact .inr (.inr (.inr (.inl ⟨_,h⟩)))
 case ev=>rcases h with h | h | h | h | h | h | h | h | h | h | h <;> exact .inl ⟨_,h⟩
 case ws=>rcases h with h | h | h <;> first | exact .inl ⟨_,h⟩ | exact .inr (.inr (.inr (.inr ⟨_,h⟩)))
theorem elC_cellR {C:Cx} {e:El} {z:Bool} {x:Cell} {u:Value} (hx:x∈e.cells z) (h:elC (arrR C.w (C.S z) 3) x u):cellR C x u:=by
 rcases cells_plain hx with ⟨n,rfl⟩ | ⟨n,rfl⟩ | ⟨b,rfl⟩ | ⟨a,rfl⟩ | ⟨f,rfl⟩
 ·exact h
 ·exact h
 ·exact h
 ·exact arrR_34 h
 ·exact h
theorem load_gen {P:Program} {t:Nat} {ti:TI} {C:Cx} (h:TIok P t ti) (ad:Addr) (cs:List Cell) (hl:cs.length = ti.size)
  (hc:∀(j:Nat) (x:Cell),cs[j]? = some x→∃u,C.w.cell? (ad.add j) = some u∧cellR C x u) {v:AV} (hv:fvOfCells ti.agg cs = some v) :
  ∃u,(Instr.loadAt t (.pointer (some ad))).run P C.w = .ok u C.w∧avR C v u:=by
 let vs:List Value:=(List.range ti.size).map fun j=>(C.w.cell? (ad.add j)).getD undef
 have hvl:vs.length = ti.size:=by simp [vs]
 have hv1:∀j u,vs[j]? = some u→C.w.cell? (ad.add j) = some u:=by
  intro j u hu
  have hj:j < ti.size:=by
   have:=(List.getElem?_eq_some_iff.1 hu).1
   omega
  obtain ⟨u',h1,_⟩:=hc j _ (List.getElem?_eq_getElem (by omega))
  simp only [vs,List.getElem?_map,List.getElem?_range hj,Option.map_some,Option.some.injEq,h1,Option.getD_some] at hu
  rw [h1,hu]
 have hR:cellsR C cs vs:=by
  refine ⟨by omega,fun j x hj=>?_⟩
  have hjl:j < cs.length:=(List.getElem?_eq_some_iff.1 hj).1
  obtain ⟨u,h1,h2⟩:=hc j x hj
  refine ⟨u,?_,h2⟩
  simp only [vs,List.getElem?_map,List.getElem?_range (show j < ti.size by omega),Option.map_some,h1,Option.getD_some]
 rcases fvOfCells_R hR hv with ⟨ha,h1⟩ | ⟨ha,u,h1,h2⟩
 ·refine ⟨_,?_,h1⟩
  have h3:=run_loadCells_list (P:=P) C.w ad vs hv1
  rw [hvl] at h3
  simp [Instr.loadAt,Instr.sureAddr,loadVar,h.run_agg,h.run_size,ha,h3]
 ·refine ⟨u,?_,h2⟩
  have h3:C.w.cell? ad = some u:=by
   have:=hv1 0 u (by rw [h1]; rfl)
   simpa [Addr.add] using this
  simp [Instr.loadAt,Instr.sureAddr,loadVar,h.run_agg,ha,h3]
theorem getElem?_seg {α:Type} (l:List α) (o n j:Nat) (h:j < n):((l.drop o).take n)[j]? = l[o + j]?:=by
 rw [List.getElem?_take,if_pos h,List.getElem?_drop]
theorem seg_len {α:Type} {l:List α} {o n:Nat} (h:Nat.ble (Nat.add o n) l.length = true):((l.drop o).take n).length = n:=by
 have:=Nat.le_of_ble_eq_true h
 rw [List.length_take,List.length_drop]
 have h2:Nat.add o n = o + n:=rfl
 omega
theorem add_add (ad:Addr) (a b:Nat):(ad.add a).add b = ad.add (a + b):=by
 unfold Addr.add
 by_cases hm:a = 0 <;> by_cases hn:b = 0 <;> simp [hm,hn,Nat.add_assoc]
theorem mkCells_R {C : Cx} {l : Mks} {o : Nat} {v : Value} (h : cellR C (.mk l o) v) (hl : l.l ≠ []) : ∃ ad : Addr, v = .pointer (some (ad.add o)) ∧ C.frz ad.block ∧ ∀ (j : Nat) (x : Cell), (mkCells l)[j]? = some x → ∃ u, C.w.cell? (ad.add j) = some u ∧ cellR C x u := by
  obtain ⟨l, g⟩ := l
  cases l with
  | nil => exact absurd rfl hl
  | cons s r =>
    obtain ⟨⟨ad, h1, h2, h3, u, h4, h5⟩, -⟩ := h
    refine ⟨ad, h1, h2, fun j x hj => ?_⟩
    have hj : (stCells true s ++ [.mk ⟨r, none⟩ 0])[j]? = some x := hj
    rcases Nat.lt_or_ge j 7 with h6 | h6
    · rw [List.getElem?_append_left (by exact h6)] at hj
      obtain ⟨u, h7, h8⟩ := h3 j x hj
      exact ⟨u, h7, elC_cellR (e := .st s) (List.mem_of_getElem? hj) h8⟩
    · have h7 : j = 7 := by
        have := (List.getElem?_eq_some_iff.1 hj).1
        simp [stCells] at this
        omega
      subst h7
      have : Cell.mk ⟨r, none⟩ 0 = x := by simpa [stCells] using hj
      subst this
      exact ⟨u, h4, h5, fun _ e => by cases e⟩
def OpR.ok (r:OpR):Prop:=match r.chk with
 | none=>True
 | some p=>p
theorem aLoad_ok {P:Program} {t:Nat} {ti:TI} {C:Cx} {H:Hp} {n:Nat} {p:Cell} {v:Value} {r:OpR} (h:TIok P t ti) (hI:Inv C H) (hp:cellR C p v) (hr:aLoad ti H n p = some r) (hk:r.ok) :
  ∃u,(Instr.loadAt t v).run P C.w = .ok u C.w∧avR C r.v u∧r.ws = []:=by
 unfold aLoad at hr
 split at hr
 ·rename_i i o
  split at hr
  ·rename_i m cs hH
   cases hb:Nat.ble (Nat.add o ti.size) cs.length with
   | false=>rw [hb] at hr; cases hr
   | true =>
    rw [hb] at hr
    simp only [cond_true] at hr
    cases hv:fvOfCells ti.agg ((cs.drop o).take ti.size) with
    | none=>rw [hv] at hr; cases hr
    | some av =>
     rw [hv] at hr
     simp only [Option.map_some,Option.some.injEq] at hr
     subst hr
     have ho:=hI.own i
     rw [hH] at ho
     obtain ⟨b,vs,e,h1,_,_,h4,h5,h6⟩:=ho
     obtain ⟨b',n',h7,rfl⟩:=hp
     rw [h1] at h7
     cases h7
     obtain ⟨u,h8,h9⟩:=load_gen h ⟨b,o,none⟩ _ (seg_len hb) (fun j x hj=>by
      have hjl:j < ti.size:=by have:=(List.getElem?_eq_some_iff.1 hj).1; rw [seg_len hb] at this; exact this
      rw [getElem?_seg _ _ _ _ hjl] at hj
      obtain ⟨u,h8,h9⟩:=h6 _ _ hj
      refine ⟨u,?_,h9⟩
      have ha:(⟨b,o,none⟩:Addr).add j = ⟨b,o + j,none⟩:=by unfold Addr.add; split <;> simp_all
      rw [ha]
      simp [World.cell?,h4,h8]) hv
     exact ⟨u,h8,h9,rfl⟩
  ·cases hr
 ·rename_i i sz k o
  split at hr
  ·rename_i a hH
   cases hb:Nat.beq sz a.esz && Nat.ble (Nat.add o ti.size) a.esz with
   | false=>rw [hb] at hr; cases hr
   | true =>
    rw [hb] at hr
    rw [Bool.and_eq_true] at hb
    obtain ⟨hb1,hb⟩:=hb
    have hsz:=Nat.eq_of_beq_eq_true hb1
    subst hsz
    simp only [cond_true] at hr
    cases hv:fvOfCells ti.agg ((((a.get k).cells true).drop o).take ti.size) with
    | none=>rw [hv] at hr; cases hr
    | some av =>
     rw [hv] at hr
     simp only [Option.map_some,Option.some.injEq] at hr
     subst hr
     have ho:=hI.own i
     rw [hH] at ho
     rcases ho with ⟨h0,_⟩ | ⟨b,vs,e,h1,_,_,h4,h5,_,h6⟩
     ·have hk:k < a.len:=hk
      omega
     obtain ⟨b',n',h7,rfl⟩:=hp
     rw [h1] at h7
     cases h7
     have hb2:Nat.ble (Nat.add o ti.size) ((a.get k).cells true).length = true:=by rw [cells_len]; exact hb
     obtain ⟨u,h8,h9⟩:=load_gen h ⟨b,k * a.esz + o,none⟩ _ (seg_len hb2) (fun j x hj=>by
      have hjl:j < ti.size:=by have:=(List.getElem?_eq_some_iff.1 hj).1; rw [seg_len hb2] at this; exact this
      rw [getElem?_seg _ _ _ _ hjl] at hj
      obtain ⟨u,h8,h9⟩:=h6 k hk _ _ hj
      refine ⟨u,?_,elC_cellR (List.mem_of_getElem? hj) h9⟩
      have ha:(⟨b,k * a.esz + o,none⟩:Addr).add j = ⟨b,k * a.esz + (o + j),none⟩:=by unfold Addr.add; split <;> simp_all [Nat.add_assoc]
      rw [ha]
      simp [World.cell?,h4,h8]) hv
     exact ⟨u,h8,h9,rfl⟩
  ·cases hr
 ·rename_i z e o
  cases hb:Nat.ble (Nat.add o ti.size) (e.cells z).length with
  | false=>rw [hb] at hr; cases hr
  | true =>
   rw [hb] at hr
   simp only [cond_true] at hr
   cases hv:fvOfCells ti.agg (((e.cells z).drop o).take ti.size) with
   | none=>rw [hv] at hr; cases hr
   | some av =>
    rw [hv] at hr
    simp only [Option.map_some,Option.some.injEq] at hr
    subst hr
    obtain ⟨ad,rfl,h2,h3⟩:=hp
    obtain ⟨u,h8,h9⟩:=load_gen h ad _ (seg_len hb) (fun j x hj=>by
     have hjl:j < ti.size:=by have:=(List.getElem?_eq_some_iff.1 hj).1; rw [seg_len hb] at this; exact this
     rw [getElem?_seg _ _ _ _ hjl] at hj
     obtain ⟨u,h8,h9⟩:=h3 _ _ hj
     exact ⟨u,h8,elC_cellR (List.mem_of_getElem? hj) h9⟩) hv
    exact ⟨u,h8,h9,rfl⟩
 ·rename_i l o
  cases hb:Nat.ble (Nat.add o ti.size) 8 with
  | false=>rw [hb] at hr; cases hr
  | true =>
   rw [hb] at hr
   simp only [cond_true] at hr
   cases hv:fvOfCells ti.agg (((mkCells l).drop o).take ti.size) with
   | none=>rw [hv] at hr; cases hr
   | some av =>
    rw [hv] at hr
    simp only [Option.map_some,Option.some.injEq] at hr
    subst hr
    have hb':Nat.ble (Nat.add o ti.size) (mkCells l).length = true:=hb
    obtain ⟨ad,rfl,_,h3⟩:=mkCells_R hp hk
    obtain ⟨u,h8,h9⟩:=load_gen h (ad.add o) _ (seg_len hb') (fun j x hj=>by
     have hjl:j < ti.size:=by have:=(List.getElem?_eq_some_iff.1 hj).1; rw [seg_len hb'] at this; exact this
     rw [getElem?_seg _ _ _ _ hjl] at hj
     rw [add_add]
     exact h3 _ _ hj) hv
    exact ⟨u,h8,h9,rfl⟩
 ·cases hr
def Cx.add (C:Cx) (n:Nat) (vs:Array Value) (e:TypeId) (m:Nat):Cx:=⟨C.w.alloc (.cells vs e),C.frz,C.vis,upd C.ρ n (some (some C.w.heap.size,m))⟩
section
variable {C:Cx} {H:Hp} {n:Nat} {vs:Array Value} {e:TypeId} {m:Nat}
theorem heap_add_old {b:Nat} (hb:b < C.w.heap.size):(C.add n vs e m).w.heap[b]? = C.w.heap[b]?:=by
 show (C.w.heap.push _)[b]? = _
 rw [Array.getElem?_push,if_neg (by omega)]
theorem heap_add_new:(C.add n vs e m).w.heap[C.w.heap.size]? = some (.cells vs e (0,0)):=by
 show (C.w.heap.push _)[C.w.heap.size]? = _
 rw [Array.getElem?_push,if_pos rfl]
theorem add_ext (T:Nat→Prop) (hn:C.ρ n = none):Ext T C (C.add n vs e m) where
 os:=rfl
 tape:=rfl
 output:=rfl
 size:=by simp [Cx.add]
 blk:=fun b hb _=>heap_add_old hb
 shp:=fun b cs t h=>⟨cs,by rw [heap_add_old (lt_of_block h)]; exact h,rfl⟩
 unf:=fun b o' h0 h'=>by
  have hs:(C.add n vs e m).w.heap.size = C.w.heap.size + 1:=by simp [Cx.add]
  have hb:=lt_of_block h'
  by_cases hk:b = C.w.heap.size
  ·subst hk
   rw [heap_add_new] at h'
   cases h'
   rfl
  ·rw [heap_add_old (by omega)] at h'
   exact h0 o' h'
 frz:=fun b h=>h
 new:=fun b h=>.inl h
 vis:=rfl
 rho:=fun i p hp=>by
  by_cases hi:i = n
  ·subst hi; rw [hn] at hp; cases hp
  ·simp only [Cx.add]; rw [upd_ne hi]; exact hp
theorem add_inv (hI:Inv C H) (hn:C.ρ n = none) {nb:Blk} (hb:OwnAt (C.add n vs e m) n nb):Inv (C.add n vs e m) (upd H n nb) where
 own:=fun i=>by
  by_cases hi:i = n
  ·subst hi; rw [upd_self]; exact hb
  ·rw [upd_ne hi]
   exact OwnAt_ext (add_ext (fun _=>False) hn) ⟨fun _ _ h=>h,fun _ _ h=>h,hI.frz,hI.vis⟩ (hI.own i) (fun _ _ _ h=>h)
 inj:=fun i j b k l hi hj hri hrj=>by
  have old:∀i k,i≠n→(upd H n nb i).live→(C.add n vs e m).ρ i = some (some b,k)→(H i).live∧C.ρ i = some (some b,k)∧b < C.w.heap.size:=by
   intro i k hne hl hr
   rw [upd_ne hne] at hl
   simp only [Cx.add] at hr
   rw [upd_ne hne] at hr
   exact ⟨hl,hr,hI.lt hl hr⟩
  have new:∀k,(C.add n vs e m).ρ n = some (some b,k)→b = C.w.heap.size:=by
   intro k hr
   simp only [Cx.add] at hr
   rw [upd_self] at hr
   cases hr
   rfl
  by_cases h1:i = n
  ·by_cases h2:j = n
   ·rw [h1,h2]
   ·subst h1
    have:=new _ hri
    have:=(old j l h2 hj hrj).2.2
    omega
  ·by_cases h2:j = n
   ·subst h2
    have:=new _ hrj
    have:=(old i k h1 hi hri).2.2
    omega
   ·obtain ⟨a1,a2,_⟩:=old i k h1 hi hri
    obtain ⟨b1,b2,_⟩:=old j l h2 hj hrj
    exact hI.inj i j b k l a1 b1 a2 b2
 frz:=fun b hb=>by have:=hI.frz b hb; simp only [Cx.add,World.size_alloc]; exact Nat.lt_succ_of_lt this
 vis:=fun b hb=>by have:=hI.vis b hb; simp only [Cx.add,World.size_alloc]; exact Nat.lt_succ_of_lt this
theorem add_new (i:Nat) (p:Option Nat×Nat) (h:(C.add n vs e m).ρ i = some p):C.ρ i = some p∨(i = n∧p.1 = some C.w.heap.size):=by
 simp only [Cx.add] at h
 by_cases hi:i = n
 ·subst hi
  rw [upd_self] at h
  cases h
  exact .inr ⟨rfl,rfl⟩
 ·rw [upd_ne hi] at h
  exact .inl h
theorem add_own:(C.add n vs e m).ρ n = some (some C.w.heap.size,m):=by simp only [Cx.add]; exact upd_self _ _ _
theorem add_fresh (hI:Inv C H):¬ (C.add n vs e m).frz C.w.heap.size∧¬ (C.add n vs e m).vis C.w.heap.size :=
 ⟨fun h=>Nat.lt_irrefl _ (hI.frz _ h),fun h=>Nat.lt_irrefl _ (hI.vis _ h)⟩
theorem add_raw (hI:Inv C H) (hn:C.ρ n = none) {cs:List Cell} (hc:cellsR C cs vs.toList):OwnAt (C.add n vs e m) n (.raw m cs) :=
 ⟨_,vs,e,add_own,(add_fresh hI).1,(add_fresh hI).2,heap_add_new,by simpa using hc.1,fun j x hj=>by
  obtain ⟨u,h1,h2⟩:=hc.2 j x hj
  exact ⟨u,by simpa using h1,cellR_ext (add_ext (fun _=>False) hn) ⟨fun _ _ h=>h,fun _ _ h=>h,hI.frz,hI.vis⟩ h2⟩⟩
end
def Cx.set (C:Cx) (b:Nat) (vs:Array Value):Cx:=⟨C.w.setRow b vs,C.frz,C.vis,C.ρ⟩
section
variable {C:Cx} {H:Hp} {i b m:Nat} {cur vs:Array Value} {e:TypeId}
theorem set_ext (hg:C.w.heap[b]? = some (.cells cur e (0,0))) (hs:vs.size = cur.size) (T:Nat→Prop) (hT:T b):Ext T C (C.set b vs) where
 os:=rfl
 tape:=rfl
 output:=rfl
 size:=by simp [Cx.set,World.setRow]
 blk:=fun k hk hn=>setRow_other C.w b k vs (fun he=>hn (he ▸ hT))
 shp:=fun k cs t h=>by
  by_cases hk:k = b
  ·subst hk
   rw [hg] at h
   cases h
   exact ⟨vs,setRow_heap C.w k cur vs e _ hg,hs⟩
  ·exact ⟨cs,by rw [← h]; exact setRow_other C.w b k vs hk,rfl⟩
 unf:=fun k o' h0 h'=>by
  by_cases hk:k = b
  ·subst hk
   have h2:=setRow_heap C.w k cur vs e _ hg
   have h3:some o' = some (Obj.cells vs e (0,0)):=h'.symm.trans h2
   cases h3
   rfl
  ·exact h0 o' ((setRow_other C.w b k vs hk).symm.trans h')
 frz:=fun b h=>h
 new:=fun b h=>.inl h
 vis:=rfl
 rho:=fun i p hp=>hp
theorem set_inv (hI:Inv C H) (hr:C.ρ i = some (some b,m)) (hl:(H i).live) (hg:C.w.heap[b]? = some (.cells cur e (0,0))) (hs:vs.size = cur.size) {nb:Blk} (hb:OwnAt (C.set b vs) i nb):Inv (C.set b vs) (upd H i nb) where
 own:=fun j=>by
  by_cases hj:j = i
  ·subst hj; rw [upd_self]; exact hb
  ·rw [upd_ne hj]
   cases hH:H j with
   | dead=>trivial
   | raw k cs =>
    have:=hI.own j
    rw [← hH]
    refine OwnAt_ext (T:=fun k=>k = b) (set_ext hg hs _ rfl) (hI.off (fun k hk=>⟨i,m,hl,by rw [hk]; exact hr⟩)) this (fun b' n hb' he=>hj ?_)
    subst he
    exact hI.inj j i _ _ _ (by rw [hH]; trivial) hl hb' hr
   | arr a =>
    have:=hI.own j
    rw [← hH]
    refine OwnAt_ext (T:=fun k=>k = b) (set_ext hg hs _ rfl) (hI.off (fun k hk=>⟨i,m,hl,by rw [hk]; exact hr⟩)) this (fun b' n hb' he=>hj ?_)
    subst he
    exact hI.inj j i _ _ _ (by rw [hH]; trivial) hl hb' hr
   | mp a =>
    have:=hI.own j
    rw [← hH]
    refine OwnAt_ext (T:=fun k=>k = b) (set_ext hg hs _ rfl) (hI.off (fun k hk=>⟨i,m,hl,by rw [hk]; exact hr⟩)) this (fun b' n hb' he=>hj ?_)
    subst he
    exact hI.inj j i _ _ _ (by rw [hH]; trivial) hl hb' hr
 inj:=fun j k b' n l hj hk hrj hrk=>by
  have key:∀j,(upd H i nb j).live→(H j).live:=by
   intro j h
   by_cases hj:j = i
   ·subst hj; exact hl
   ·rw [upd_ne hj] at h; exact h
  exact hI.inj j k b' n l (key j hj) (key k hk) hrj hrk
 frz:=fun b hb=>by have:=hI.frz b hb; simpa [Cx.set,World.setRow] using this
 vis:=fun b hb=>by have:=hI.vis b hb; simpa [Cx.set,World.setRow] using this
end
def Cx.fz (C:Cx) (js:List Nat):Cx:=⟨C.w,fun b=>C.frz b∨∃j m,j∈js∧C.ρ j = some (some b,m),C.vis,C.ρ⟩
section
variable {C:Cx} {H:Hp} {js:List Nat}
theorem fz_ext (T:Nat→Prop) (hT:∀b j m,j∈js→C.ρ j = some (some b,m)→T b):Ext T C (C.fz js) where
 os:=rfl
 tape:=rfl
 output:=rfl
 size:=Nat.le_refl _
 blk:=fun _ _ _=>rfl
 shp:=fun b vs e h=>⟨vs,h,rfl⟩
 unf:=fun b o' h0 h'=>h0 o' h'
 frz:=fun b h=>.inl h
 new:=fun b h=>by
  rcases h with h | ⟨j,m,h1,h2⟩
  ·exact .inl h
  ·exact .inr (.inl (hT b j m h1 h2))
 vis:=rfl
 rho:=fun _ _ h=>h
theorem wr_dead:∀(js:List Nat) (H:Hp) (i:Nat),wr H (js.map fun j=>(j,Blk.dead)) i = if i∈js then .dead else H i
 | [],H,i=>by simp [wr]
 | j :: r,H,i=>by
  simp only [List.map_cons,wr,wr_dead r]
  by_cases h:i∈r
  ·simp [h]
  ·by_cases h2:i = j
   ·subst h2; simp [h,upd_self]
   ·simp [h,h2,upd_ne h2]
theorem cellR_fz {x:Cell} {v:Value} (h:cellR C x v):cellR (C.fz js) x v:=by
 cases x with
 | arr z a =>
  refine arrR_ext (S:=C.S z) (fun b hb=>?_) (fun _ _=>rfl) 4 a v h
  cases z
  ·exact hb
  ·exact .inl hb
 | rp z e k =>
  obtain ⟨ad,h1,h2,h3⟩:=h
  have hS:∀b,C.S z b→(C.fz js).S z b:=fun b hb=>by
   cases z
   ·exact hb
   ·exact .inl hb
  refine ⟨ad,h1,hS _ h2,fun j y hj=>?_⟩
  obtain ⟨u,h4,h5⟩:=h3 j y hj
  exact ⟨u,h4,elC_imp h5 fun _ b _ h6=>arrR_ext hS (fun _ _=>rfl) 3 b u h6⟩
 | mk l k=>exact ⟨mkR_ext (fun b hb=>.inl hb) (fun _ _=>rfl) l.l k v h.1,h.2⟩
 | _=>exact h
theorem fz_inv (hI:Inv C H) (hjs:∀j∈js,(H j).live):Inv (C.fz js) (wr H (js.map fun j=>(j,.dead))) where
 own:=fun i=>by
  rw [wr_dead]
  by_cases hi:i∈js
  ·rw [if_pos hi]; trivial
  ·rw [if_neg hi]
   have ho:=hI.own i
   have hne:∀b m,(H i).live→C.ρ i = some (some b,m)→¬ C.frz b→¬ (C.fz js).frz b:=by
    rintro b m hl hr hn (h | ⟨j,k,h1,h2⟩)
    ·exact hn h
    ·exact hi (hI.inj i j b m k hl (hjs j h1) hr h2 ▸ h1)
   cases hH:H i with
   | dead=>trivial
   | mp l =>
    rw [hH] at ho
    obtain ⟨b,m,h1,h2,h3,h4⟩:=ho
    exact ⟨b,m,h1,hne b m (by rw [hH]; trivial) h1 h2,h3,h4⟩
   | raw m cs =>
    rw [hH] at ho
    obtain ⟨b,vs,e,h1,h2,h3,h4,h5,h6⟩:=ho
    exact ⟨b,vs,e,h1,hne b m (by rw [hH]; trivial) h1 h2,h3,h4,h5,fun j x hj=>by obtain ⟨u,h7,h8⟩:=h6 j x hj; exact ⟨u,h7,cellR_fz h8⟩⟩
   | arr a =>
    rw [hH] at ho
    rcases ho with h0 | ⟨b,vs,e,h1,h2,h3,h4,h5,h5',h6⟩
    ·exact .inl h0
    exact .inr ⟨b,vs,e,h1,hne b _ (by rw [hH]; trivial) h1 h2,h3,h4,h5,h5',fun k hk j x hj=>by
     obtain ⟨u,h7,h8⟩:=h6 k hk j x hj
     exact ⟨u,h7,elC_imp h8 fun _ b _ h9=>arrR_ext (fun b hb=>.inl hb) (fun _ _=>rfl) 3 b u h9⟩⟩
 inj:=fun i j b n m hi hj hri hrj=>by
  rw [wr_dead] at hi hj
  split at hi
  ·exact hi.elim
  ·split at hj
   ·exact hj.elim
   ·exact hI.inj i j b n m hi hj hri hrj
 frz:=fun b hb=>by
  rcases hb with h | ⟨j,m,h1,h2⟩
  ·exact hI.frz b h
  ·exact hI.lt (hjs j h1) h2
 vis:=hI.vis
theorem last_R (hI:Inv C H) {x:Cell} {u:Value} (hl:x.lasts H = true) (hx:cellR C x u) (hj:∀i∈x.ids,i∈js):cellR (C.fz js) (x.last H) u:=by
 cases x with
 | own i sz e =>
  simp only [Cell.lasts] at hl
  simp only [Cell.last]
  cases hH:H i with
  | dead=>rw [hH] at hl; cases hl
  | mp l=>rw [hH] at hl; cases hl
  | raw m cs=>rw [hH] at hl; cases hl
  | arr a =>
   rw [hH] at hl
   have ho:=hI.own i
   rw [hH] at ho
   rcases ho with ⟨h0,h0'⟩ | ⟨b,vs,e',h1,h2,h3,h4,h5,h5',h6⟩
   ·rcases hx with ⟨_,rfl⟩ | ⟨b',n,c,vs',h7,_⟩
    ·exact ⟨none,0,by rw [h0],by omega,by rw [h0]; decide,fun k hk=>by omega⟩
    ·rw [h0'] at h7; cases h7
   rcases hx with ⟨h7,_⟩ | ⟨b',n,c,vs',h7,rfl,h8,h9,h10⟩
   ·rw [h1] at h7; cases h7
   rw [h1] at h7
   cases h7
   refine ⟨some ⟨b,0,none⟩,c,rfl,h8,h5',fun k hk=>⟨_,rfl,.inr ⟨i,_,hj i (by simp [Cell.ids]),h1⟩,fun j x hjx=>?_⟩⟩
   obtain ⟨u,h11,h12⟩:=h6 k hk j x hjx
   refine ⟨u,?_,elC_imp h12 fun _ b _ h13=>arrR_ext (fun b hb=>.inl hb) (fun _ _=>rfl) 3 b u h13⟩
   have ha:(⟨b,0,none⟩:Addr).add (k * a.esz + j) = ⟨b,k * a.esz + j,none⟩:=by unfold Addr.add; split <;> simp_all
   rw [ha]
   show C.w.cell? _ = _
   simp [World.cell?,h4,h11]
 | arr z a=>exact cellR_fz hx
 | int n=>exact hx
 | u8 n=>exact hx
 | bool b=>exact hx
 | nilS=>exact hx
 | tail i sz e k=>cases hl
 | mp i=>cases hl
 | clo f i=>cases hl
 | mk l k=>exact cellR_fz hx
 | ptr i o=>cases hl
 | ep i sz k o=>cases hl
 | rp z e o=>cases hl
 | nilP=>cases hl
 | ifc n=>cases hl
 | fnv f=>exact hx
 | lit v=>cases hl
end
end Hw
end Go.Proofs.YtklmllaggigkfaaGreat
/- The operations one by one. Part 3: elements out of cells; stores. -/
set_option linter.unusedVariables false
set_option linter.unusedSimpArgs false
namespace Go.Proofs.YtklmllaggigkfaaGreat
namespace Hw
open Go
def Cell.plain:Cell→Prop
 | .int _=>True
 | .u8 _=>True
 | .bool _=>True
 | .nilS=>True
 | .arr z _=>z = true
 | .fnv _=>True
 | .mk _ _=>True
 | _=>False
theorem last_plain {H:Hp} {x:Cell} (h:x.lasts H = true):(x.last H).plain:=by
 cases x <;> simp only [Cell.lasts] at h <;> simp only [Cell.last,Cell.plain]
 case own i sz e=>cases hH:H i <;> rw [hH] at h <;> first | cases h | rfl
 case arr z a=>exact h
 all_goals cases h
theorem nil_R (w:World) (S:Nat→Prop) (d:Nat) (k:EK):arrR w S (d + 1) (.nil k) (.slice none 0 0):=by
 refine ⟨none,0,?_,?_,?_,fun j hj=>?_⟩
 ·cases k <;> rfl
 ·cases k <;> exact Nat.le_refl _
 ·cases k <;> simp [Arr.nil,Arr.len,big]
 ·cases k <;> simp [Arr.nil,Arr.len] at hj
section
variable {C:Cx} {x:Cell} {u:Value}
theorem asInts_R {l:List Int} (h:x.asInts = some l) (hp:x.plain) (hx:cellR C x u):arrR C.w C.frz 3 (.ints l) u:=by
 cases x with
 | arr z a=>cases a <;> simp [Cell.asInts] at h; subst h; simp only [Cell.plain] at hp; subst hp; exact arrR_43 hx
 | nilS=>simp [Cell.asInts] at h; subst h; simp only [cellR] at hx; subst hx; exact nil_R _ _ 2 .int
 | _=>simp [Cell.asInts] at h
theorem asBools_R {l:List Bool} (h:x.asBools = some l) (hp:x.plain) (hx:cellR C x u):arrR C.w C.frz 3 (.bools l) u:=by
 cases x with
 | arr z a=>cases a <;> simp [Cell.asBools] at h; subst h; simp only [Cell.plain] at hp; subst hp; exact arrR_43 hx
 | nilS=>simp [Cell.asBools] at h; subst h; simp only [cellR] at hx; subst hx; exact nil_R _ _ 2 .bool
 | _=>simp [Cell.asBools] at h
theorem asPkts_R {l:List Pkt} (h:x.asPkts = some l) (hp:x.plain) (hx:cellR C x u):arrR C.w C.frz 3 (.pkts l) u:=by
 cases x with
 | arr z a=>cases a <;> simp [Cell.asPkts] at h; subst h; simp only [Cell.plain] at hp; subst hp; exact arrR_43 hx
 | nilS=>simp [Cell.asPkts] at h; subst h; simp only [cellR] at hx; subst hx; exact nil_R _ _ 2 .pkt
 | _=>simp [Cell.asPkts] at h
theorem asSts_R {l:List St} (h:x.asSts = some l) (hp:x.plain) (hx:cellR C x u):arrR C.w C.frz 3 (.sts l) u:=by
 cases x with
 | arr z a=>cases a <;> simp [Cell.asSts] at h; subst h; simp only [Cell.plain] at hp; subst hp; exact arrR_43 hx
 | nilS=>simp [Cell.asSts] at h; subst h; simp only [cellR] at hx; subst hx; exact nil_R _ _ 2 .st
 | _=>simp [Cell.asSts] at h
end
def elR (C:Cx) (e:El) (us:List Value):Prop:=∀(j:Nat) (x:Cell),(e.cells true)[j]? = some x→∃u,us[j]? = some u∧elC (arrR C.w C.frz 3) x u
def allR (C:Cx):List Cell→List Value→Prop
 | [],[]=>True
 | x :: xs,u :: us=>x.plain∧cellR C x u∧allR C xs us
 | _,_=>False
theorem allR_of {C:Cx}:∀{xs:List Cell} {us:List Value},cellsR C xs us→(∀x∈xs,x.plain)→allR C xs us
 | [],[],_,_=>trivial
 | [],u :: us,h,_=>by have:=h.1; simp at this
 | x :: xs,[],h,_=>by have:=h.1; simp at this
 | x :: xs,u :: us,h,hp=>by
  obtain ⟨u',h1,h2⟩:=h.2 0 x rfl
  simp only [List.getElem?_cons_zero,Option.some.injEq] at h1
  subst h1
  exact ⟨hp x List.mem_cons_self,h2,allR_of ⟨by simpa using h.1,fun j y hj=>by
   obtain ⟨v,h3,h4⟩:=h.2 (j + 1) y (by simpa using hj)
   exact ⟨v,by simpa using h3,h4⟩⟩ fun y hy=>hp y (List.mem_cons_of_mem _ hy)⟩
def allE (C:Cx):List Cell→List Value→Prop
 | [],_=>True
 | x :: xs,u :: us=>elC (arrR C.w C.frz 3) x u∧allE C xs us
 | _ :: _,[]=>False
theorem elR_of {C:Cx} {e:El} {us:List Value} (h:allE C (e.cells true) us):elR C e us:=by
 have key:∀(xs:List Cell) (us:List Value),allE C xs us→∀(j:Nat) (x:Cell),xs[j]? = some x→∃u,us[j]? = some u∧elC (arrR C.w C.frz 3) x u:=by
  intro xs
  induction xs with
  | nil=>intro us _ j x hj; simp at hj
  | cons y ys ih =>
   intro us h j x hj
   cases us with
   | nil=>exact h.elim
   | cons u us =>
    cases j with
    | zero =>
     simp only [List.getElem?_cons_zero,Option.some.injEq] at hj
     subst hj
     exact ⟨u,rfl,h.1⟩
    | succ j=>exact ih us h.2 j x (by simpa using hj)
 exact key _ _ h
theorem pktOf_R {C:Cx} {xs:List Cell} {us:List Value} {p:Pkt} (hx:allR C xs us) (h:pktOf xs = some p):allE C (pktCells p) us:=by
 unfold pktOf at h
 split at h
 ·simp only [Option.some.injEq] at h
  subst h
  match us,hx with
  | [_,_,_,_,_,_,_],⟨_,a,_,b,_,c,_,d,_,e,_,f,_,g,_⟩=>exact ⟨a,b,c,d,e,f,g,trivial⟩
 ·cases h
theorem stOf_R {C:Cx} {xs:List Cell} {us:List Value} {p:St} (hx:allR C xs us) (h:stOf xs = some p):allE C (stCells true p) us:=by
 unfold stOf at h
 split at h
 ·rename_i a b c x y z q
  simp only [Option.bind_eq_some_iff] at h
  obtain ⟨x',hx',y',hy',z',hz',q',hq',h⟩:=h
  simp only [Option.some.injEq] at h
  subst h
  match us,hx with
  | [_,_,_,_,_,_,_],⟨_,a,_,b,_,c,p1,d,p2,e,p3,f,p4,g,_⟩=>exact ⟨a,b,c,asPkts_R hx' p1 d,asBools_R hy' p2 e,asBools_R hz' p3 f,asInts_R hq' p4 g,trivial⟩
 ·cases h
theorem evOf_R {C:Cx} {xs:List Cell} {us:List Value} {p:Ev} (hx:allR C xs us) (h:evOf xs = some p):allE C (evCells p) us:=by
 unfold evOf at h
 split at h
 ·rename_i a b c d e f g i j k l
  simp only [Option.bind_eq_some_iff] at h
  obtain ⟨q,hq,h⟩:=h
  simp only [Option.some.injEq] at h
  subst h
  match us,hx with
  | _ :: _ :: _ :: _ :: us,⟨_,a,_,b,_,c,_,d,hr⟩=>exact ⟨a,b,c,d,pktOf_R hr hq⟩
 ·cases h
theorem wsOf_R {C:Cx} {xs:List Cell} {us:List Value} {p:Ws} (hx:allR C xs us) (h:wsOf xs = some p):allE C (wsCells p) us:=by
 unfold wsOf at h
 split at h
 ·simp only [Option.some.injEq] at h
  subst h
  match us,hx with
  | [_,_,_],⟨_,a,_,b,_,c,_⟩=>exact ⟨a,b,c,trivial⟩
 ·cases h
theorem chOf_R {C:Cx} {xs:List Cell} {us:List Value} {p:Ch} (hx:allR C xs us) (h:chOf xs = some p):allE C (chCells true p) us:=by
 unfold chOf at h
 split at h
 ·rename_i i o n l a b c x y z q pp kk
  simp only [Option.bind_eq_some_iff] at h
  obtain ⟨bk,hbk,st,hst,pa,hpa,kn,hkn,h⟩:=h
  simp only [Option.some.injEq] at h
  subst h
  unfold bkOf at hbk
  simp only [Option.bind_eq_some_iff] at hbk
  obtain ⟨o',ho',n',hn',hbk⟩:=hbk
  simp only [Option.some.injEq] at hbk
  subst hbk
  match us,hx with
  | [_,_,_,_,u5,u6,u7,u8,u9,u10,u11,_,_],⟨_,h1,q2,h2,q3,h3,_,h4,q5,h5,q6,h6,q7,h7,q8,h8,q9,h9,q10,h10,q11,h11,q12,h12,q13,h13,_⟩ =>
   have h14:=stOf_R (C:=C) (xs:=[a,b,c,x,y,z,q]) (us:=[u5,u6,u7,u8,u9,u10,u11]) ⟨q5,h5,q6,h6,q7,h7,q8,h8,q9,h9,q10,h10,q11,h11,trivial⟩ hst
   obtain ⟨e1,e2,e3,e4,e5,e6,e7,_⟩:=h14
   exact ⟨h1,asInts_R ho' q2 h2,asInts_R hn' q3 h3,h4,e1,e2,e3,e4,e5,e6,e7,asSts_R hpa q12 h12,asInts_R hkn q13 h13,trivial⟩
 ·cases h
theorem ofCells_R {C:Cx} {k:EK} {xs:List Cell} {us:List Value} {e:El} (hx:allR C xs us) (h:El.ofCells k xs = some e):elR C e us:=by
 refine elR_of ?_
 cases k
 case int =>
  simp only [El.ofCells] at h
  split at h
  ·simp only [Option.some.injEq] at h
   subst h
   match us,hx with
   | [_],⟨_,a,_⟩=>exact ⟨a,trivial⟩
  ·cases h
 case u8 =>
  simp only [El.ofCells] at h
  split at h
  ·simp only [Option.some.injEq] at h
   subst h
   match us,hx with
   | [_],⟨_,a,_⟩=>exact ⟨a,trivial⟩
  ·cases h
 case bool =>
  simp only [El.ofCells] at h
  split at h
  ·simp only [Option.some.injEq] at h
   subst h
   match us,hx with
   | [_],⟨_,a,_⟩=>exact ⟨a,trivial⟩
  ·cases h
 case pkt =>
  simp only [El.ofCells,Option.map_eq_some_iff] at h
  obtain ⟨p,h1,rfl⟩:=h
  exact pktOf_R hx h1
 case st =>
  simp only [El.ofCells,Option.map_eq_some_iff] at h
  obtain ⟨p,h1,rfl⟩:=h
  exact stOf_R hx h1
 case ch =>
  simp only [El.ofCells,Option.map_eq_some_iff] at h
  obtain ⟨p,h1,rfl⟩:=h
  exact chOf_R hx h1
 case ev =>
  simp only [El.ofCells,Option.map_eq_some_iff] at h
  obtain ⟨p,h1,rfl⟩:=h
  exact evOf_R hx h1
 case ws =>
  simp only [El.ofCells,Option.map_eq_some_iff] at h
  obtain ⟨p,h1,rfl⟩:=h
  exact wsOf_R hx h1
theorem ofCells_ek {k:EK} {xs:List Cell} {e:El} (h:El.ofCells k xs = some e):(e.cells true).length = k.size:=by
 cases k <;> simp only [El.ofCells,Option.map_eq_some_iff] at h
 case int=>split at h <;> simp at h; subst h; rfl
 case u8=>split at h <;> simp at h; subst h; rfl
 case bool=>split at h <;> simp at h; subst h; rfl
 all_goals (obtain ⟨p,_,rfl⟩:=h; rfl)
theorem set_spec {a b:Arr} {k:Nat} {e:El} (h:a.set k e = some b):b.len = a.len∧b.esz = a.esz∧(k < a.len→b.get k = e)∧∀j,j≠k→b.get j = a.get j:=by
 cases a <;> cases e <;> simp only [Arr.set,Option.some.injEq,reduceCtorEq] at h
 all_goals
  subst h
  refine ⟨by simp [Arr.len],rfl,fun hk=>?_,fun j hj=>?_⟩
  ·simp only [Arr.len] at hk
   simp [Arr.get,List.getD_eq_getElem?_getD,List.getElem?_set_self hk]
  ·simp [Arr.get,List.getD_eq_getElem?_getD,List.getElem?_set_ne (Ne.symm hj)]
end Hw
end Go.Proofs.YtklmllaggigkfaaGreat
