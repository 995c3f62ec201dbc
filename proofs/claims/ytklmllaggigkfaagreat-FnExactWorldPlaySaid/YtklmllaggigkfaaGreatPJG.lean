/- slices.BinarySearch and slices.Insert at []int: contracts, from the library's own. -/
import Derived.Shelf.Slices.SearchI
import Derived.Shelf.Slices.Empties
import Derived.Shelf.Spec.SlicesInsertGrow
import Derived.Shelf.Spec.SlicesInsert
import Derived.Test.YtklmllaggigkfaaGreatPJE
set_option linter.unusedVariables false
set_option linter.unusedSimpArgs false
set_option maxRecDepth 100000
namespace Go.Proofs.YtklmllaggigkfaaGreat
namespace Hw
open Go
def slRen:Go.Shelf.Ren:=⟨fun | 21=>87 | 25=>86 | 27=>151 | 28=>152 | 31=>149 | 32=>150 | 35=>189 | 37=>188 | 39=>197 | n=>n,fun | 0=>0 | 3=>3 | 4=>4 | 22=>69 | 40=>182 | n=>n,fun n=>n⟩
theorem lay25:Lays2.n25 Tryz.prog slRen:={ mixed:=mixed,f25:=by kernel_rfl,f31:=by kernel_rfl,f32:=by kernel_rfl,f37:=by kernel_rfl,t0:=by kernel_rfl,a0:=fun w=>by kernel_rfl,z0:=fun w=>by kernel_rfl,v0:=fun w=>by kernel_rfl,t3:=by kernel_rfl,a3:=fun w=>by kernel_rfl,z3:=fun w=>by kernel_rfl,v3:=fun w=>by kernel_rfl,t4:=by kernel_rfl,a4:=fun w=>by kernel_rfl,z4:=fun w=>by kernel_rfl,v4:=fun w=>by kernel_rfl,t22:=by kernel_rfl,a22:=fun w=>by kernel_rfl,z22:=fun w=>by kernel_rfl,v22:=fun w=>by kernel_rfl,t40:=by kernel_rfl,a40:=fun w=>by kernel_rfl,z40:=fun w=>by kernel_rfl,v40:=fun w=>by kernel_rfl }
theorem lay21:Lays2.n21 Tryz.prog slRen:={ mixed:=mixed,f21:=by kernel_rfl,f27:=by kernel_rfl,f28:=by kernel_rfl,f35:=by kernel_rfl,f39:=by kernel_rfl,t0:=by kernel_rfl,a0:=fun w=>by kernel_rfl,z0:=fun w=>by kernel_rfl,v0:=fun w=>by kernel_rfl,t3:=by kernel_rfl,a3:=fun w=>by kernel_rfl,z3:=fun w=>by kernel_rfl,v3:=fun w=>by kernel_rfl,t4:=by kernel_rfl,a4:=fun w=>by kernel_rfl,z4:=fun w=>by kernel_rfl,v4:=fun w=>by kernel_rfl,t22:=by kernel_rfl,a22:=fun w=>by kernel_rfl,z22:=fun w=>by kernel_rfl,v22:=fun w=>by kernel_rfl,i3:=by kernel_rfl }
theorem setCells_all (b:Nat):∀(xs:List Value) (o:Nat) (w:World),(w.setCells b o xs).os = w.os∧(w.setCells b o xs).tape = w.tape∧(w.setCells b o xs).output = w.output∧(w.setCells b o xs).heap.size = w.heap.size∧∀k,k≠b→(w.setCells b o xs).heap[k]? = w.heap[k]?
 | [],o,w=>⟨rfl,rfl,rfl,rfl,fun _ _=>rfl⟩
 | v :: r,o,w=>by
  obtain ⟨h1,h2,h3,h4,h5⟩:=setCells_all b r (o + 1) (w.setCell ⟨b,o,none⟩ v)
  refine ⟨h1,h2,h3,h4.trans (by show (w.heap.modify b _).size = _; simp),fun k hk=>(h5 k hk).trans ?_⟩
  show (w.heap.modify b _)[k]? = _
  rw [Array.getElem?_modify,if_neg (Ne.symm hk)]
theorem setCells_row (b:Nat):∀(xs:List Value) (o:Nat) (w:World) (cur:Array Value) (e:TypeId),w.heap[b]? = some (.cells cur e (0,0))→∃cur':Array Value,(w.setCells b o xs).heap[b]? = some (.cells cur' e (0,0))∧cur'.size = cur.size∧∀j,j < cur.size→cur'[j]? = if o≤j∧j < o + xs.length then xs[j - o]? else cur[j]?
 | [],o,w,cur,e,h=>⟨cur,h,rfl,fun j hj=>by rw [if_neg (by simp only [List.length_nil]; omega)]⟩
 | v :: r,o,w,cur,e,h=>by
  have h1:(w.setCell ⟨b,o,none⟩ v).heap[b]? = some (.cells (cur.setIfInBounds o v) e (0,0)):=by
   show (w.heap.modify b _)[b]? = _
   rw [Array.getElem?_modify,if_pos rfl,h]
   rfl
  obtain ⟨c',h2,h3,h4⟩:=setCells_row b r (o + 1) _ _ e h1
  refine ⟨c',h2,h3.trans (by simp),fun j hj=>?_⟩
  rw [h4 j (by simpa using hj)]
  simp only [List.length_cons]
  by_cases hjo:j = o
  ·subst hjo
   rw [if_neg (by omega),if_pos (by omega),Array.getElem?_setIfInBounds,if_pos rfl,if_pos hj]
   simp
  ·by_cases hr:o + 1≤j∧j < o + 1 + r.length
   ·rw [if_pos hr,if_pos (by omega),show j - o = (j - (o + 1)) + 1 by omega,List.getElem?_cons_succ]
   ·rw [if_neg hr,if_neg (by omega),Array.getElem?_setIfInBounds,if_neg (by omega)]
def insL (l:List Int) (i:Int) (m:List Int):List Int:=l.take i.toNat ++ m ++ l.drop i.toNat
structure InsW (W W':World) (b:Option Nat) (l:List Int) (r:Value):Prop where
 os:W'.os = W.os
 tape:W'.tape = W.tape
 output:W'.output = W.output
 size:W.heap.size≤W'.heap.size
 blk:∀k,k < W.heap.size→(∀x,b = some x→k≠x)→W'.heap[k]? = W.heap[k]?
 shp:∀x cur e,b = some x→W.heap[x]? = some (.cells cur e (0,0))→∃cur':Array Value,W'.heap[x]? = some (.cells cur' e (0,0))∧cur'.size = cur.size
 row:∃(g c:Nat) (cur:Array Value),r = .slice (some ⟨g,0,none⟩) l.length c∧l.length≤c∧c≤9223372036854775807∧W'.heap[g]? = some (.cells cur 3 (0,0))∧cur.size = c∧(∀j,j < l.length→cur[j]? = some (.int .i64 (l.getD j 0)))∧(b = some g∨W.heap.size≤g)
 unf:∀k,W.heap.size≤k→∀o:Obj,W'.heap[k]? = some o→Unf o
theorem ints_at {cs:Array Value} {l:List Int} (h:∀j,j < l.length→cs[j]? = some (.int .i64 (l.getD j 0))):∀(j:Nat) (v:Value),(l.map (Value.int .i64))[j]? = some v→cs[j]? = some v:=fun j v hj=>by
 rw [List.getElem?_map] at hj
 cases hl:l[j]? with
 | none=>rw [hl] at hj; cases hj
 | some x =>
  rw [hl] at hj
  simp only [Option.map_some,Option.some.injEq] at hj
  subst hj
  have hlt:=(List.getElem?_eq_some_iff.1 hl).1
  rw [h j hlt,List.getD_eq_getElem?_getD,hl]
  rfl
theorem cell_at {w:World} {b o:Nat} {cs:Array Value} {e:TypeId} {r:Nat×Nat} (h:w.heap[b]? = some (.cells cs e r)):w.cell? ⟨b,o,none⟩ = cs[o]?:=by
 unfold World.cell?
 simp only [h]
 rfl
theorem frz_at {w:World} {b o:Nat} {cs:Array Value} {e:TypeId} (h:w.heap[b]? = some (.cells cs e (0,0))):w.frozen? ⟨b,o,none⟩ = false:=by
 unfold World.frozen?
 simp [h]
theorem insL_len {l m:List Int} {i:Nat} (hi:i≤l.length):(insL l (i:Int) m).length = l.length + m.length:=by
 unfold insL
 simp
 omega
theorem insL_at {l:List Int} {x:Int} {i j:Nat} (hi:i≤l.length):(insL l (i:Int) [x]).getD j 0 = if j < i then l.getD j 0 else if j = i then x else l.getD (j - 1) 0:=by
 unfold insL
 simp only [Int.toNat_natCast,List.getD_eq_getElem?_getD]
 rcases Nat.lt_trichotomy j i with h | h | h
 ·rw [if_pos h,List.append_assoc,List.getElem?_append_left (by simp; omega),List.getElem?_take,if_pos h]
 ·subst h
  rw [if_neg (by omega),if_pos rfl,List.append_assoc,List.getElem?_append_right (by simp; omega)]
  simp [Nat.min_eq_left hi]
 ·rw [if_neg (by omega),if_neg (by omega),List.getElem?_append_right (by simp; omega)]
  simp only [List.length_append,List.length_take,List.length_cons,List.length_nil,Nat.min_eq_left hi,List.getElem?_drop]
  rw [show i + (j - (i + (0 + 1))) = j - 1 by omega]
theorem one_ints (l:List Int):∀v∈l.map (Value.int .i64),v.oneCell' = true:=fun v hv=>by
 obtain ⟨x,-,rfl⟩:=List.mem_map.1 hv
 rfl
theorem unf_size {w W:World} (h:W.heap.size = w.heap.size):∀k,w.heap.size≤k→∀o:Obj,W.heap[k]? = some o→Unf o:=fun k hk o ho=>by
 have:=lt_of_block ho
 omega
theorem ins_grown {W:World} {l:List Int} {c:Nat} {b:Option Nat} {cs:Array Value} {A:Option Addr} {n:Nat} (W':World) (hW:W'.os = W.os∧W'.tape = W.tape∧W'.output = W.output∧W'.heap.size = W.heap.size + 1∧∀k,k < W.heap.size→W'.heap[k]? = W.heap[k]?)
  (hn:n = l.length) (hr:A = some ⟨W.heap.size,0,none⟩) (hc:l.length≤c) (hm:c≤9223372036854775807) (hh:W'.heap[W.heap.size]? = some (.cells cs 3 (0,0))) (hs:cs.size = c) (hcs:∀j,j < l.length→cs[j]? = some (.int .i64 (l.getD j 0))):InsW W W' b l (.slice A n c) where
 os:=hW.1
 tape:=hW.2.1
 output:=hW.2.2.1
 size:=by have:=hW.2.2.2.1; omega
 blk:=fun k hk _=>hW.2.2.2.2 k hk
 shp:=fun x cur e _ hx=>⟨cur,(hW.2.2.2.2 x (lt_of_block hx)).trans hx,rfl⟩
 row:=⟨W.heap.size,c,cs,by rw [hr,hn],hc,hm,hh,hs,hcs,.inr (Nat.le_refl _)⟩
 unf:=fun k hk o ho=>by
  have h1:=lt_of_block ho
  have h2:=hW.2.2.2.1
  obtain rfl:k = W.heap.size:=by omega
  rw [hh] at ho
  cases ho
  rfl
theorem getD_map {l:List Int} {j:Nat} (h:j < l.length):(l.map (Value.int .i64))[j]? = some (.int .i64 (l.getD j 0)):=by
 rw [List.getElem?_map,List.getD_eq_getElem?_getD,List.getElem?_eq_getElem h]
 rfl
theorem zero_size (n:Nat):(Builtin.zeroCells (Value.int .i64 0).cells n).size = n:=by
 simp [Builtin.zeroCells,Value.cells]
theorem ins_end_grow (W:World) (A:Option Addr) (l:List Int) (x:Int) (c vb vc:Nat) (vv:Array Value) (ve:TypeId) (b:Option Nat) (hl:l.length≤1000000) (hnc:l.length≤c) (hroom:c < l.length + 1) (hnil:A = none→l.length = 0)
  (hA:∀a,A = some a→∃(g:Nat) (cur:Array Value) (e:TypeId),a = ⟨g,0,none⟩∧W.heap[g]? = some (.cells cur e (0,0))∧∀j,j < l.length→cur[j]? = some (.int .i64 (l.getD j 0)))
  (hv:W.heap[vb]? = some (.cells vv ve (0,0))) (hv0:vv[0]? = some (.int .i64 x)) :
  Calls Tryz.prog 87 #[.slice A l.length c,.int .i64 (l.length:Int),.slice (some ⟨vb,0,none⟩) 1 vc] W fun ex W'=>∃r,ex = .returned r∧InsW W W' b (insL l (l.length:Int) [x]) r:=by
 refine (Any2.slices_Insert_int_end_grow lay21 A l.length c vb 0 1 vc (l.map (Value.int .i64)) [.int .i64 x] W (by decide) hnc hroom (by omega) (by simp) rfl hnil (fun a ha j v hj=>?_) (fun j v hj=>?_) (fun v hv=>by simp at hv; subst hv; rfl)).mono ?_
 ·obtain ⟨g,cur,e,rfl,h1,h2⟩:=hA a ha
  rw [show (⟨g,0,none⟩:Addr).add j = ⟨g,j,none⟩ by unfold Addr.add; split <;> simp_all,cell_at h1]
  exact ints_at h2 j v hj
 ·cases j with
  | zero=>simp at hj; subst hj; rw [cell_at hv]; exact hv0
  | succ j=>simp at hj
 rintro ex W' ⟨rfl,rfl⟩
 refine ⟨_,rfl,?_⟩
 have hge:=grownCap_ge W (l.length + 1) c (slRen.t 3)
 have hle:=grownCap_le_maxLen W (l.length + 1) c (slRen.t 3) (by unfold maxLen; omega)
 generalize grownCap W (l.length + 1) c (slRen.t 3) = g at hge hle ⊢
 have e1:insL l (l.length:Int) [x] = l ++ [x]:=by unfold insL; simp
 refine ins_grown _ ⟨rfl,rfl,rfl,Array.size_push ..,fun k hk=>heap_alloc_old W.drew _ hk⟩ (by rw [e1]; simp) rfl ?_ (Nat.le_trans hle (by unfold maxLen; omega)) (heap_alloc_new W.drew _) ?_ ?_
 ·rw [e1]; simpa using hge
 ·simp only [Array.size_append,zero_size,List.size_toArray,List.length_append,List.length_map,List.length_cons,List.length_nil]
  omega
 ·intro j hj
  rw [e1] at hj ⊢
  rw [Array.getElem?_append_left (by simpa using hj)]
  rw [List.getElem?_toArray]
  rw [show l.map (Value.int .i64) ++ [.int .i64 x] = (l ++ [x]).map (Value.int .i64) by simp]
  exact getD_map hj
theorem ins_here {W:World} {l':List Int} {b c n:Nat} {cur cs:Array Value} (W':World) (h0:W.heap[b]? = some (.cells cur 3 (0,0))) (hW:W'.os = W.os∧W'.tape = W.tape∧W'.output = W.output∧W'.heap.size = W.heap.size∧∀k,k≠b→W'.heap[k]? = W.heap[k]?)
  (hn:n = l'.length) (hc:l'.length≤c) (hm:c≤9223372036854775807) (hh:W'.heap[b]? = some (.cells cs 3 (0,0))) (hs:cs.size = cur.size) (hcur:cur.size = c) (hcs:∀j,j < l'.length→cs[j]? = some (.int .i64 (l'.getD j 0))):InsW W W' (some b) l' (.slice (some ⟨b,0,none⟩) n c) where
 os:=hW.1
 tape:=hW.2.1
 output:=hW.2.2.1
 size:=by have:=hW.2.2.2.1; omega
 blk:=fun k hk hb=>hW.2.2.2.2 k (hb b rfl)
 shp:=fun x cur' e hx h=>by
  cases hx
  rw [h0] at h
  cases h
  exact ⟨cs,hh,hs⟩
 row:=⟨b,c,cs,by rw [hn],hc,hm,hh,hs.trans hcur,hcs,.inl rfl⟩
 unf:=unf_size hW.2.2.2.1
theorem ins_end_room (W:World) (l:List Int) (x:Int) (g c vb vc:Nat) (cur vv:Array Value) (ve:TypeId) (hl:l.length≤1000000) (hroom:l.length + 1≤c) (hm:c≤9223372036854775807) (h0:W.heap[g]? = some (.cells cur 3 (0,0))) (hsz:cur.size = c)
  (hcs:∀j,j < l.length→cur[j]? = some (.int .i64 (l.getD j 0))) (hv:W.heap[vb]? = some (.cells vv ve (0,0))) (hv0:vv[0]? = some (.int .i64 x)) :
  Calls Tryz.prog 87 #[.slice (some ⟨g,0,none⟩) l.length c,.int .i64 (l.length:Int),.slice (some ⟨vb,0,none⟩) 1 vc] W fun ex W'=>∃r,ex = .returned r∧InsW W W' (some g) (insL l (l.length:Int) [x]) r:=by
 refine (Any2.slices_Insert_int_end_room lay21 g 0 l.length c vb 0 1 vc [.int .i64 x] W (by decide) hroom hm rfl (fun j hj=>?_) (fun j hj=>frz_at h0) (fun j v hj=>?_) (fun v hv=>by simp at hv; subst hv; rfl)).mono ?_
 ·rw [cell_at h0]
  simp only [Option.isSome_iff_exists]
  exact ⟨_,Array.getElem?_eq_getElem (by omega)⟩
 ·cases j with
  | zero=>simp at hj; subst hj; rw [cell_at hv]; exact hv0
  | succ j=>simp at hj
 rintro ex W' ⟨rfl,rfl⟩
 refine ⟨_,rfl,?_⟩
 have e1:insL l (l.length:Int) [x] = l ++ [x]:=by unfold insL; simp
 have ha:=setCells_all g [.int .i64 x] (0 + l.length) W
 obtain ⟨cs,h1,h2,h3⟩:=setCells_row g [.int .i64 x] (0 + l.length) W cur _ h0
 refine ins_here _ h0 ha (by rw [e1]; simp) (by rw [e1]; simpa using hroom) hm h1 h2 hsz fun j hj=>?_
 rw [insL_len (Nat.le_refl _)] at hj
 simp only [List.length_cons,List.length_nil] at hj
 rw [h3 j (by omega),insL_at (Nat.le_refl _)]
 simp only [List.length_cons,List.length_nil]
 by_cases hjl:j < l.length
 ·rw [if_neg (by omega),if_pos hjl]; exact hcs j hjl
 ·obtain rfl:j = l.length:=by omega
  rw [if_pos (by omega),if_neg (by omega),if_pos rfl]
  simp
theorem ins_shift (W:World) (l:List Int) (x:Int) (i g c vb vc:Nat) (cur vv:Array Value) (ve:TypeId) (hi:i < l.length) (hl:l.length≤1000000) (hroom:l.length + 1≤c) (hm:c≤9223372036854775807) (h0:W.heap[g]? = some (.cells cur 3 (0,0))) (hsz:cur.size = c)
  (hcs:∀j,j < l.length→cur[j]? = some (.int .i64 (l.getD j 0))) (hv:W.heap[vb]? = some (.cells vv ve (0,0))) (hv0:vv[0]? = some (.int .i64 x)) (hne:vb≠g) :
  Calls Tryz.prog 87 #[.slice (some ⟨g,0,none⟩) l.length c,.int .i64 (i:Int),.slice (some ⟨vb,0,none⟩) 1 vc] W fun ex W'=>∃r,ex = .returned r∧InsW W W' (some g) (insL l (i:Int) [x]) r:=by
 refine (Any2.slices_Insert_int_shift lay21 g 0 l.length c i vb 0 1 vc (l.map (Value.int .i64)) [.int .i64 x] W hi (by decide) hroom hm hne (by simp) rfl (fun j v hj=>?_) (fun j hj=>?_) (fun j hj=>frz_at h0) (fun j v hj=>?_) (one_ints l) (fun v hv=>by simp at hv; subst hv; rfl) ve 3 vv.size cur.size (by unfold World.shape?; rw [hv]) (by unfold World.shape?; rw [h0]) (by omega) (frz_at hv) (frz_at hv)).mono ?_
 ·rw [cell_at h0,Nat.zero_add]
  exact ints_at hcs j v hj
 ·rw [cell_at h0]
  simp only [Option.isSome_iff_exists]
  exact ⟨_,Array.getElem?_eq_getElem (by omega)⟩
 ·cases j with
  | zero=>simp at hj; subst hj; rw [cell_at hv]; exact hv0
  | succ j=>simp at hj
 rintro ex W' ⟨rfl,rfl⟩
 refine ⟨_,rfl,?_⟩
 have ha:=setCells_all g ((l.map (Value.int .i64)).drop i) (0 + (i + 1)) W.drew
 obtain ⟨c1,h1,h2,h3⟩:=setCells_row g ((l.map (Value.int .i64)).drop i) (0 + (i + 1)) W.drew cur _ h0
 have hb:=setCells_all g [.int .i64 x] (0 + i) (W.drew.setCells g (0 + (i + 1)) ((l.map (Value.int .i64)).drop i))
 obtain ⟨c2,h4,h5,h6⟩:=setCells_row g [.int .i64 x] (0 + i) (W.drew.setCells g (0 + (i + 1)) ((l.map (Value.int .i64)).drop i)) c1 _ h1
 refine ins_here _ h0 ⟨hb.1.trans ha.1,hb.2.1.trans ha.2.1,hb.2.2.1.trans ha.2.2.1,hb.2.2.2.1.trans ha.2.2.2.1,fun k hk=>(hb.2.2.2.2 k hk).trans (ha.2.2.2.2 k hk)⟩ (insL_len (m:=[x]) (Nat.le_of_lt hi)).symm (by rw [insL_len (Nat.le_of_lt hi)]; simpa using hroom) hm h4 (h5.trans h2) hsz fun j hj=>?_
 rw [insL_len (Nat.le_of_lt hi)] at hj
 simp only [List.length_cons,List.length_nil] at hj
 rw [h6 j (by omega),insL_at (Nat.le_of_lt hi),h3 j (by omega)]
 simp only [List.length_cons,List.length_nil,List.length_drop,List.length_map]
 rcases Nat.lt_trichotomy j i with h | h | h
 ·rw [if_neg (by omega),if_neg (by omega),if_pos h]
  exact hcs j (by omega)
 ·subst h
  rw [if_pos (by omega),if_neg (by omega),if_pos rfl]
  simp
 ·rw [if_neg (by omega),if_pos (by omega),if_neg (by omega),if_neg (by omega),List.getElem?_drop,show i + (j - (0 + (i + 1))) = j - 1 by omega]
  exact getD_map (by omega)
theorem ins_grow (W:World) (l:List Int) (x:Int) (i g c vb vc:Nat) (cur vv:Array Value) (ve e:TypeId) (b:Option Nat) (hi:i < l.length) (hl:l.length≤1000000) (hnc:l.length≤c) (hroom:c < l.length + 1) (h0:W.heap[g]? = some (.cells cur e (0,0)))
  (hcs:∀j,j < l.length→cur[j]? = some (.int .i64 (l.getD j 0))) (hv:W.heap[vb]? = some (.cells vv ve (0,0))) (hv0:vv[0]? = some (.int .i64 x)) :
  Calls Tryz.prog 87 #[.slice (some ⟨g,0,none⟩) l.length c,.int .i64 (i:Int),.slice (some ⟨vb,0,none⟩) 1 vc] W fun ex W'=>∃r,ex = .returned r∧InsW W W' b (insL l (i:Int) [x]) r:=by
 refine (Any2.slices_Insert_int_grow lay21 g 0 l.length c i vb 0 1 vc (l.map (Value.int .i64)) [.int .i64 x] W hi (by decide) hnc hroom (by omega) (by simp) rfl (fun j v hj=>?_) (fun j v hj=>?_) (one_ints l) (fun v hv=>by simp at hv; subst hv; rfl)).mono ?_
 ·rw [cell_at h0,Nat.zero_add]
  exact ints_at hcs j v hj
 ·cases j with
  | zero=>simp at hj; subst hj; rw [cell_at hv]; exact hv0
  | succ j=>simp at hj
 rintro ex W' ⟨rfl,rfl⟩
 refine ⟨_,rfl,?_⟩
 have hge:=grownCap_ge W (l.length + 1) c (slRen.t 3)
 have hle:=grownCap_le_maxLen W (l.length + 1) c (slRen.t 3) (by unfold maxLen; omega)
 generalize grownCap W (l.length + 1) c (slRen.t 3) = q at hge hle ⊢
 obtain ⟨c0,hc0⟩:∃c0,c0 = ((l.map (Value.int .i64)).take i).toArray ++ Builtin.zeroCells (Value.int .i64 0).cells (l.length + 1 - i) ++ Builtin.zeroCells (Value.int .i64 0).cells (q - (l.length + 1)):=⟨_,rfl⟩
 rw [← hc0]
 have hsz:c0.size = q:=by
  rw [hc0]
  simp only [Array.size_append,zero_size,List.size_toArray,List.length_take,List.length_map]
  omega
 have hn0:(W.alloc (.cells c0 (slRen.t 3))).drew.heap[W.heap.size]? = some (.cells c0 3 (0,0)):=heap_alloc_new W _
 have ha:=setCells_all W.heap.size [.int .i64 x] i (W.alloc (.cells c0 (slRen.t 3))).drew
 obtain ⟨c1,h1,h2,h3⟩:=setCells_row W.heap.size [.int .i64 x] i (W.alloc (.cells c0 (slRen.t 3))).drew c0 _ hn0
 generalize (W.alloc (.cells c0 (slRen.t 3))).drew.setCells W.heap.size i [.int .i64 x] = W1 at ha h1 h3 ⊢
 have hb:=setCells_all W.heap.size ((l.map (Value.int .i64)).drop i) (i + 1) W1.drew
 obtain ⟨c2,h4,h5,h6⟩:=setCells_row W.heap.size ((l.map (Value.int .i64)).drop i) (i + 1) W1.drew c1 _ h1
 generalize W1.drew.setCells W.heap.size (i + 1) ((l.map (Value.int .i64)).drop i) = W2 at hb h4 h6 ⊢
 refine ins_grown _ ⟨hb.1.trans ha.1,hb.2.1.trans ha.2.1,hb.2.2.1.trans ha.2.2.1,hb.2.2.2.1.trans (ha.2.2.2.1.trans (Array.size_push ..)),fun k hk=>(hb.2.2.2.2 k (by omega)).trans ((ha.2.2.2.2 k (by omega)).trans (heap_alloc_old W _ hk))⟩ (insL_len (m:=[x]) (Nat.le_of_lt hi)).symm rfl (by rw [insL_len (Nat.le_of_lt hi)]; simpa using hge) (Nat.le_trans hle (by unfold maxLen; omega)) h4 (by omega) fun j hj=>?_
 rw [insL_len (Nat.le_of_lt hi)] at hj
 simp only [List.length_cons,List.length_nil] at hj
 rw [h6 j (by omega),insL_at (Nat.le_of_lt hi),h3 j (by omega)]
 simp only [List.length_cons,List.length_nil,List.length_drop,List.length_map]
 rcases Nat.lt_trichotomy j i with h | h | h
 ·rw [if_neg (by omega),if_neg (by omega),if_pos h,hc0,Array.append_assoc,Array.getElem?_append_left (by simp; omega),List.getElem?_toArray,List.getElem?_take,if_pos h]
  exact getD_map (by omega)
 ·subst h
  rw [if_neg (by omega),if_pos (by omega),if_neg (by omega),if_pos rfl]
  simp
 ·rw [if_pos (by omega),if_neg (by omega),if_neg (by omega),List.getElem?_drop,show i + (j - (i + 1)) = j - 1 by omega]
  exact getD_map (by omega)
end Hw
end Go.Proofs.YtklmllaggigkfaaGreat
set_option linter.unusedVariables false
set_option linter.unusedSimpArgs false
set_option maxRecDepth 100000
set_option maxHeartbeats 400000
namespace Go.Proofs.YtklmllaggigkfaaGreat
namespace Hw
open Go
noncomputable section
attribute [local irreducible] evFn evBody wrap wxor
theorem add_none (b off n:Nat):(⟨b,off,none⟩:Addr).add n = ⟨b,off + n,none⟩:=by unfold Addr.add; split <;> simp_all
theorem spot_none {w:World} {ad:Addr} {u:Value} (h:w.cell? ad = some u):ad.spot = none:=by
 unfold World.cell? at h
 cases hs:ad.spot with
 | none=>rfl
 | some x =>
  rw [hs] at h
  split at h
  ·simp at h
  ·cases h
theorem row_at {w:World} {S:Nat→Prop} {d:Nat} {a:Arr} {v:Value} (h:arrR w S (d + 1) a v) (h0:0 < a.len) (hc:∃x,((a.get 0).cells true)[0]? = some x):∃b off c,v = .slice (some ⟨b,off,none⟩) a.len c∧S b∧∀k,k < a.len→∀(j:Nat) (x:Cell),((a.get k).cells true)[j]? = some x→∃u,w.cell? ⟨b,off + (k * a.esz + j),none⟩ = some u∧elC (arrR w S d) x u:=by
 obtain ⟨A,c,rfl,h1,h2,h3⟩:=h
 obtain ⟨ad,rfl,h4,h5⟩:=h3 0 h0
 obtain ⟨x,hx⟩:=hc
 obtain ⟨u,h6,-⟩:=h5 0 x hx
 have hs:=spot_none h6
 have hs':ad.spot = none:=by
  have e:ad.add (0 * a.esz + 0) = ad:=by unfold Addr.add; simp
  rwa [e] at hs
 obtain ⟨b,off,sp⟩:=ad
 have hs':sp = none:=hs'
 subst hs'
 refine ⟨b,off,c,rfl,h4,fun k hk j y hy=>?_⟩
 obtain ⟨ad',e',h7,h8⟩:=h3 k hk
 cases e'
 obtain ⟨u,h9,h10⟩:=h8 j y hy
 rw [add_none] at h9
 exact ⟨u,h9,h10⟩
theorem int_row {C:Cx} {z:Bool} {l:List Int} {v:Value} (h:cellR C (.arr z (.ints l)) v):∃A c,v = .slice A l.length c∧(0 < l.length→∃b off,A = some ⟨b,off,none⟩∧C.S z b∧∀j,j < l.length→C.w.cell? ⟨b,off + j,none⟩ = some (.int .i64 (l.getD j 0))):=by
 have h:arrR C.w (C.S z) 4 (.ints l) v:=h
 obtain ⟨A,c,rfl,h1⟩:=id h
 refine ⟨A,c,rfl,fun h0=>?_⟩
 obtain ⟨b,off,c',e,h2,h3⟩:=row_at h h0 ⟨_,rfl⟩
 cases e
 refine ⟨b,off,rfl,h2,fun j hj=>?_⟩
 obtain ⟨u,h4,h5⟩:=h3 j hj 0 _ rfl
 cases h5
 have e:off + (j * (Arr.ints l).esz + 0) = off + j:=by show off + (j * 1 + 0) = _; omega
 rwa [e] at h4
theorem after_same {C:Cx} {bs:List Blk} {W:World} (hI:Inv C (hpOf bs)) (hh:W.heap = C.w.heap) (ho:W.os = C.w.os) (ht:W.tape = C.w.tape) (hp:W.output = C.w.output):After C ⟨W,C.frz,C.vis,C.ρ⟩ bs bs:=by
 have hk:∀b:Nat,W.heap[b]? = C.w.heap[b]?:=fun b=>by rw [hh]
 have hs:W.heap.size = C.w.heap.size:=by rw [hh]
 have hx:∀T,Ext T C ⟨W,C.frz,C.vis,C.ρ⟩:=fun T=>⟨ho,ht,hp,Nat.le_of_eq hs.symm,fun b _ _=>hk b,fun b vs e h=>⟨vs,(hk b).trans h,rfl⟩,fun b o h0 h=>h0 o ((hk b).symm.trans h),fun b h=>h,fun b h=>.inl h,rfl,fun i p h=>h⟩
 exact ⟨⟨fun i=>OwnAt_ext (hx fun _=>False) (hI.off fun b h=>h.elim) (hI.own i) fun b n _ h=>h,hI.inj,fun b hb=>Nat.lt_of_lt_of_le (hI.frz b hb) (Nat.le_of_eq hs.symm),fun b hb=>Nat.lt_of_lt_of_le (hI.vis b hb) (Nat.le_of_eq hs.symm)⟩,hx _,fun i p h=>.inl h⟩
def bsI (l:List Int) (x:Int):Int:=((l.countP (· < x):Nat):Int)
def bsB (l:List Int) (x:Int):Bool:=l.contains x
def slices_BinarySearch_int_int.L:FL:=fCons (fSh sInts) (fCons (fSh sInt) (fNil))
def slices_BinarySearch_int_int:List Int×Int×Unit→FR (Int×Bool):=fun (a0,a1,())=>⟨(a0.length≤1000000)∧(a0.Pairwise (·≤·))∧True,fun X=>X ((bsI a0 a1),(bsB a0 a1)),fun r=>(r.1 = bsI a0 a1)∧(r.2 = bsB a0 a1)∧True,fun r=>(.tup [.c (.int r.1),.c (.bool r.2)],[])⟩
theorem slices_BinarySearch_int_int.X:XF slices_BinarySearch_int_int:=mkF (0,false) fun (a0,a1,()) hp=>by
 obtain ⟨p0,p1,-⟩:=hp
 dsimp only [slices_BinarySearch_int_int]
 refine May.ret ⟨?_,?_,trivial⟩
 all_goals try dsimp only
 all_goals first | with_reducible assumption | omega | (rfl; done)
abbrev slices_BinarySearch_int_int.S:=Classical.choose slices_BinarySearch_int_int.X
def slices_BinarySearch_int_int.c:Ctr:=fc 86 [true,false] slices_BinarySearch_int_int.L slices_BinarySearch_int_int slices_BinarySearch_int_int.S
theorem slices_BinarySearch_int_int.good:Good Tryz.prog slices_BinarySearch_int_int.c where
 fn:=⟨Tryz.f86,by kernel_rfl,by kernel_rfl,by kernel_rfl⟩
 dec:=fun bs args s h=>⟨(slices_BinarySearch_int_int.L.hdec h).1,fun C vs hv=>((slices_BinarySearch_int_int.L.hdec h).2).vals hv⟩
 run:=fun (l,x,()) C vs hI hfr hv hp=>by
  obtain ⟨l',hl'⟩:∃l':List Int,l' = l:=⟨l,rfl⟩
  subst hl'
  have hpre:(slices_BinarySearch_int_int (l',x,())).P:=hp _ rfl
  obtain ⟨p0,p1,-⟩:=id hpre
  have hS:slices_BinarySearch_int_int.S (l',x,()) = (bsI l' x,bsB l' x):=Prod.ext (qF slices_BinarySearch_int_int.X _ hpre).1 (qF slices_BinarySearch_int_int.X _ hpre).2.1
  have hI':Inv C (hpOf []):=hI
  obtain ⟨v0,v1,rfl,h0,h1⟩:∃v0 v1,vs = [v0,v1]∧cellR C (.arr false (.ints l')) v0∧cellR C (.int x) v1:=by
   match vs,hv with
   | [v0,v1],hv=>exact ⟨v0,v1,rfl,hv.1,hv.2.1⟩
  have h1:v1 = .int .i64 x:=h1
  subst h1
  obtain ⟨A,c,rfl,hrow⟩:=int_row h0
  have key:∀W:World,W.heap = C.w.heap→W.os = C.w.os→W.tape = C.w.tape→W.output = C.w.output→∃v C',Ending.returned (.tuple #[.int .i64 (bsI l' x),.bool (bsB l' x)]) = Ending.returned v∧C'.w = W∧avR C' (slices_BinarySearch_int_int.c.out (l',x,())).1 v∧After C C' (slices_BinarySearch_int_int.c.inp (l',x,())).1 (slices_BinarySearch_int_int.c.out (l',x,())).2:=fun W hh ho ht hp=>by
   refine ⟨_,⟨W,C.frz,C.vis,C.ρ⟩,rfl,rfl,?_,after_same (bs:=[]) hI' hh ho ht hp⟩
   refine (show avR _ (.tup [.c (.int (slices_BinarySearch_int_int.S (l',x,())).1),.c (.bool (slices_BinarySearch_int_int.S (l',x,())).2)]) _ from ?_)
   rw [hS]
   refine ⟨_,rfl,rfl,fun j y hj=>?_⟩
   match j,hj with
   | 0,hj=>cases hj; exact ⟨_,rfl,rfl⟩
   | 1,hj=>cases hj; exact ⟨_,rfl,rfl⟩
   | j + 2,hj=>cases hj
  rcases Nat.eq_zero_or_pos l'.length with hz | hz
  ·obtain rfl:l' = []:=List.length_eq_zero_iff.1 hz
   refine (Any.slices_BinarySearch_int_empty lay25 A c x C.w).mono ?_
   rintro e W ⟨rfl,rfl⟩
   exact key _ rfl rfl rfl rfl
  ·obtain ⟨b,off,rfl,-,hc⟩:=hrow hz
   refine (Any.slices_BinarySearch_int lay25 b off l'.length c l' x C.w (Nat.le_refl _) (by omega) hc (by rw [List.take_length]; exact p1)).mono ?_
   rintro e W ⟨rfl,q,rfl⟩
   rw [List.take_length]
   exact key _ rfl rfl rfl rfl
def slices_Insert_int_int.L:FL:=fCons (fC (cOwn kInts 3)) (fCons (fSh sInt) (fCons (fC (cOwn kInts 3)) (fNil)))
def slices_Insert_int_int:List Int×Int×List Int×Unit→FR ((List Int)):=fun (a0,a1,a2,())=>⟨(a0.length≤1000000)∧(0≤a1)∧(a1≤(a0.length:Int))∧(a2.length = 1)∧True,fun X=>X (insL a0 a1 a2),fun r=>(r = insL a0 a1 a2)∧True,fun r=>(.v (.c (.own 2 1 3)),[.dead,.dead,.arr (.ints r)])⟩
theorem slices_Insert_int_int.X:XF slices_Insert_int_int:=mkF ([]) fun (a0,a1,a2,()) hp=>by
 obtain ⟨p0,p1,p2,p3,-⟩:=hp
 dsimp only [slices_Insert_int_int]
 refine May.ret ⟨?_,trivial⟩
 all_goals try dsimp only
 all_goals first | with_reducible assumption | omega | (rfl; done)
abbrev slices_Insert_int_int.S:=Classical.choose slices_Insert_int_int.X
def slices_Insert_int_int.c:Ctr:=fc 87 [false,false,false] slices_Insert_int_int.L slices_Insert_int_int slices_Insert_int_int.S
theorem slices_Insert_int_int.good : Good Tryz.prog slices_Insert_int_int.c where
  fn := ⟨Tryz.f87, by kernel_rfl, by kernel_rfl, by kernel_rfl⟩
  dec := fun bs args s h => ⟨(slices_Insert_int_int.L.hdec h).1, fun C vs hv => ((slices_Insert_int_int.L.hdec h).2).vals hv⟩
  run := fun (l, i, m, ()) C vs hI hfr hv hp => by
    obtain ⟨l', hl'⟩ : ∃ l' : List Int, l' = l := ⟨l, rfl⟩
    subst hl'
    obtain ⟨m', hm'⟩ : ∃ m' : List Int, m' = m := ⟨m, rfl⟩
    subst hm'
    obtain ⟨i', hi'⟩ : ∃ i' : Int, i' = i := ⟨i, rfl⟩
    subst hi'
    have hpre : (slices_Insert_int_int (l', i', m', ())).P := hp _ rfl
    obtain ⟨p0, p1, p2, p3, -⟩ := id hpre
    have hS : slices_Insert_int_int.S (l', i', m', ()) = insL l' i' m' := (qF slices_Insert_int_int.X _ hpre).1
    have hI' : Inv C (hpOf [.arr (.ints l'), .arr (.ints m')]) := hI
    obtain ⟨v0, v1, v2, rfl, h0, h1, h2⟩ : ∃ v0 v1 v2, vs = [v0, v1, v2] ∧ cellR C (.own 0 1 3) v0 ∧ cellR C (.int i') v1 ∧ cellR C (.own 1 1 3) v2 := by
      match vs, hv with
      | [v0, v1, v2], hv => exact ⟨v0, v1, v2, rfl, hv.1, hv.2.1, hv.2.2.1⟩
    have h1 : v1 = .int .i64 i' := h1
    subst h1
    obtain ⟨x, rfl⟩ : ∃ x, m' = [x] := List.length_eq_one_iff.1 p3
    obtain ⟨j, rfl⟩ := Int.eq_ofNat_of_zero_le p1
    have hj : j ≤ l'.length := by omega
    obtain ⟨vb, vv, ve, k1, k2, k3, k4, k5, -, k6⟩ : ∃ (b : Nat) (vs : Array Value) (e : TypeId), C.ρ 1 = some (some b, 1) ∧ ¬ C.frz b ∧ ¬ C.vis b ∧ C.w.heap[b]? = some (Obj.cells vs e (0, 0)) ∧ 1 * 1 ≤ vs.size ∧ ((1 : Nat) : Int) ≤ big ∧ ∀ k : Nat, k < 1 → ∀ (j : Nat) (y : Cell), (((Arr.ints [x]).get k).cells true)[j]? = some y → ∃ u, vs[k * 1 + j]? = some u ∧ elC (arrR C.w C.frz 3) y u := by
      rcases hI'.own 1 with ⟨h, -⟩ | h
      · exact absurd (show (1 : Nat) = 0 from h) (by decide)
      · exact h
    obtain ⟨u, hu1, hu2⟩ := k6 0 (by decide) 0 _ rfl
    have hu2 : u = .int .i64 x := hu2
    subst hu2
    obtain ⟨vc, rfl⟩ : ∃ vc, v2 = .slice (some ⟨vb, 0, none⟩) 1 vc := by
      rcases h2 with ⟨h, -⟩ | ⟨b, n, c, ws, h3, rfl, -⟩
      · rw [k1] at h; cases h
      · rw [k1] at h3
        cases h3
        exact ⟨c, rfl⟩
    have key : ∀ (b : Option Nat) (W' : World) (r : Value), (∀ y, b = some y → ∃ n, C.ρ 0 = some (some y, n)) → InsW C.w W' b (insL l' (j : Int) [x]) r → ∃ v C', Ending.returned r = Ending.returned v ∧ C'.w = W' ∧ avR C' (slices_Insert_int_int.c.out (l', (j : Int), [x], ())).1 v ∧ After C C' (slices_Insert_int_int.c.inp (l', (j : Int), [x], ())).1 (slices_Insert_int_int.c.out (l', (j : Int), [x], ())).2 := fun b W' r hb hw => by
      obtain ⟨g, c, cur, rfl, q1, q2, q3, q4, q5, q6⟩ := hw.row
      have hT : ∀ y, b = some y → ∃ i m', (hpOf [.arr (.ints l'), .arr (.ints [x])] i).live ∧ C.ρ i = some (some y, m') := fun y hy => by
        obtain ⟨n, hn⟩ := hb y hy
        exact ⟨0, n, trivial, hn⟩
      have hgout : ¬ C.frz g ∧ ¬ C.vis g := by
        rcases q6 with h | h
        · obtain ⟨n, hn⟩ := hb g h
          rcases hI'.own 0 with ⟨-, h'⟩ | ⟨b', -, -, h', h3, h4, -⟩
          · rw [hn] at h'; cases h'
          · rw [hn] at h'; cases h'; exact ⟨h3, h4⟩
        · exact ⟨fun h' => by have := hI'.frz g h'; omega, fun h' => by have := hI'.vis g h'; omega⟩
      refine ⟨_, ⟨W', C.frz, C.vis, upd C.ρ 2 (some (some g, (insL l' (j : Int) [x]).length))⟩, rfl, rfl, ?_, ?_⟩
      · refine (show avR _ (.v (.c (.own 2 1 3))) _ from ?_)
        exact .inr ⟨g, _, c, cur, upd_self C.ρ 2 _, rfl, q1, q3, by rw [q4, Nat.mul_one], q2⟩
      · refine (show After C _ [.arr (.ints l'), .arr (.ints [x])] [.dead, .dead, .arr (.ints (slices_Insert_int_int.S (l', (j : Int), [x], ())))] from ?_)
        rw [hS]
        have hlen := insL_len (m := [x]) hj
        refine ⟨⟨fun i => ?_, fun i i' b' n n' h1 h2 _ _ => ?_, fun b' h => Nat.lt_of_lt_of_le (hI'.frz b' h) hw.size, fun b' h => Nat.lt_of_lt_of_le (hI'.vis b' h) hw.size⟩, ⟨hw.os, hw.tape, hw.output, hw.size, fun k hk hT' => hw.blk k hk fun y hy e => hT' (by subst e; exact hT k hy), fun k cs e hk => ?_, fun k o h3 h4 => ?_, fun _ h => h, fun _ h => .inl h, rfl, fun i p h => ?_⟩, fun i p h => ?_⟩
        · match i with
          | 0 => exact trivial
          | 1 => exact trivial
          | 2 =>
            refine .inr ⟨g, cur, 3, upd_self C.ρ 2 _, hgout.1, hgout.2, q3, ?_, ?_, fun k hk j' y hy => ?_⟩
            · show (insL l' (j : Int) [x]).length * 1 ≤ cur.size
              omega
            · show ((insL l' (j : Int) [x]).length : Int) ≤ big
              unfold big
              omega
            · cases j' with
              | zero =>
                cases hy
                refine ⟨.int .i64 ((insL l' (j : Int) [x]).getD k 0), ?_, rfl⟩
                show cur[k * 1 + 0]? = _
                rw [Nat.mul_one, Nat.add_zero]
                exact q5 k hk
              | succ j' => cases hy
          | i + 3 => exact trivial
        · have a2 : ∀ i, (hpOf [.dead, .dead, .arr (.ints (insL l' (j : Int) [x]))] i).live → i = 2 := fun i h => by
            match i, h with
            | 0, h => exact h.elim
            | 1, h => exact h.elim
            | 2, _ => rfl
            | i + 3, h => exact h.elim
          exact (a2 i h1).trans (a2 i' h2).symm
        · by_cases hbk : b = some k
          · exact hw.shp k cs e hbk hk
          · exact ⟨cs, (hw.blk k (lt_of_block hk) fun y hy e => hbk (by rw [hy, e])).trans hk, rfl⟩
        · rcases Nat.lt_or_ge k C.w.heap.size with hk | hk
          · by_cases hbk : b = some k
            · cases ho : C.w.heap[k]? with
              | none => have := Array.getElem?_eq_none_iff.1 ho; omega
              | some o' =>
                have hu := h3 o' ho
                obtain ⟨n, hn⟩ := hb k hbk
                rcases hI'.own 0 with ⟨-, h'⟩ | ⟨b', cs, e, h', -, -, h5, -⟩
                · rw [hn] at h'; cases h'
                · rw [hn] at h'
                  cases h'
                  obtain ⟨cs', h6, -⟩ := hw.shp k cs e hbk h5
                  have h4 : W'.heap[k]? = some o := h4
                  rw [h6] at h4
                  cases h4
                  rfl
            · exact h3 o ((hw.blk k hk fun y hy e => hbk (by rw [hy, e])).symm.trans h4)
          · exact hw.unf k hk o h4
        · by_cases hi : i = 2
          · subst hi
            rw [hfr 2 (Nat.le_refl _)] at h
            cases h
          · exact (upd_ne hi).trans h
        · by_cases hi : i = 2
          · subst hi
            have h : upd C.ρ 2 _ 2 = some p := h
            rw [upd_self] at h
            cases h
            refine .inr ⟨Nat.le_refl _, Nat.lt_succ_self 2, fun y hy => ?_⟩
            cases hy
            rcases q6 with h | h
            · exact .inl (hT g h)
            · exact .inr h
          · have h : upd C.ρ 2 _ i = some p := h
            rw [upd_ne hi] at h
            exact .inl h
    have hd : ∀ (b : Option Nat) (W' : World) (e : Ending), (∀ y, b = some y → ∃ n, C.ρ 0 = some (some y, n)) → (∃ r, e = .returned r ∧ InsW C.w W' b (insL l' (j : Int) [x]) r) → ∃ v C', e = Ending.returned v ∧ C'.w = W' ∧ avR C' (slices_Insert_int_int.c.out (l', (j : Int), [x], ())).1 v ∧ After C C' (slices_Insert_int_int.c.inp (l', (j : Int), [x], ())).1 (slices_Insert_int_int.c.out (l', (j : Int), [x], ())).2 := fun b W' e hb ⟨r, he, hw⟩ => by
      obtain ⟨v, C', h3, h4⟩ := key b W' r hb hw
      exact ⟨v, C', he.trans h3, h4⟩
    rcases h0 with ⟨hn, rfl⟩ | ⟨b, n, c, cur, hr, rfl, hnc, hh, hsz, hcm⟩
    · have hl0 : l'.length = 0 := by
        rcases hI'.own 0 with ⟨h, -⟩ | ⟨b', -, -, h', -⟩
        · exact h
        · rw [hn] at h'; cases h'
      obtain rfl : l' = [] := List.length_eq_zero_iff.1 hl0
      obtain rfl : j = 0 := by simp at hj; exact hj
      exact (ins_end_grow C.w none [] x 0 vb vc vv ve none (by decide) (Nat.le_refl _) (by decide) (fun _ => rfl) (fun a h => by cases h) k4 hu1).mono fun e W' h => hd none W' e (fun y hy => by cases hy) h
    · have hrow : n = l'.length ∧ ∀ k, k < l'.length → cur[k]? = some (.int .i64 (l'.getD k 0)) := by
        rcases hI'.own 0 with ⟨-, h'⟩ | ⟨b', cs, e, h', -, -, h5, -, -, h6⟩
        · rw [hr] at h'; cases h'
        · rw [hr] at h'
          cases h'
          rw [hh] at h5
          cases h5
          refine ⟨rfl, fun k hk => ?_⟩
          obtain ⟨u, h7, h8⟩ := h6 k hk 0 _ rfl
          cases h8
          have : k * (Arr.ints l').esz + 0 = k := by show k * 1 + 0 = k; omega
          rwa [this] at h7
      obtain ⟨rfl, hcs⟩ := hrow
      have hcur : cur.size = c := by omega
      have hne : vb ≠ b := fun e => by
        have := hI'.inj 1 0 b _ _ trivial trivial (by rw [← e]; exact k1) hr
        cases this
      rcases Nat.lt_or_ge j l'.length with h | h
      · rcases Nat.lt_or_ge c (l'.length + 1) with h' | h'
        · exact (ins_grow C.w l' x j b c vb vc cur vv ve _ none h p0 hnc h' hh hcs k4 hu1).mono fun e W' h => hd none W' e (fun y hy => by cases hy) h
        · exact (ins_shift C.w l' x j b c vb vc cur vv ve h p0 h' hcm hh hcur hcs k4 hu1 hne).mono fun e W' h => hd (some b) W' e (fun y hy => by cases hy; exact ⟨_, hr⟩) h
      · obtain rfl : j = l'.length := by omega
        rcases Nat.lt_or_ge c (l'.length + 1) with h' | h'
        · exact (ins_end_grow C.w _ l' x c vb vc vv ve none p0 hnc h' (fun h => by cases h) (fun a ha => by cases ha; exact ⟨b, cur, _, rfl, hh, hcs⟩) k4 hu1).mono fun e W' h => hd none W' e (fun y hy => by cases hy) h
        · exact (ins_end_room C.w l' x b c vb vc cur vv ve p0 h' hcm hh hcur hcs k4 hu1).mono fun e W' h => hd (some b) W' e (fun y hy => by cases hy; exact ⟨_, hr⟩) h
end
end Hw
end Go.Proofs.YtklmllaggigkfaaGreat
