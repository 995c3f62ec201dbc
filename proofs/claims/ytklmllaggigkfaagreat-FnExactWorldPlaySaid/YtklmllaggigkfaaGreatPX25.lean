/- From what an argument reads as to cells; from a law's contract to its run. -/
import Derived.Test.YtklmllaggigkfaaGreatPX22
import Derived.ChangeArms
import Derived.Below
set_option linter.unusedVariables false
set_option linter.unusedSimpArgs false
namespace Go.Proofs.YtklmllaggigkfaaGreat
namespace Hw
open Go
section
variable {H:Type} {enc:TypeId×Value→H} {P:Program} {w:World} {base:Nat} {spare:Nat→Bool} {held:Bool} {fuel:Nat} {t:TypeId} {cs:List Value} {x:DataW H×List MemPlace}
def inW (w:World):Nat→Prop:=fun b=>b < w.heap.size
def elRel (w:World) (d:Nat) (cells:List Cell) (vs:List Value):Prop:=vs.length = cells.length∧∀(j:Nat) (c:Cell),cells[j]? = some c→∃u,vs[j]? = some u∧elC (arrR w (inW w) d) c u
theorem elRel_one {d:Nat} {c:Cell} {v:Value} (h:elC (arrR w (inW w) d) c v):elRel w d [c] [v]:=⟨rfl,fun j y hj=>by
 cases j with
 | zero=>simp only [List.getElem?_cons_zero,Option.some.injEq] at hj; subst hj; exact ⟨v,rfl,h⟩
 | succ j=>simp at hj⟩
theorem elRel_step {d:Nat} {A B:List Cell} {o n:Nat} (hn:A.length = n) (h1:elRel w d A ((cs.drop o).take n)) (h2:elRel w d B (cs.drop (o + n))):elRel w d (A ++ B) (cs.drop o):=by
 have e:cs.drop o = (cs.drop o).take n ++ cs.drop (o + n):=by
  rw [← List.drop_drop]
  exact (List.take_append_drop n _).symm
 have l1:((cs.drop o).take n).length = n:=h1.1.trans hn
 rw [e]
 refine ⟨by have:=h1.1; have:=h2.1; rw [List.length_append,List.length_append]; omega,fun j c hj=>?_⟩
 rcases Nat.lt_or_ge j A.length with h | h
 ·rw [List.getElem?_append_left h] at hj
  obtain ⟨u,k1,k2⟩:=h1.2 j c hj
  exact ⟨u,by rw [List.getElem?_append_left (by omega)]; exact k1,k2⟩
 ·rw [List.getElem?_append_right h] at hj
  obtain ⟨u,k1,k2⟩:=h2.2 _ c hj
  exact ⟨u,by rw [List.getElem?_append_right (by omega),show ((cs.drop o).take n).length = A.length by omega]; exact k1,k2⟩
theorem elRel_end {d o:Nat} (h:cs.length≤o):elRel w d [] (cs.drop o):=by
 rw [List.drop_eq_nil_of_le h]
 exact ⟨rfl,fun j c hj=>by simp at hj⟩
theorem rd_int {d:Nat} (ht:P.underlying t = some (.int .i64)) (h:DataW.trod enc P w base spare held fuel t cs = some x):∃n,elRel w d [.int n] cs:=by
 obtain ⟨n,rfl,_,_⟩:=DataW.trod_int ht h
 exact ⟨n,elRel_one rfl⟩
def inI (n:Int):Prop:=-9223372036854775808≤n∧n≤9223372036854775807
theorem add_addr (a:Addr) (i j:Nat):(a.add i).add j = a.add (i + j):=by
 unfold Addr.add
 by_cases hj:j = 0
 ·subst hj; simp
 ·by_cases hi:i = 0
  ·subst hi; simp [hj]
  ·simp [hi,hj,Nat.add_assoc]
theorem mapM_get {α β:Type} {f:α→Option β}:∀{l:List α} {ys:List β},l.mapM f = some ys→ys.length = l.length∧∀(j:Nat) (a:α),l[j]? = some a→f a = ys[j]?:=by
 intro l
 induction l with
 | nil=>intro ys h; simp at h; subst h; exact ⟨rfl,fun j a h=>by simp at h⟩
 | cons a l ih =>
  intro ys h
  rw [List.mapM_cons] at h
  cases ha:f a with
  | none=>rw [ha] at h; simp at h
  | some b =>
   rw [ha] at h
   cases hl:l.mapM f with
   | none=>rw [hl] at h; simp at h
   | some bs =>
    rw [hl] at h
    simp at h
    subst h
    obtain ⟨h1,h2⟩:=ih hl
    refine ⟨by simp [h1],fun j y hj=>?_⟩
    cases j with
    | zero=>simp at hj; subst hj; simpa using ha
    | succ j=>simpa using h2 j y (by simpa using hj)
theorem cells_get {a:Addr} {n:Nat} {vs:List Value} (h:w.cells? base a n = some vs):vs.length = n∧∀j u,vs[j]? = some u→w.cell? (a.add j) = some u:=by
 unfold World.cells? at h
 split at h
 ·obtain ⟨h1,h2⟩:=mapM_get h
  rw [List.length_range] at h1
  refine ⟨h1,fun j u hj=>?_⟩
  have hjn:j < n:=by rw [← h1]; exact (List.getElem?_eq_some_iff.1 hj).1
  rw [h2 j j (by simp [hjn]),hj]
 ·cases h
theorem cell_lt {a:Addr} {u:Value} (h:w.cell? a = some u):a.block < w.heap.size:=by
 unfold World.cell? at h
 rcases Nat.lt_or_ge a.block w.heap.size with hb | hb
 ·exact hb
 ·rw [Array.getElem?_eq_none hb] at h
  simp at h
theorem choose_list {β:Type} {z:β} {Q:Nat→β→Prop}:∀{len:Nat},(∀i,i < len→∃b,Q i b)→∃l:List β,l.length = len∧∀i,i < len→Q i (l.getD i z):=by
 intro len
 induction len with
 | zero=>intro _; exact ⟨[],rfl,fun i hi=>by omega⟩
 | succ len ih =>
  intro hex
  obtain ⟨l,h1,h2⟩:=ih fun i hi=>hex i (by omega)
  obtain ⟨b,h4⟩:=hex len (by omega)
  refine ⟨l ++ [b],by simp [h1],fun i hi=>?_⟩
  rcases Nat.lt_or_ge i len with h | h
  ·rw [show (l ++ [b]).getD i z = l.getD i z by simp only [List.getD_eq_getElem?_getD]; rw [List.getElem?_append_left (by omega)]]
   exact h2 i h
  ·have:i = len:=by omega
   subst this
   rw [show (l ++ [b]).getD i z = b by simp only [List.getD_eq_getElem?_getD]; rw [List.getElem?_append_right (by omega),h1]; simp]
   exact h4
theorem rd_slice (K : KD) (el : K.β → El) (z : K.β) (hlen : ∀ l, (K.ar l).len = l.length) (hget : ∀ l k, (K.ar l).get k = el (l.getD k z)) {e : TypeId} (ht : P.underlying t = some (.slice e)) (hesz : ∀ l, (K.ar l).esz = P.cellsOf e) (hpos : 0 < P.cellsOf e) {d : Nat}
    {Q : K.β → Prop} (hel : ∀ fuel cs x, DataW.trod enc P w base spare held fuel e cs = some x → ∃ b, elRel w d ((el b).cells true) cs ∧ Q b)
    (h : DataW.trod enc P w base spare held fuel t cs = some x) : ∃ v l, cs = [v] ∧ arrR w (inW w) (d + 1) (K.ar l) v ∧ ∀ k, k < l.length → Q (l.getD k z) := by
  rcases DataW.trod_slice ht h with ⟨rfl, _⟩ | ⟨a, len, cap, elems, rest, n, _, rfl, _, _, hlc, hcm, hel2, hx, _, _⟩
  · refine ⟨_, [], rfl, ⟨none, 0, ?_⟩, fun k hk => by simp at hk⟩
    have h0 : (K.ar []).len = 0 := by rw [hlen]; rfl
    exact ⟨by rw [h0], by omega, by rw [h0]; decide, fun k hk => by omega⟩
  · have hex : ∀ i, i < len → ∃ b, ∃ vs, w.cells? base (a.add (i * P.cellsOf e)) (P.cellsOf e) = some vs ∧ elRel w d ((el b).cells true) vs ∧ Q b := fun i hi => by
      have h1 := hx i hi
      rw [List.getElem?_eq_getElem (by omega)] at h1
      rw [Option.bind_eq_some_iff] at h1
      obtain ⟨vs, h2, h3⟩ := h1
      obtain ⟨b, hb⟩ := hel _ _ _ h3
      exact ⟨b, vs, h2, hb⟩
    have hl := choose_list (z := z) hex
    obtain ⟨l, h1, h2⟩ := hl
    refine ⟨_, l, rfl, ⟨some a, cap, ?_⟩, fun k hk => by obtain ⟨_, _, _, hq⟩ := h2 k (by omega); exact hq⟩
    have h0 : (K.ar l).len = len := by rw [hlen, h1]
    refine ⟨by rw [h0], by omega, by rw [h0]; have : maxLen = 9223372036854775807 := by decide
                                     unfold big; omega, fun k hk => ?_⟩
    rw [h0] at hk
    obtain ⟨vs, h3, ⟨h4, h5⟩, _⟩ := h2 k hk
    obtain ⟨h6, h7⟩ := cells_get h3
    have hb : a.block < w.heap.size := by
      have : vs[0]? = some vs[0] := List.getElem?_eq_getElem (by omega)
      have := cell_lt (h7 0 _ this)
      rwa [add_block, add_block] at this
    refine ⟨a, rfl, hb, fun j c hj => ?_⟩
    rw [hget] at hj
    obtain ⟨u, h8, h9⟩ := h5 j c hj
    refine ⟨u, ?_, h9⟩
    have := h7 j u h8
    rw [add_addr] at this
    rw [hesz]
    exact this
theorem rd_slice0 (K:KD) (el:K.β→El) (z:K.β) (hlen:∀l,(K.ar l).len = l.length) (hget:∀l k,(K.ar l).get k = el (l.getD k z)) {e:TypeId} (ht:P.underlying t = some (.slice e)) (hesz:∀l,(K.ar l).esz = P.cellsOf e) (hpos:0 < P.cellsOf e) {d:Nat}
  (hel:∀fuel cs x,DataW.trod enc P w base spare held fuel e cs = some x→∃b,elRel w d ((el b).cells true) cs)
  (h:DataW.trod enc P w base spare held fuel t cs = some x):∃v l,cs = [v]∧arrR w (inW w) (d + 1) (K.ar l) v:=by
 obtain ⟨v,l,h1,h2,_⟩:=rd_slice K el z hlen hget ht hesz hpos (Q:=fun _=>True) (fun f c x h=>(hel f c x h).elim fun b hb=>⟨b,hb,trivial⟩) h
 exact ⟨v,l,h1,h2⟩
theorem field_at {β:Type} {fs:Array Field} {g:Field→β} {L:List β} (h:fs.toList.map g = L) {i:Nat} {y:β} (hy:L[i]? = some y):∃f,fs[i]? = some f∧g f = y:=by
 rw [← h,List.getElem?_map] at hy
 cases hf:fs.toList[i]? with
 | none=>rw [hf] at hy; cases hy
 | some f =>
  rw [hf] at hy
  simp at hy
  exact ⟨f,by simpa using hf,hy⟩
theorem rd_struct {fs:Array Field} (ht:P.underlying t = some (.struct fs)) {L:List (TypeId×Nat×Nat)} (hf:fs.toList.map (fun f=>(f.type,f.offset,P.cellsOf f.type)) = L) (h:DataW.trod enc P w base spare held fuel t cs = some x) :
  cs.length = P.cellsOf t∧∀(i:Nat) (a:TypeId) (o n:Nat),L[i]? = some (a,o,n)→∃m y,DataW.trod enc P w base spare held m a ((cs.drop o).take n) = some y:=by
 obtain ⟨xs,n,_,_,h1,h2,h3⟩:=DataW.trod_struct ht h
 refine ⟨h1,fun i a o m hy=>?_⟩
 obtain ⟨f,k1,k2⟩:=field_at hf hy
 have k3:=h3 i f k1
 have hi:i < xs.length:=by rw [h2]; exact (Array.getElem?_eq_some_iff.1 k1).1
 rw [List.getElem?_eq_getElem hi] at k3
 simp only [Prod.mk.injEq] at k2
 obtain ⟨rfl,rfl,rfl⟩:=k2
 exact ⟨_,_,k3⟩
end
section
variable {H:Type} {enc:TypeId×Value→H} {w:World} {base:Nat} {spare:Nat→Bool} {held:Bool} {fuel:Nat} {t:TypeId} {cs:List Value} {x:DataW H×List MemPlace}
def isStr (t:TypeId) (L:List (TypeId×Nat×Nat)):Prop:=∃fs,Tryz.prog.underlying t = some (.struct fs)∧fs.toList.map (fun f=>(f.type,f.offset,Tryz.prog.cellsOf f.type)) = L
noncomputable def strB (t:TypeId) (L:List (TypeId×Nat×Nat)):Bool:=match Tryz.prog.underlying t with
 | some (.struct fs)=>decide (fs.toList.map (fun f=>(f.type,f.offset,Tryz.prog.cellsOf f.type)) = L)
 | _=>false
theorem isStr_of {L:List (TypeId×Nat×Nat)} (h:strB t L = true):isStr t L:=by
 unfold strB at h
 split at h
 ·rename_i fs hu
  exact ⟨fs,hu,of_decide_eq_true h⟩
 ·cases h
theorem pos_of {a n:Nat} (h:0 < n) (e:n = a):0 < a:=e ▸ h
theorem i64U:Tryz.prog.underlying 3 = some (.int .i64):=by kernel_rfl
end
def C0 (w:World):Cx:=⟨w,inW w,inW w,fun _=>none⟩
end Hw
end Go.Proofs.YtklmllaggigkfaaGreat
