/- Regions, part 3: whole. -/
import Derived.Test.YtklmllaggigkfaaGreatPX15
import Derived.LoopN
set_option linter.unusedVariables false
set_option linter.unusedSimpArgs false
namespace Go.Proofs.YtklmllaggigkfaaGreat
namespace Hw
open Go
structure St' (Cb:Cx) (Hb:Hp) (nb sz:Nat) (df:List Deferred) (fr:Fr) (H:Hp) (n:Nat) (C:Cx) (a:Act):Prop where
 frm:FrR C fr a.tmps
 inv:Inv C H
 rho:∀j,n≤j→C.ρ j = none
 hist:Hist Cb Hb nb C H
 size:a.tmps.size = sz
 df:a.defers = df
 nb:nb≤n
def cnt:Nat→(Nat→Bool)→Nat
 | 0,_=>0
 | k + 1,S=>cnt k S + if S k = true then 1 else 0
theorem cnt_le:∀(k:Nat) (S:Nat→Bool),cnt k S≤k
 | 0,_=>Nat.le_refl _
 | k + 1,S=>by
  have:=cnt_le k S
  unfold cnt
  split <;> omega
theorem cnt_full:∀(k:Nat) (S:Nat→Bool),k≤cnt k S→∀j,j < k→S j = true
 | 0,_,_,j,hj=>by omega
 | k + 1,S,h,j,hj=>by
  have h1:=cnt_le k S
  unfold cnt at h
  by_cases hs:S k = true
  ·rw [if_pos hs] at h
   by_cases hjk:j = k
   ·subst hjk; exact hs
   ·exact cnt_full k S (by omega) j (by omega)
  ·rw [if_neg hs] at h; omega
theorem cnt_flip {S:Nat→Bool} {i:Nat} (hi:S i = false):∀k,(k≤i→cnt k (flip S i) = cnt k S)∧(i < k→cnt k (flip S i) = cnt k S + 1)
 | 0=>⟨fun _=>rfl,fun h=>by omega⟩
 | k + 1=>by
  obtain ⟨h1,h2⟩:=cnt_flip hi k
  refine ⟨fun h=>?_,fun h=>?_⟩
  ·unfold cnt
   rw [h1 (by omega)]
   have:flip S i k = S k:=by simp only [flip]; rw [if_neg (by omega)]
   rw [this]
  ·unfold cnt
   by_cases hk:k = i
   ·subst hk
    rw [h1 (Nat.le_refl _)]
    have:flip S k k = true:=by simp [flip]
    rw [if_pos this,if_neg (by rw [hi]; simp)]
   ·rw [h2 (by omega)]
    have:flip S i k = S k:=by simp only [flip]; rw [if_neg hk]
    rw [this]
    omega
theorem getL_app {α:Type} {d:α}:∀(l m:List α) (i:Nat),i < l.length→getL d (l ++ m) i = getL d l i:=by
 intro l
 induction l with
 | nil=>intro m i h; cases h
 | cons x l ih=>intro m i h; cases i with
  | zero=>rfl
  | succ i=>exact ih m i (by simpa using h)
theorem getL_at {α:Type} {d:α}:∀(l m:List α) (x:α),getL d (l ++ x :: m) l.length = x:=by
 intro l
 induction l with
 | nil=>intro m x; rfl
 | cons y l ih=>intro m x; exact ih m x
theorem has_bit (m j:Nat):has m j = m.testBit j:=by
 unfold has Nat.testBit
 have h1:Nat.shiftRight m j = m >>> j:=rfl
 have h2:Nat.land (m >>> j) 1 = (m >>> j) % 2:=Nat.and_one_is_mod (m >>> j)
 have h3:1 &&& (m >>> j) = (m >>> j) % 2:=Nat.one_and_eq_mod_two (m >>> j)
 rw [h1,h2,h3]
 rcases Nat.mod_two_eq_zero_or_one (m >>> j) with h | h <;> rw [h] <;> rfl
theorem has_lor {a b j:Nat}:has (Nat.lor a b) j = (has a j || has b j):=by
 rw [has_bit,has_bit,has_bit]
 exact Nat.testBit_or a b j
theorem has_one {k j:Nat} (h:has (Nat.shiftLeft 1 k) j = true):j = k:=by
 rw [has_bit] at h
 have h1:Nat.shiftLeft 1 k = 2 ^ k:=Nat.one_shiftLeft k
 rw [h1,Nat.testBit_two_pow] at h
 exact (of_decide_eq_true h).symm
theorem has_zero (j:Nat):has 0 j = false:=by
 rw [has_bit]
 exact Nat.zero_testBit j
theorem ancRow_mem {acc:List Nat} {o:Oper} {j:Nat} (h:has (ancRow acc o) j = true):∃e∈o.after.toList,Region.binds .any e = true∧(j = e.on∨has (getL 0 acc e.on) j = true):=by
 unfold ancRow at h
 revert h
 induction o.after.toList with
 | nil=>intro h; rw [show List.foldr _ 0 [] = 0 from rfl,has_zero] at h; cases h
 | cons e r ih =>
  intro h
  rw [List.foldr_cons] at h
  cases hb:Region.binds .any e with
  | false =>
   rw [hb,cond_false] at h
   obtain ⟨e',h1,h2⟩:=ih h
   exact ⟨e',List.mem_cons_of_mem _ h1,h2⟩
  | true =>
   rw [hb,cond_true,has_lor,has_lor,Bool.or_eq_true,Bool.or_eq_true] at h
   rcases h with (h | h) | h
   ·exact ⟨e,List.mem_cons_self,hb,.inl (has_one h)⟩
   ·exact ⟨e,List.mem_cons_self,hb,.inr h⟩
   ·obtain ⟨e',h1,h2⟩:=ih h
    exact ⟨e',List.mem_cons_of_mem _ h1,h2⟩
theorem ancs_ext:∀(l:List Oper) (acc:List Nat),∃m,ancs l acc = acc ++ m
 | [],acc=>⟨[],by simp [ancs]⟩
 | o :: l,acc=>by
  obtain ⟨m,h⟩:=ancs_ext l (acc ++ [ancRow acc o])
  refine ⟨ancRow acc o :: m,?_⟩
  show ancs l (acc ++ [ancRow acc o]) = _
  rw [h,List.append_assoc]
  rfl
theorem ancs_get:∀(l:List Oper) (acc:List Nat) (i:Nat) (o:Oper),l[i]? = some o→∃acc',(∃m,ancs l acc = acc' ++ ancRow acc' o :: m)∧acc'.length = acc.length + i:=by
 intro l
 induction l with
 | nil=>intro acc i o h; simp at h
 | cons x l ih =>
  intro acc i o h
  cases i with
  | zero =>
   simp only [List.getElem?_cons_zero,Option.some.injEq] at h
   subst h
   obtain ⟨m,hm⟩:=ancs_ext l (acc ++ [ancRow acc x])
   refine ⟨acc,⟨m,?_⟩,rfl⟩
   show ancs l (acc ++ [ancRow acc x]) = _
   rw [hm,List.append_assoc]
   rfl
  | succ i =>
   obtain ⟨acc',h1,h2⟩:=ih (acc ++ [ancRow acc x]) i o (by simpa using h)
   exact ⟨acc',h1,by rw [h2,List.length_append]; simp; omega⟩
theorem anc_mem {ops:List Oper} {i:Nat} {o:Oper} (h:ops[i]? = some o) (hb:∀e∈o.after.toList,Region.binds .any e = true→e.on < i) {j:Nat} (hj:has (getL 0 (ancs ops []) i) j = true) :
  ∃e∈o.after.toList,Region.binds .any e = true∧(j = e.on∨has (getL 0 (ancs ops []) e.on) j = true):=by
 obtain ⟨acc',⟨m,hm⟩,hl⟩:=ancs_get ops [] i o h
 simp only [List.length_nil,Nat.zero_add] at hl
 rw [hm] at hj ⊢
 rw [← hl,getL_at] at hj
 obtain ⟨e,he,hbe,hj⟩:=ancRow_mem hj
 refine ⟨e,he,hbe,hj.imp_right fun h=>?_⟩
 rw [getL_app _ _ _ (by rw [hl]; exact hb e he hbe)]
 exact h
theorem edges_of:∀(l:List Oper) (k:Nat),edgesOk l k = true→∀i o,l[i]? = some o→∀e∈o.after.toList,Region.binds .any e = true→e.on < k + i:=by
 intro l
 induction l with
 | nil=>intro k _ i o h; simp at h
 | cons x l ih =>
  intro k h i o ho e he hb
  simp only [edgesOk,Bool.and_eq_true] at h
  cases i with
  | zero =>
   simp only [List.getElem?_cons_zero,Option.some.injEq] at ho
   subst ho
   have:=List.all_eq_true.1 h.1 e he
   rw [hb] at this
   simp only [Bool.not_true,Bool.false_or] at this
   exact Nat.le_of_ble_eq_true this
  | succ i =>
   have:=ih (k + 1) h.2 i o (by simpa using ho) e he hb
   omega
theorem clash_of {anc:List Nat}:∀(l:List Item) (k:Nat) (before:List (Nat×Item)),clashOk anc l k before = true →
  (∀q x,l[q]? = some x→∀e∈before,e.2.clash x = false∨has (getL 0 anc (k + q)) e.1 = true)∧∀p q y x,p < q→l[p]? = some y→l[q]? = some x→y.clash x = false∨has (getL 0 anc (k + q)) (k + p) = true:=by
 intro l
 induction l with
 | nil=>intro k b _; exact ⟨fun q x h=>by simp at h,fun p q y x _ h=>by simp at h⟩
 | cons z l ih =>
  intro k b h
  simp only [clashOk,Bool.and_eq_true] at h
  obtain ⟨h1,h2⟩:=ih (k + 1) _ h.2
  refine ⟨fun q x hx e he=>?_,fun p q y x hpq hy hx=>?_⟩
  ·cases q with
   | zero =>
    simp only [List.getElem?_cons_zero,Option.some.injEq] at hx
    subst hx
    have:=List.all_eq_true.1 h.1 e he
    rw [Bool.or_eq_true] at this
    rcases this with h | h
    ·exact .inl (by simpa using h)
    ·exact .inr h
   | succ q =>
    have:=h1 q x (by simpa using hx) e (List.mem_cons_of_mem _ he)
    rwa [show k + 1 + q = k + (q + 1) by omega] at this
  ·cases q with
   | zero=>omega
   | succ q =>
    cases p with
    | zero =>
     simp only [List.getElem?_cons_zero,Option.some.injEq] at hy
     subst hy
     have:=h1 q x (by simpa using hx) (k,z) List.mem_cons_self
     rwa [show k + 1 + q = k + (q + 1) by omega] at this
    | succ p =>
     have:=h2 p q y x (by omega) (by simpa using hy) (by simpa using hx)
     rwa [show k + 1 + q = k + (q + 1) by omega,show k + 1 + p = k + (p + 1) by omega] at this
section
variable {P:Program} {E:Env} {ops:Array Oper} {its:List Item} {fr0:Fr} {H0:Hp} {n0:Nat} {Cb:Cx} {Hb:Hp} {nb sz:Nat} {df:List Deferred} {Q:Exit→Act→World→Prop}
theorem RS_all {S:Nat→Bool} {C:Cx} {a:Act} (h:RS its fr0 H0 n0 Cb Hb nb sz df S C a) (hS:∀j,j < its.length→S j = true):RS its fr0 H0 n0 Cb Hb nb sz df (fun _=>true) C a:=by
 have e1:runF its S 0 fr0 = runF its (fun _=>true) 0 fr0:=funext fun t=>runF_cong its 0 _ _ (fun q x hx hn=>absurd (hS _ (by have:=(List.getElem?_eq_some_iff.1 hx).1; omega)) hn) rfl
 have e2:runH its S 0 H0 = runH its (fun _=>true) 0 H0:=funext fun t=>runH_cong its 0 _ _ (fun q x hx hn=>absurd (hS _ (by have:=(List.getElem?_eq_some_iff.1 hx).1; omega)) hn) rfl
 refine ⟨by rw [← e1]; exact h.frm,by rw [← e2]; exact h.inv,fun j p hp=>?_,by rw [← e2]; exact h.hist,h.size,h.df⟩
 rcases h.rho j p hp with h1 | ⟨k,x,h1,h2⟩
 ·exact .inl h1
 ·exact .inr ⟨k,x,rfl,h2⟩
theorem list_ok (hE:TyOK P E) (hG:∀c∈E.G,Good P c) (hF:∀i x,its[i]? = some x→Fact E ops.toList its [] fr0 H0 n0 ops.toList i x) (hlen:its.length = ops.toList.length) (hc:∀(i:Nat) (x:Item),its[i]? = some x→∀q,x.c = some q→q) (h0:∀t,(fr0 t).g = []) (hnb:nb≤n0)
  (hsz:∀o∈ops.toList,∀d,o.dst = some d→d < sz) (hQ:∀C' a',RS its fr0 H0 n0 Cb Hb nb sz df (fun _=>true) C' a'→Q .normal a' C'.w) :
  ∀(m k:Nat),k + m = its.length→∀(C:Cx) (a:Act),RS its fr0 H0 n0 Cb Hb nb sz df (below k) C a→wpList P ops Q (ops.toList.drop k) a C.w:=by
 intro m
 induction m with
 | zero =>
  intro k hk C a hS
  rw [List.drop_eq_nil_of_le (by omega)]
  exact hQ C a (RS_all hS fun j hj=>below_iff.2 (by omega))
 | succ m ih =>
  intro k hk C a hS
  have hkl:k < its.length:=by omega
  have hx:=List.getElem?_eq_getElem hkl
  have f:=hF k _ hx
  have hd:ops.toList.drop k = its[k].o :: ops.toList.drop (k + 1):=by
   have h1:=f.op
   have hk2:k < ops.toList.length:=by omega
   rw [List.getElem?_eq_getElem hk2,Option.some.injEq] at h1
   rw [List.drop_eq_getElem_cons hk2,h1]
  rw [hd]
  refine wpList_step fun K hK=>?_
  have hno:∀q,¬ (q < k)→below k q = false:=fun q h=>by cases hb:below k q with | true=>exact absurd (below_iff.1 hb) h | false=>rfl
  refine step_ok hE hG hF hc h0 hnb hsz hS hx (hno k (Nat.lt_irrefl _)) (fun q y hy hq hs=>by have:=below_iff.1 hs; omega) (fun q y hy hq hs=>by rw [below_iff.2 hq] at hs; cases hs) fun C' a' hR=>hK _ _ ?_
  refine ih (k + 1) (by omega) C' a' ?_
  have:flip (below k) k = below (k + 1):=by
   funext j
   simp only [flip]
   split
   ·rename_i h; subst h; exact (below_iff.2 (Nat.lt_succ_self _)).symm
   ·rename_i h
    cases hb:below k j with
    | true=>exact (below_iff.2 (by have:=below_iff.1 hb; omega)).symm
    | false =>
     cases hb':below (k + 1) j with
     | false=>rfl
     | true =>
      have h1:=below_iff.1 hb'
      rw [below_iff.2 (by omega:j < k)] at hb
      cases hb
  rw [← this]
  exact hR
theorem any_ok (hE : TyOK P E) (hG : ∀ c ∈ E.G, Good P c) (hF : ∀ i x, its[i]? = some x → Fact E ops.toList its [] fr0 H0 n0 ops.toList i x) (hlen : its.length = ops.toList.length) (hc : ∀ (i : Nat) (x : Item), its[i]? = some x → ∀ q, x.c = some q → q) (h0 : ∀ t, (fr0 t).g = []) (hnb : nb ≤ n0)
    (hsz : ∀ o ∈ ops.toList, ∀ d, o.dst = some d → d < sz) (hop : openOk ops.toList its = true) (hQ : ∀ C' a', RS its fr0 H0 n0 Cb Hb nb sz df (fun _ => true) C' a' → Q .normal a' C'.w) :
    ∀ (fuel : Nat) (listed : Array Bool), listed.size = ops.size → (∀ i, listed.getD i false = true → ∀ j, has (getL 0 (ancs ops.toList []) i) j = true → listed.getD j false = true) → ops.size ≤ cnt ops.size (fun j => listed.getD j false) + fuel →
      ∀ (C : Cx) (a : Act), RS its fr0 H0 n0 Cb Hb nb sz df (fun j => listed.getD j false) C a → wpAny P .any ops Q fuel listed a C.w := by
  have hl' : its.length = ops.size := by rw [hlen, Array.length_toList]
  unfold openOk at hop
  rw [Bool.and_eq_true] at hop
  have hedge : ∀ i o, ops[i]? = some o → ∀ e ∈ o.after.toList, Region.binds .any e = true → e.on < i := fun i o ho e he hb => by
    have := edges_of ops.toList 0 hop.1 i o (by simpa using ho) e he hb
    omega
  have hclash := (clash_of its 0 [] hop.2).2
  have hgd : ∀ (listed : Array Bool), listed.size = ops.size → ∀ j, j < ops.size → listed.getD j true = listed.getD j false := fun listed hs j hj => by
    simp [Array.getD_eq_getD_getElem?, Array.getElem?_eq_getElem (show j < listed.size by omega)]
  intro fuel
  induction fuel with
  | zero =>
    intro listed hs hdc hf C a hS
    have hall := cnt_full _ _ (by omega : ops.size ≤ cnt ops.size (fun j => listed.getD j false))
    refine ⟨?_, hQ C a (RS_all hS fun j hj => hall j (by omega))⟩
    unfold Region.ready
    rw [List.filter_eq_nil_iff]
    intro j hj
    have hj : j < ops.size := by simpa using hj
    rw [hgd listed hs j hj, hall j hj]
    simp
  | succ fuel ih =>
    intro listed hs hdc hf C a hS
    refine ⟨fun hr => hQ C a (RS_all hS fun j hj => ?_), fun i hi => ?_⟩
    · have key : ∀ j, j < ops.size → listed.getD j false = true := by
        intro j
        induction j using Nat.strongRecOn with
        | ind j ihj =>
          intro hj
          cases hjl : listed.getD j false with
          | true => rfl
          | false =>
            exfalso
            have ho : ops[j]? = some ops[j] := Array.getElem?_eq_getElem hj
            have : j ∈ Region.ready .any ops listed := by
              unfold Region.ready
              rw [List.mem_filter]
              refine ⟨by simpa using hj, ?_⟩
              rw [hgd listed hs j hj, hjl, ho]
              simp only [Bool.not_false, Option.map_some, Option.getD_some, Bool.true_and]
              rw [Array.all_eq_true']
              intro e he
              cases hb : Region.binds .any e with
              | false => rfl
              | true =>
                have hlt := hedge j _ ho e (by simpa using he) hb
                simp only [Bool.not_true, Bool.false_or]
                exact ihj e.on hlt (by omega)
            rw [hr] at this
            cases this
      exact key j (by omega)
    · unfold Region.ready at hi
      rw [List.mem_filter] at hi
      obtain ⟨hi1, hi2⟩ := hi
      have hi1 : i < ops.size := by simpa using hi1
      have hx := List.getElem?_eq_getElem (show i < its.length by omega)
      have f := hF i _ hx
      have ho : ops[i]? = some its[i].o := by simpa using f.op
      rw [hgd listed hs i hi1, ho] at hi2
      simp only [Option.map_some, Option.getD_some, Bool.and_eq_true, Bool.not_eq_true'] at hi2
      obtain ⟨hSi, haft⟩ := hi2
      have haft' : ∀ e ∈ its[i].o.after.toList, Region.binds .any e = true → listed.getD e.on false = true := by
        intro e he hb
        rw [Array.all_eq_true'] at haft
        have := haft e (by simpa using he)
        rw [hb] at this
        simpa using this
      have hanc : ∀ j, has (getL 0 (ancs ops.toList []) i) j = true → listed.getD j false = true := by
        intro j hj
        obtain ⟨e, he, hb, h⟩ := anc_mem f.op (hedge i _ ho) hj
        have h1 := haft' e he hb
        rcases h with rfl | h
        · exact h1
        · exact hdc _ h1 _ h
      have hst := step_ok (K := wpAny P .any ops Q fuel (listed.setIfInBounds i true)) (Q := Q) hE hG hF hc h0 hnb hsz hS hx hSi (fun k y hy hik hsk => by
          rcases hclash i k _ y hik hx hy with h | h
          · exact h
          · rw [Nat.zero_add, Nat.zero_add] at h
            have := hdc k hsk i h
            rw [hSi] at this; cases this) (fun k y hy hki hsk => by
          rcases hclash k i y _ hki hy hx with h | h
          · exact h
          · rw [Nat.zero_add, Nat.zero_add] at h
            have := hanc k h
            have hsk : listed.getD k false = false := hsk
            rw [hsk] at this; cases this) fun C' a' hR => by
        have e : (fun j => (listed.setIfInBounds i true).getD j false) = flip (fun j => listed.getD j false) i := by
          funext j
          simp only [flip, Array.getD_eq_getD_getElem?, Array.getElem?_setIfInBounds]
          by_cases hj : j = i
          · subst hj; simp [hs, hi1]
          · rw [if_neg (fun h => hj h.symm), if_neg hj]
        have e' : ∀ j, (listed.setIfInBounds i true).getD j false = flip (fun j => listed.getD j false) i j := fun j => congrFun e j
        refine ih (listed.setIfInBounds i true) (by simp [hs]) (fun k hk j hj => ?_) ?_ C' a' (by rw [e]; exact hR)
        · rw [e'] at hk ⊢
          simp only [flip] at hk ⊢
          split
          · rfl
          · by_cases hki : k = i
            · subst hki; exact hanc j hj
            · rw [if_neg hki] at hk; exact hdc k hk j hj
        · rw [e, (cnt_flip hSi ops.size).2 hi1]; omega
      unfold wpOp
      rw [ho]
      simp only
      split
      · rename_i hw; rw [if_pos hw] at hst; exact .inl hst
      · rename_i hw; rw [if_neg hw] at hst; exact hst
theorem FrR_flush {C:Cx} {fr:Fr} {tmps:Array Value} (h:FrR C fr tmps):FrR C (flush fr) tmps∧∀t,(flush fr t).g = []:=by
 have key:∀t,(flush fr t = fr t∧(fr t).g = [])∨flush fr t = topS:=by
  intro t
  unfold flush
  cases hg:(fr t).g.isEmpty with
  | true=>exact .inl ⟨rfl,List.isEmpty_iff.1 hg⟩
  | false=>exact .inr rfl
 refine ⟨⟨fun t ht=>?_,fun t ht=>?_⟩,fun t=>?_⟩
 ·rcases key t with ⟨h1,h2⟩ | h1
  ·rw [h1] at ht ⊢; exact h.slot t ht
  ·rw [h1]; exact .inl rfl
 ·rcases key t with ⟨h1,h2⟩ | h1
  ·rw [h1] at ht; exact h.off t ht
  ·rw [h1] at ht; exact absurd (fun e he=>by cases he) ht
 ·rcases key t with ⟨h1,h2⟩ | h1
  ·rw [h1]; exact h2
  ·rw [h1]; rfl
theorem region_ok (hm:P.follows .mixedOrders = true) (hE:TyOK P E) (hG:∀c∈E.G,Good P c) {id:Nat} {draw:Bool} {fr:Fr} {H:Hp} {n:Nat} {K:Fr→Hp→Nat→Prop} {C:Cx} {a:Act} (hsz:∀o∈ops.toList,∀d,o.dst = some d→d < sz)
  (hS:St' Cb Hb nb sz df fr H n C a) (hr:evReg E ops.toList draw (flush fr) H n K) (hQ:∀fr' H' n' C' a',K fr' H' n'→St' Cb Hb nb sz df fr' H' n' C' a'→Q .normal a' C'.w):(Code.region id ops draw).wp P Q a C.w:=by
 obtain ⟨g1,g2⟩:=FrR_flush hS.frm
 unfold evReg at hr
 cases ht:tr E ops.toList ops.toList [] (flush fr) H n with
 | none=>rw [ht] at hr; exact hr.elim
 | some y =>
  obtain ⟨its,fr',H',n'⟩:=y
  rw [ht] at hr
  simp only at hr
  obtain ⟨t1,t2,t3,t4,t5⟩:=tr_fact _ _ _ _ _ _ _ _ _ ht
  generalize hb:(!draw || openOk ops.toList its) = b at hr
  cases b with
  | false=>exact hr.elim
  | true =>
  simp only [cond_true] at hr
  obtain ⟨c1,c2⟩:=allC_of hr
  have hfin:∀C' a',RS its (flush fr) H n Cb Hb nb sz df (fun _=>true) C' a'→Q .normal a' C'.w:=fun C' a' hR=>by
   refine hQ fr' H' n' C' a' c2 ⟨by rw [t3]; exact hR.frm,by rw [t4]; exact hR.inv,fun j hj=>?_,by rw [t4]; exact hR.hist,hR.size,hR.df,?_⟩
   ·cases hp:C'.ρ j with
    | none=>rfl
    | some p =>
     have h0:=lo_mono t2 0 its.length (Nat.zero_le _) (Nat.le_refl _)
     rw [t5] at hj
     rcases hR.rho j p hp with h | ⟨k,x,h1,h2,h3,h4⟩
     ·have:lo its n 0 = n:=rfl
      omega
     ·have hk:=(List.getElem?_eq_some_iff.1 h2).1
      have h5:=lo_mono t2 (k + 1) its.length (by omega) (Nat.le_refl _)
      have h6:lo its n (k + 1) = x.r.nid:=by simp only [lo,h2]
      omega
   ·have h0:=lo_mono t2 0 its.length (Nat.zero_le _) (Nat.le_refl _)
    have:lo its n 0 = n:=rfl
    have:=hS.nb
    rw [t5]; omega
  cases draw with
  | false =>
   have hR:RS its (flush fr) H n Cb Hb nb sz df (below 0) C a:=⟨by rw [below_zero_F]; exact g1,by rw [below_zero_H]; exact hS.inv,(fun j p hp=>by
    rcases Nat.lt_or_ge j n with h | h
    ·exact .inl h
    ·rw [hS.rho j h] at hp; cases hp),by rw [below_zero_H]; exact hS.hist,hS.size,hS.df⟩
   have:=list_ok (Q:=Q) hE hG t2 t1 c1 g2 hS.nb hsz hfin its.length 0 (by omega) C a hR
   exact wp_region_list (by simpa using this)
  | true =>
   have hop:openOk ops.toList its = true:=by simpa using hb
   refine wp_region_any hm ?_
   have hz:(fun j=>(Array.replicate ops.size false).getD j false) = fun _=>false:=by
    funext j
    rw [Array.getD_eq_getD_getElem?,Array.getElem?_replicate]
    split <;> rfl
   have hz':∀j,(Array.replicate ops.size false).getD j false = false:=fun j=>congrFun hz j
   refine any_ok (Q:=Q) (C:=C.draw) hE hG t2 t1 c1 g2 hS.nb hsz hop hfin ops.size (Array.replicate ops.size false) (by simp) (fun i hi=>by rw [hz'] at hi; cases hi) (by omega) a ?_
   rw [hz]
   refine ⟨?_,by rw [runH_none]; exact draw_inv hS.inv,fun j p hp=>?_,?_,hS.size,hS.df⟩
   ·rw [runF_none]
    exact ⟨fun t ht=>(g1.slot t ht).imp_right fun ⟨v,h1,h2⟩=>⟨v,h1,avR_ext (draw_ext (fun _=>False)) (off_none hS.inv) h2⟩,g1.off⟩
   ·rcases Nat.lt_or_ge j n with h | h
    ·exact .inl h
    ·have hp:C.ρ j = some p:=hp
     rw [hS.rho j h] at hp; cases hp
   ·rw [runH_none]
    have h:=hS.hist
    exact ⟨⟨h.ext.os,h.ext.tape,h.ext.output,h.ext.size,h.ext.blk,h.ext.shp,h.ext.unf,h.ext.frz,h.ext.new,h.ext.vis,h.ext.rho⟩,h.new,h.liv⟩
end
end Hw
end Go.Proofs.YtklmllaggigkfaaGreat
/- The code of a function. -/
set_option linter.unusedVariables false
set_option linter.unusedSimpArgs false
namespace Go.Proofs.YtklmllaggigkfaaGreat
namespace Hw
open Go
structure AfterL (pn:Nat) (C C':Cx) (bs bs':List Blk):Prop where
 inv:Inv C' (hpOf bs')
 ext:Ext (fun b=>∃i m,(hpOf bs i).live∧C.ρ i = some (some b,m)) ⟨C.w,C.frz,C.vis,fun _=>none⟩ C'
 new:∀i p,C'.ρ i = some p→i < bs'.length∧∀b,p.1 = some b→(∃j m,(hpOf bs j).live∧C.ρ j = some (some b,m))∨C.w.heap.size≤b
 pin:∀i,i < pn→∀q,C.ρ i = some q→C'.ρ i = some q
theorem nth_take {l:List Nat} {k n:Nat} (h:k < n):nth k (l.take n) = nth k l:=by
 induction l generalizing k n with
 | nil=>rw [List.take_nil]
 | cons x l ih =>
  cases n with
  | zero=>omega
  | succ n =>
   cases k with
   | zero=>rfl
   | succ k=>exact ih (by omega)
theorem mem_deadOf {ids:List Nat} {i:Nat}:i∈(deadOf ids).map (·.1)↔i∈ids:=by
 unfold deadOf
 rw [List.map_map]
 simp [Function.comp_def]
theorem backL_ok {pn:Nat} {C C':Cx} {H:Hp} {n:Nat} {ids:List Nat} {bs':List Blk} (hI:Inv C H) (hfr:∀i,n≤i→C.ρ i = none) (hnd0:ids.Nodup) (hids:∀i∈ids,i < n) (hlv:∀i∈ids,(H i).live) (hpn:pn≤ids.length) (hpb:pn≤bs'.length) (hA:AfterL pn (C.enter ids C.vis) C' (handed H ids) bs') :
  (∀k p,C'.ρ k = some p→(C.back C' n (ids.take pn)).ρ (sg n (ids.take pn) k) = some p)∧Inv (C.back C' n (ids.take pn)) (wr H (deadOf ids ++ wsFrom n (ids.take pn) 0 bs')) ∧
   Ext (fun b=>∃i m,i∈(deadOf ids ++ wsFrom n (ids.take pn) 0 bs').map (·.1)∧(H i).live∧C.ρ i = some (some b,m)) C (C.back C' n (ids.take pn)) ∧
   (∀i p,(C.back C' n (ids.take pn)).ρ i = some p→C.ρ i = some p∨(n≤i∧i < n + (bs'.length - pn)∧∀b,p.1 = some b→(∃j m,j∈(deadOf ids ++ wsFrom n (ids.take pn) 0 bs').map (·.1)∧(H j).live∧C.ρ j = some (some b,m))∨C.w.heap.size≤b)) ∧
   wsOk H n (n + (bs'.length - pn)) (deadOf ids ++ wsFrom n (ids.take pn) 0 bs') = true:=by
 have hpl:(ids.take pn).length = pn:=by rw [List.length_take]; omega
 have hlt:∀k,k < pn→sg n (ids.take pn) k = nth k ids:=fun k hk=>by rw [sg_lt (by omega),nth_take hk]
 have hge:∀k,pn≤k→sg n (ids.take pn) k = n + (k - pn):=fun k hk=>by rw [sg_ge (by omega),hpl]
 have hT:∀b,(∃i m,(hpOf (handed H ids) i).live∧(C.enter ids C.vis).ρ i = some (some b,m))→∃i m,i∈ids∧(H i).live∧C.ρ i = some (some b,m):=by
  rintro b ⟨k,m,h1,h2⟩
  have hk:k < ids.length:=by
   rcases Nat.lt_or_ge k ids.length with h | h
   ·exact h
   ·rw [hpOf_ge (by simpa [handed] using h)] at h1; exact h1.elim
  rw [hpOf_handed hk,ren_live] at h1
  simp only [Cx.enter,if_pos hk] at h2
  exact ⟨_,m,nth_mem hk,h1,h2⟩
 have hmem:∀i,i∈ids→i∈(deadOf ids ++ wsFrom n (ids.take pn) 0 bs').map (·.1):=fun i hi=>by
  rw [List.map_append,List.mem_append]; exact .inl (mem_deadOf.2 hi)
 have hT':∀b,(∃i m,(hpOf (handed H ids) i).live∧(C.enter ids C.vis).ρ i = some (some b,m))→∃i m,i∈(deadOf ids ++ wsFrom n (ids.take pn) 0 bs').map (·.1)∧(H i).live∧C.ρ i = some (some b,m):=fun b h=>by
  obtain ⟨i,m,h1,h2⟩:=hT b h
  exact ⟨i,m,hmem i h1,h2⟩
 have hA1:∀k p,C'.ρ k = some p→(C.back C' n (ids.take pn)).ρ (sg n (ids.take pn) k) = some p:=by
  intro k p hp
  rcases Nat.lt_or_ge k pn with hk | hk
  ·rw [hlt k hk]
   have hm:nth k ids∈ids:=nth_mem (by omega)
   obtain ⟨q,hq⟩:=live_rho hI (hlv _ hm)
   have h1:=hA.pin k hk q (by simp only [Cx.enter]; rw [if_pos (by omega)]; exact hq)
   rw [hp] at h1
   simp only [Cx.back,hq]
   exact h1.symm
  ·rw [hge k hk]
   simp only [Cx.back,hfr (n + (k - pn)) (by omega)]
   rw [if_pos (by omega),hpl,show pn + (n + (k - pn) - n) = k by omega]
   exact hp
 have hx:Ext (fun b=>∃i m,i∈(deadOf ids ++ wsFrom n (ids.take pn) 0 bs').map (·.1)∧(H i).live∧C.ρ i = some (some b,m)) C (C.back C' n (ids.take pn)):=by
  have e:=hA.ext
  exact ⟨e.os,e.tape,e.output,e.size,fun b hb hn=>e.blk b hb (fun h=>hn (hT' b h)),e.shp,e.unf,e.frz,fun b hb=>(e.new b hb).imp_right (Or.imp_left (hT' b)),rfl,fun i p hp=>by simp only [Cx.back,hp]⟩
 have hnew:∀i p,(C.back C' n (ids.take pn)).ρ i = some p→C.ρ i = some p∨(n≤i∧i < n + (bs'.length - pn)∧∀b,p.1 = some b→(∃j m,j∈(deadOf ids ++ wsFrom n (ids.take pn) 0 bs').map (·.1)∧(H j).live∧C.ρ j = some (some b,m))∨C.w.heap.size≤b):=by
  intro i p hp
  cases hc:C.ρ i with
  | some q=>simp only [Cx.back,hc] at hp; exact .inl hp
  | none =>
   simp only [Cx.back,hc] at hp
   by_cases hi:n≤i
   ·rw [if_pos hi,hpl] at hp
    obtain ⟨h1,h2⟩:=hA.new _ _ hp
    exact .inr ⟨hi,by omega,fun b hb=>(h2 b hb).imp_left (hT' _)⟩
   ·rw [if_neg hi] at hp; cases hp
 have hnd:(ids.take pn).Nodup:=List.Nodup.sublist (List.take_sublist _ _) hnd0
 have hni:∀i∈ids.take pn,i < n:=fun i hi=>hids i (List.mem_of_mem_take hi)
 have hget:∀k,k < bs'.length→wr H (deadOf ids ++ wsFrom n (ids.take pn) 0 bs') (sg n (ids.take pn) k) = (hpOf bs' k).ren (sg n (ids.take pn)):=fun k hk=>by
  have:=ws_get hnd hni bs' 0 (wr H (deadOf ids)) k hk
  rw [Nat.zero_add] at this
  rw [wr_append]; exact this
 have hoffw:∀j,(∀k,k < bs'.length→j≠sg n (ids.take pn) k)→j ∉ (wsFrom n (ids.take pn) 0 bs').map (·.1):=fun j h hm=>by
  obtain ⟨k,h1,h2⟩:=(ws_ids n (ids.take pn) bs' 0 j).1 hm
  rw [Nat.zero_add] at h2
  exact h k h1 h2
 have hsplit:∀j,(∃k,k < bs'.length∧j = sg n (ids.take pn) k)∨(j∈ids∧¬ (wr H (deadOf ids ++ wsFrom n (ids.take pn) 0 bs') j).live)∨(j ∉ ids∧j ∉ (deadOf ids ++ wsFrom n (ids.take pn) 0 bs').map (·.1)):=by
  intro j
  by_cases h:∃k,k < bs'.length∧j = sg n (ids.take pn) k
  ·exact .inl h
  ·have h':∀k,k < bs'.length→j≠sg n (ids.take pn) k:=fun k hk he=>h ⟨k,hk,he⟩
   by_cases hj:j∈ids
   ·refine .inr (.inl ⟨hj,?_⟩)
    rw [wr_append,wr_off _ _ _ (hoffw j h'),deadOf,wr_dead,if_pos hj]
    exact id
   ·refine .inr (.inr ⟨hj,?_⟩)
    rw [List.map_append,List.mem_append,not_or]
    exact ⟨fun hm=>hj (mem_deadOf.1 hm),hoffw j h'⟩
 have hoff:=hI.off (T:=fun b=>∃i m,i∈(deadOf ids ++ wsFrom n (ids.take pn) 0 bs').map (·.1)∧(H i).live∧C.ρ i = some (some b,m)) (fun b ⟨i,m,_,h1,h2⟩=>⟨i,m,h1,h2⟩)
 have hvis':C'.vis = C.vis:=hA.ext.vis
 have hnr:∀k b x,k < bs'.length→(hpOf bs' k).live→(C.back C' n (ids.take pn)).ρ (sg n (ids.take pn) k) = some (some b,x)→C'.ρ k = some (some b,x):=by
  intro k b x hk hl hr
  obtain ⟨p,hp⟩:=live_rho hA.inv hl
  have:=hA1 k p hp
  rw [hr] at this
  rw [hp]; exact this.symm
 have hold:∀j b y,j ∉ (deadOf ids ++ wsFrom n (ids.take pn) 0 bs').map (·.1)→(H j).live→(C.back C' n (ids.take pn)).ρ j = some (some b,y)→C.ρ j = some (some b,y):=by
  intro j b y hj hl hr
  obtain ⟨p,hp⟩:=live_rho hI hl
  simp only [Cx.back,hp] at hr
  rw [hp]; exact hr
 have hfar:∀k j b x y,C'.ρ k = some (some b,x)→j ∉ ids→(H j).live→C.ρ j = some (some b,y)→False:=by
  intro k j b x y hr hj hlj hrj
  rcases (hA.new k _ hr).2 b rfl with h3 | h3
  ·obtain ⟨i,m,h4,h5,h6⟩:=hT _ h3
   exact hj (by rw [hI.inj j i b y m hlj h5 hrj h6]; exact h4)
  ·have:=hI.lt hlj hrj
   exact absurd h3 (Nat.not_le.2 this)
 refine ⟨hA1,⟨fun j=>?_,fun i j b x y hi hj hri hrj=>?_,hA.inv.frz,fun b hb=>Nat.lt_of_lt_of_le (hI.vis b hb) hA.ext.size⟩,hx,hnew,?_⟩
 ·rcases hsplit j with ⟨k,hk,rfl⟩ | ⟨hj,hd⟩ | ⟨hj1,hj⟩
  ·rw [hget k hk]
   refine OwnAt_ren (C:=C') (i:=k) rfl rfl (fun b hb=>by rw [hvis']; exact hb) (.inr (by rw [hvis']; exact fun _ h=>h)) (hA1 k) (fun i _=>hA1 i) (hA.inv.own k)
  ·generalize wr H (deadOf ids ++ wsFrom n (ids.take pn) 0 bs') j = b at hd
   cases b with
   | dead=>trivial
   | raw m cs=>exact absurd trivial hd
   | arr a=>exact absurd trivial hd
   | mp l=>exact absurd trivial hd
  ·rw [wr_off _ _ _ hj]
   by_cases hl:(H j).live
   ·refine OwnAt_ext hx hoff (hI.own j) fun b m hb ⟨i,m',h1,h2,h3⟩=>hj ?_
    rw [hI.inj j i b m m' hl h2 hb h3]; exact h1
   ·cases hH:H j with
    | dead=>trivial
    | raw m cs=>rw [hH] at hl; exact absurd trivial hl
    | arr a=>rw [hH] at hl; exact absurd trivial hl
    | mp l=>rw [hH] at hl; exact absurd trivial hl
 ·rcases hsplit i with ⟨k,hk,rfl⟩ | ⟨_,hd⟩ | ⟨hi1,hi'⟩
  ·rw [hget k hk,ren_live] at hi
   have r1:=hnr k b x hk hi hri
   rcases hsplit j with ⟨l,hl,rfl⟩ | ⟨_,hd⟩ | ⟨hj1,hj'⟩
   ·rw [hget l hl,ren_live] at hj
    rw [hA.inv.inj k l b x y hi hj r1 (hnr l b y hl hj hrj)]
   ·exact absurd hj hd
   ·rw [wr_off _ _ _ hj'] at hj
    exact (hfar k j b x y r1 hj1 hj (hold j b y hj' hj hrj)).elim
  ·exact absurd hi hd
  ·rw [wr_off _ _ _ hi'] at hi
   rcases hsplit j with ⟨l,hl,rfl⟩ | ⟨_,hd⟩ | ⟨hj1,hj'⟩
   ·rw [hget l hl,ren_live] at hj
    exact (hfar l i b y x (hnr l b y hl hj hrj) hi1 hi (hold i b x hi' hi hri)).elim
   ·exact absurd hj hd
   ·rw [wr_off _ _ _ hj'] at hj
    exact hI.inj i j b x y hi hj (hold i b x hi' hi hri) (hold j b y hj' hj hrj)
 ·unfold wsOk
  rw [List.all_append,Bool.and_eq_true]
  constructor
  ·rw [List.all_eq_true]
   intro e he
   obtain ⟨i,hi,rfl⟩:=List.mem_map.1 he
   have:=hids i hi
   simp only [Blk.isDead,Bool.true_or,Bool.and_true]
   exact Nat.ble_eq_true_of_le (by omega)
  ·rw [List.all_eq_true]
   intro e he
   obtain ⟨k,h1,h2⟩:=(ws_ids n (ids.take pn) bs' 0 e.1).1 (List.mem_map.2 ⟨e,he,rfl⟩)
   rw [Nat.zero_add] at h2
   rw [h2]
   rcases Nat.lt_or_ge k pn with hk | hk
   ·rw [hlt k hk]
    have hm:nth k ids∈ids:=nth_mem (by omega)
    have a1:Nat.blt (nth k ids) (n + (bs'.length - pn)) = true:=Nat.ble_eq_true_of_le (by have:=hids _ hm; omega)
    have a2:(H (nth k ids)).isDead = false:=by
     have:=hlv _ hm
     cases hb:H (nth k ids) with
     | dead=>rw [hb] at this; exact this.elim
     | raw m cs=>rfl
     | arr a=>rfl
     | mp l=>rfl
    rw [a1,a2]
    simp
   ·rw [hge k hk]
    have a1:Nat.blt (n + (k - pn)) (n + (bs'.length - pn)) = true:=Nat.ble_eq_true_of_le (by omega)
    have a2:Nat.ble n (n + (k - pn)) = true:=Nat.ble_eq_true_of_le (by omega)
    rw [a1,a2]
    simp
structure Core (Cb:Cx) (Hb:Hp) (nb:Nat) (H:Hp) (n:Nat) (C:Cx):Prop where
 inv:Inv C H
 rho:∀j,n≤j→C.ρ j = none
 hist:Hist Cb Hb nb C H
 nb:nb≤n
structure Keeps (C C':Cx):Prop where
 w:C'.w = C.w
 vis:C'.vis = C.vis
 fv:∀x u,fvR C x u→fvR C' x u
theorem Keeps.refl (C:Cx):Keeps C C:=⟨rfl,rfl,fun _ _ h=>h⟩
theorem Keeps.trans {A B D:Cx} (h:Keeps A B) (k:Keeps B D):Keeps A D:=⟨k.w.trans h.w,k.vis.trans h.vis,fun x u hx=>k.fv x u (h.fv x u hx)⟩
section
variable {Cb:Cx} {Hb:Hp} {nb:Nat}
theorem ownC_ok {C:Cx} {H:Hp} {n:Nat} (h:Core Cb Hb nb H n C) (s:Option (EK×Nat)) {c:Cell} {v:Value} (hc:cellR C c v) :
  ∃C',Keeps C C'∧Core Cb Hb nb (ownC H n s c).2.1 (ownC H n s c).2.2 C'∧cellR C' (ownC H n s c).1 v:=by
 unfold ownC
 cases s with
 | none=>exact ⟨C,.refl C,h,hc⟩
 | some ke =>
  obtain ⟨k,e⟩:=ke
  cases c with
  | nilS =>
   simp only [cellR] at hc
   subst hc
   have hn:=h.rho n (Nat.le_refl _)
   obtain ⟨g1,g2⟩:=nil_inv h.inv hn (c:=.nil k) (nil_spec k).1
   have L:Left C H n ⟨none,.top,[],[(n,.arr (.nil k))],n + 1⟩ undef C.w ⟨C.w,C.frz,C.vis,upd C.ρ n (some (none,0))⟩:=⟨rfl,trivial,g1,g2 _,fun i p hp=>by
    by_cases hi:i = n
    ·subst hi
     have hp':upd C.ρ i (some (none,0)) i = some p:=hp
     rw [upd_self] at hp'
     cases hp'
     exact .inr ⟨Nat.le_refl _,Nat.lt_succ_self _,fun b hb=>by cases hb⟩
    ·have hp':upd C.ρ n (some (none,0)) i = some p:=hp
     rw [upd_ne hi] at hp'
     exact .inl hp'⟩
   refine ⟨⟨C.w,C.frz,C.vis,upd C.ρ n (some (none,0))⟩,⟨rfl,rfl,fun x u hx=>fvR_ext (g2 (fun _=>False)) (off_none h.inv) hx⟩,⟨g1,fun j hj=>?_,h.hist.step h.inv h.nb (fun i h1 _=>h.rho i h1) L ?_,Nat.le_succ_of_le h.nb⟩,.inl ⟨upd_self _ _ _,rfl⟩⟩
   ·have hj:n + 1≤j:=hj
    show upd C.ρ n _ j = none
    rw [upd_ne (by omega)]
    exact h.rho j (by omega)
   ·have a1:Nat.blt n (n + 1) = true:=Nat.ble_eq_true_of_le (Nat.le_refl _)
    have a2:Nat.ble n n = true:=Nat.ble_eq_true_of_le (Nat.le_refl _)
    simp [wsOk,a1,a2]
  | own i sz e' =>
   simp only
   split
   ·rename_i hH
    refine ⟨C,.refl C,h,?_⟩
    have ho:=h.inv.own i
    rw [hH] at ho
    obtain ⟨b,vs,e2,h1,_⟩:=ho
    rcases hc with ⟨h2,_⟩ | ⟨b',m,c,vs',h2,rfl,h3,h4,h5,h6⟩
    ·rw [h1] at h2; cases h2
    ·exact ⟨b',m,c,vs',h2,by simp,Nat.zero_le _,by omega,h4,by rw [h5,Nat.zero_add],by rw [Nat.zero_add]; omega⟩
   ·exact ⟨C,.refl C,h,hc⟩
  | _=>exact ⟨C,.refl C,h,hc⟩
theorem ownCs_ok:∀{cs:List Cell} {ss:List (Option (EK×Nat))} {C:Cx} {H:Hp} {n:Nat} {vs:List Value},Core Cb Hb nb H n C→cellsR C cs vs →
  ∃C',Keeps C C'∧Core Cb Hb nb (ownCs cs ss H n).2.1 (ownCs cs ss H n).2.2 C'∧cellsR C' (ownCs cs ss H n).1 vs:=by
 intro cs
 induction cs with
 | nil=>intro ss C H n vs h hc; exact ⟨C,.refl C,h,hc⟩
 | cons c cs ih =>
  intro ss C H n vs h hc
  cases ss with
  | nil=>exact ⟨C,.refl C,h,hc⟩
  | cons s ss =>
   cases vs with
   | nil=>have:=hc.1; simp at this
   | cons v vs =>
    obtain ⟨v',h1,h2⟩:=hc.2 0 c rfl
    simp only [List.getElem?_cons_zero,Option.some.injEq] at h1
    subst h1
    have hr:cellsR C cs vs:=⟨by simpa using hc.1,fun j x hj=>by
     obtain ⟨u,h3,h4⟩:=hc.2 (j + 1) x (by simpa using hj)
     exact ⟨u,by simpa using h3,h4⟩⟩
    obtain ⟨C1,k1,c1,r1⟩:=ownC_ok h s h2
    have hr1:cellsR C1 cs vs:=⟨hr.1,fun j x hj=>by obtain ⟨u,h3,h4⟩:=hr.2 j x hj; exact ⟨u,h3,k1.fv (.c x) u h4⟩⟩
    obtain ⟨C2,k2,c2,r2⟩:=ih (ss:=ss) c1 hr1
    refine ⟨C2,k1.trans k2,c2,?_,fun j x hj=>?_⟩
    ·exact congrArg Nat.succ r2.1
    ·cases j with
     | zero =>
      have hj:some (ownC H n s c).1 = some x:=hj
      cases hj
      exact ⟨v,rfl,k2.fv (.c _) v r1⟩
     | succ j=>exact r2.2 j x hj
theorem ownF_ok {C:Cx} {H:Hp} {n:Nat} (h:Core Cb Hb nb H n C) (ss:List (Option (EK×Nat))) {x:FV} {v:Value} (hx:fvR C x v) :
  ∃C',Keeps C C'∧Core Cb Hb nb (ownF H n ss x).2.1 (ownF H n ss x).2.2 C'∧fvR C' (ownF H n ss x).1 v:=by
 cases x with
 | c x =>
  cases ss with
  | nil=>exact ⟨C,.refl C,h,hx⟩
  | cons s r=>exact ownC_ok h s hx
 | agg cs =>
  obtain ⟨vs,rfl,h2,h3⟩:=hx
  obtain ⟨C',k,c,r⟩:=ownCs_ok (ss:=ss) (vs:=vs.toList) h ⟨by simpa using h2,fun j y hj=>by obtain ⟨u,h4,h5⟩:=h3 j y hj; exact ⟨u,by simpa using h4,h5⟩⟩
  exact ⟨C',k,c,vs,rfl,by simpa using r.1,fun j y hj=>by obtain ⟨u,h4,h5⟩:=r.2 j y hj; exact ⟨u,by simpa using h4,h5⟩⟩
theorem ownFs_ok:∀{xs:List FV} {sh:Shp} {C:Cx} {H:Hp} {n:Nat} {vs:List Value},Core Cb Hb nb H n C→valsR C xs vs →
  ∃C',Keeps C C'∧Core Cb Hb nb (ownFs xs sh H n).2.1 (ownFs xs sh H n).2.2 C'∧valsR C' (ownFs xs sh H n).1 vs:=by
 intro xs
 induction xs with
 | nil=>intro sh C H n vs h hc; exact ⟨C,.refl C,h,hc⟩
 | cons x xs ih =>
  intro sh C H n vs h hc
  cases sh with
  | nil=>exact ⟨C,.refl C,h,hc⟩
  | cons ss sh =>
   cases vs with
   | nil=>exact hc.elim
   | cons v vs =>
    obtain ⟨C1,k1,c1,r1⟩:=ownF_ok h ss hc.1
    have hr:valsR C1 xs vs:=by
     have:=valsR_map (f:=id) (fun x _ v hv=>k1.fv x v hv) hc.2
     rwa [List.map_id] at this
    obtain ⟨C2,k2,c2,r2⟩:=ih (sh:=sh) c1 hr
    exact ⟨C2,k1.trans k2,c2,k2.fv _ _ r1,r2⟩
end
def exOf:Ex→Exit
 | .normal=>.normal
 | .exit i=>.exit i
 | .ret=>.ret
def keptR (C:Cx) (keep:List Nat) (xs:List FV) (tmps:Array Value):Prop:=∀(q t:Nat) (x:FV),keep[q]? = some t→xs[q]? = some x→∃v,tmps[t]? = some v∧fvR C x v
theorem handed_live {H:Hp} {ids:List Nat} (h:allLive H ids = true) (i:Nat) (hi:i < (handed H ids).length):(hpOf (handed H ids) i).live:=by
 have hi':i < ids.length:=by simpa [handed] using hi
 rw [hpOf_handed hi',ren_live]
 have:=List.all_eq_true.1 h _ (nth_mem hi')
 cases hb:H (nth i ids) with
 | dead=>rw [hb] at this; cases this
 | raw m cs=>trivial
 | arr a=>trivial
 | mp l=>trivial
def CGood (P:Program) (sz:Nat) (l:LCtr) (c:Code):Prop :=
 ∀(bs:List Blk) (xs:List FV) (K:Ex→List FV→List Blk→Prop) (C:Cx) (a:Act) (Q:Exit→Act→World→Prop),l.S bs xs K→(∀i,i < bs.length→(hpOf bs i).live)→a.tmps.size = sz→Inv C (hpOf bs)→(∀i,bs.length≤i→C.ρ i = none)→xs.length = l.keep.length→keptR C l.keep xs a.tmps →
  (∀e ys bs' C' a',K e ys bs'→AfterL l.pn C C' bs bs'→keptR C' (l.kout e) ys a'.tmps→a'.tmps.size = sz→a'.defers = a.defers→Q (exOf e) a' C'.w)→c.wp P Q a C.w
def LGood (P:Program) (sz:Nat) (l:LCtr) (body:Code):Prop:=CGood P sz l (.loop body)
def codeOk (P:Program) (ct:List LCtr) (L:List LCtr) (sz:Nat):Code→Prop
 | .seq a b=>codeOk P ct L sz a∧codeOk P ct L sz b∧∀l,lcOf ct (firstR b) = some l→CGood P sz l b
 | .block _ c=>codeOk P ct L sz c
 | .cond _ a b=>codeOk P ct L sz a∧codeOk P ct L sz b
 | .region _ ops _=>∀o∈ops.toList,∀d,o.dst = some d→d < sz
 | .loop c=>∀l,lcOf L (firstR c) = some l→LGood P sz l c
 | _=>True
section
variable {P:Program} {E:Env} {L:List LCtr} {Cb:Cx} {Hb:Hp} {nb sz:Nat} {df:List Deferred}
def Post (Cb:Cx) (Hb:Hp) (nb sz:Nat) (df:List Deferred) (Q:Ex→Fr→Hp→Nat→Prop):Exit→Act→World→Prop:=fun e a w=>∃x fr H n C,e = exOf x∧C.w = w∧St' Cb Hb nb sz df fr H n C a∧Q x fr H n
theorem keptOf_R {C:Cx} {fr:Fr} {tmps:Array Value} (hF:FrR C fr tmps):∀{ks:List Nat} {xs:List FV},keptOf fr ks = some xs→xs.length = ks.length∧keptR C ks xs tmps:=by
 intro ks
 induction ks with
 | nil =>
  intro xs h
  simp only [keptOf,List.map_nil,fvs,Option.some.injEq] at h
  subst h
  exact ⟨rfl,fun q t x h=>by simp at h⟩
 | cons k ks ih =>
  intro xs h
  unfold keptOf at h
  simp only [List.map_cons,fvs] at h
  cases h1:asFV (bif (fr k).g.isEmpty then some (fr k).v else none) with
  | none=>rw [h1] at h; cases h
  | some x =>
   rw [h1] at h
   simp only [Option.bind_some] at h
   cases h2:fvs (ks.map fun t=>bif (fr t).g.isEmpty then some (fr t).v else none) with
   | none=>rw [h2] at h; cases h
   | some ys =>
    rw [h2] at h
    simp only [Option.map_some,Option.some.injEq] at h
    subst h
    obtain ⟨i1,i2⟩:=ih h2
    refine ⟨by simp [i1],fun q t x' hq hx=>?_⟩
    cases q with
    | succ q=>exact i2 q t x' (by simpa using hq) (by simpa using hx)
    | zero =>
     simp only [List.getElem?_cons_zero,Option.some.injEq] at hq hx
     subst hq hx
     cases hg:(fr k).g.isEmpty with
     | false=>rw [hg] at h1; cases h1
     | true =>
      rw [hg] at h1
      simp only [cond_true] at h1
      have hg':=List.isEmpty_iff.1 hg
      unfold asFV at h1
      split at h1
      ·rename_i y hy
       simp only [Option.some.injEq] at h1 hy
       subst h1
       rcases hF.slot k (by rw [hg']; exact fun e he=>by cases he) with h | ⟨v,h3,h4⟩
       ·rw [hy] at h; cases h
       ·rw [hy] at h4; exact ⟨v,h3,h4⟩
      ·cases h1
theorem keepFr_R {C:Cx} {ks:List Nat} {xs:List FV} {tmps:Array Value} (h:keptR C ks xs tmps):FrR C (keepFr ks xs) tmps:=by
 have hg:∀t,(keepFr ks xs t).g = []:=by
  intro t
  unfold keepFr
  cases memN t ks with
  | false=>rfl
  | true =>
   simp only [cond_true]
   split <;> rfl
 refine ⟨fun t _=>?_,fun t ht=>absurd (by rw [hg]; exact fun e he=>by cases he) ht⟩
 unfold keepFr
 cases hm:memN t ks with
 | false=>exact .inl rfl
 | true =>
  simp only [cond_true]
  split
  ·rename_i x hx
   obtain ⟨i1,i2⟩:=idx_mem (memN_iff.1 hm)
   rw [nth_eq i1] at i2
   obtain ⟨v,h1,h2⟩:=h (idx t ks) t x (by rw [List.getElem?_eq_getElem i1,i2]) hx
   exact .inr ⟨v,h1,h2⟩
  ·exact .inl rfl
theorem kept_vals {C:Cx} {tmps:Array Value}:∀{ks:List Nat} {xs:List FV},xs.length = ks.length→keptR C ks xs tmps→∃vs,valsR C xs vs∧∀(q t:Nat),ks[q]? = some t→∃v,vs[q]? = some v∧tmps[t]? = some v:=by
 intro ks
 induction ks with
 | nil =>
  intro xs hl hk
  cases xs with
  | nil=>exact ⟨[],trivial,fun q t h=>by simp at h⟩
  | cons x xs=>simp at hl
 | cons k ks ih =>
  intro xs hl hk
  cases xs with
  | nil=>simp at hl
  | cons x xs =>
   obtain ⟨v,h1,h2⟩:=hk 0 k x rfl rfl
   obtain ⟨vs,h3,h4⟩:=ih (by simpa using hl) (fun q t y hq hy=>hk (q + 1) t y (by simpa using hq) (by simpa using hy))
   refine ⟨v :: vs,⟨h2,h3⟩,fun q t hq=>?_⟩
   cases q with
   | zero =>
    simp only [List.getElem?_cons_zero,Option.some.injEq] at hq
    subst hq
    exact ⟨v,rfl,h1⟩
   | succ q=>simpa using h4 q t (by simpa using hq)
theorem vals_kept {C:Cx} {tmps:Array Value} {ks:List Nat} {xs:List FV} {vs:List Value} (h:valsR C xs vs) (hv:∀(q t:Nat),ks[q]? = some t→∃v,vs[q]? = some v∧tmps[t]? = some v):keptR C ks xs tmps:=fun q t x hq hx=>by
 obtain ⟨u,h1,h2⟩:=valsR_get h q x hx
 obtain ⟨v,h3,h4⟩:=hv q t hq
 rw [h1] at h3
 cases h3
 exact ⟨u,h4,h2⟩
theorem kept_own {Cb:Cx} {Hb:Hp} {nb:Nat} {C:Cx} {H:Hp} {n:Nat} {ks:List Nat} {xs:List FV} {tmps:Array Value} (sh:Shp) (h:Core Cb Hb nb H n C) (hl:xs.length = ks.length) (hk:keptR C ks xs tmps) :
  ∃C',Keeps C C'∧Core Cb Hb nb (ownFs xs sh H n).2.1 (ownFs xs sh H n).2.2 C'∧(ownFs xs sh H n).1.length = ks.length∧keptR C' ks (ownFs xs sh H n).1 tmps:=by
 obtain ⟨vs,h1,h2⟩:=kept_vals hl hk
 obtain ⟨C',k,c,r⟩:=ownFs_ok (sh:=sh) h h1
 exact ⟨C',k,c,by rw [← valsR_len r,valsR_len h1,hl],vals_kept r h2⟩
theorem anyAlt_elim {α:Type} {K:α→Prop}:∀{l:List α},anyAlt K l→∃a,K a
 | [a],h=>⟨a,h⟩
 | a :: b :: r,h=>by
  rcases h with h | h
  ·exact ⟨a,h⟩
  ·exact anyAlt_elim (l:=b :: r) h
theorem cut_ok {l : LCtr} {c : Code} (hg : CGood P sz l c) (Q : Ex → Fr → Hp → Nat → Prop) (fr : Fr) (H : Hp) (n : Nat) (C : Cx) (a : Act) (h : evLoop l fr H n Q) (hS : St' Cb Hb nb sz df fr H n C a) :
    c.wp P (Post Cb Hb nb sz df Q) a C.w := by
  unfold evLoop at h
  cases hk : keptOf fr l.keep with
  | none => rw [hk] at h; exact h.elim
  | some xs =>
    rw [hk] at h
    simp only at h
    obtain ⟨k1', k2'⟩ := keptOf_R hS.frm hk
    obtain ⟨C2, kp, hcore, k1, k2⟩ := kept_own l.shp ⟨hS.inv, hS.rho, hS.hist, hS.nb⟩ k1' k2'
    rw [← kp.w]
    generalize ownFs xs l.shp H n = r at h hcore k1 k2
    clear k1' k2' hk xs
    obtain ⟨xs, H, n⟩ := r
    simp only at h hcore k1 k2
    cases hid : (idsOk H n (gather H 64 (xs.flatMap FV.ids) []) xs && allLive H (gather H 64 (xs.flatMap FV.ids) []) && Nat.ble l.pn (gather H 64 (xs.flatMap FV.ids) []).length) with
    | false => rw [hid] at h; exact h.elim
    | true =>
      rw [hid] at h
      simp only [cond_true] at h
      generalize gather H 64 (xs.flatMap FV.ids) [] = ids at h hid
      simp only [Bool.and_eq_true] at hid
      obtain ⟨⟨hid, hlive⟩, hpn⟩ := hid
      have hpn := Nat.le_of_ble_eq_true hpn
      obtain ⟨i1, i2, i3, i4⟩ := idsOk_of hid
      refine hg (handed H ids) _ _ (C2.enter ids C2.vis) a _ h (handed_live hlive) hS.size (enter_inv hcore.inv i1 i4) (fun i hi => ?_) (by rw [List.length_map]; exact k1) (fun q t x hq hx => ?_) fun e ys bs' C' a' hK hA hkr hsz hdf => ?_
      · simp only [Cx.enter]
        rw [if_neg (by have : ids.length ≤ i := by simpa [handed] using hi
                       omega)]
      · rw [List.getElem?_map] at hx
        cases hxq : xs[q]? with
        | none => rw [hxq] at hx; cases hx
        | some y =>
          rw [hxq] at hx
          simp only [Option.map_some, Option.some.injEq] at hx
          subst hx
          obtain ⟨v, h1, h2⟩ := k2 q t y hq hxq
          exact ⟨v, h1, fvR_ren (C := C2) (D := C2.enter ids C2.vis) rfl (fun _ h => h) (.inr fun _ h => h) (fun i hi p hp => enter_rho (i3 y (List.mem_of_getElem? hxq) i hi) hp) h2⟩
      · generalize hb : (Nat.beq ys.length (l.kout e).length && Nat.ble l.pn bs'.length) = b at hK
        cases b with
        | false => exact hK.elim
        | true =>
          simp only [cond_true] at hK
          rw [Bool.and_eq_true] at hb
          have hpb := Nat.le_of_ble_eq_true hb.2
          have hall : ∀ i ∈ ids, (H i).live := fun i hi => by
            have h1 := handed_live hlive (idx i ids) (by have := (idx_mem hi).1; simpa [handed] using this)
            rw [hpOf_handed (idx_mem hi).1, ren_live, (idx_mem hi).2] at h1
            exact h1
          obtain ⟨g1, g2, g3, g4, g5⟩ := backL_ok hcore.inv hcore.rho i1 i2 hall hpn hpb hA
          have hlv : Left C2 H n ⟨none, .top, [], deadOf ids ++ wsFrom n (ids.take l.pn) 0 bs', n + (bs'.length - l.pn)⟩ undef C'.w (C2.back C' n (ids.take l.pn)) := ⟨rfl, trivial, g2, g3, g4⟩
          refine ⟨e, _, _, _, C2.back C' n (ids.take l.pn), rfl, rfl, ⟨?_, g2, fun j hj => ?_, hcore.hist.step hcore.inv hcore.nb (fun i h1 _ => hcore.rho i h1) hlv g5, hsz, by rw [hdf]; exact hS.df, Nat.le_trans hcore.nb (Nat.le_add_right _ _)⟩, hK⟩
          · refine keepFr_R fun q t x hq hx => ?_
            rw [List.getElem?_map] at hx
            cases hxq : ys[q]? with
            | none => rw [hxq] at hx; cases hx
            | some y =>
              rw [hxq] at hx
              simp only [Option.map_some, Option.some.injEq] at hx
              subst hx
              obtain ⟨v, h1, h2⟩ := hkr q t y hq hxq
              have hv : C'.vis = C2.vis := hA.ext.vis
              exact ⟨v, h1, fvR_ren (C := C') (D := C2.back C' n (ids.take l.pn)) rfl (fun _ h => h) (.inr fun b h => by show C2.vis b; rw [← hv]; exact h) (fun i _ p hp => g1 i p hp) h2⟩
          · cases hp : (C2.back C' n (ids.take l.pn)).ρ j with
            | none => rfl
            | some p =>
              have hj' : n + (bs'.length - l.pn) ≤ j := hj
              rcases g4 j p hp with h | ⟨_, h, _⟩
              · rw [hcore.rho j (by omega)] at h; cases h
              · omega
theorem ev_ok (hm:P.follows .mixedOrders = true) (hE:TyOK P E) (hG:∀c∈E.G,Good P c):∀(c:Code),codeOk P E.ct L sz c→∀(Q:Ex→Fr→Hp→Nat→Prop) (fr:Fr) (H:Hp) (n:Nat) (C:Cx) (a:Act),ev E L c Q fr H n→St' Cb Hb nb sz df fr H n C a→c.wp P (Post Cb Hb nb sz df Q) a C.w:=by
 intro c
 induction c with
 | skip=>intro _ Q fr H n C a h hS; exact wp_skip ⟨.normal,fr,H,n,C,rfl,rfl,hS,h⟩
 | ret=>intro _ Q fr H n C a h hS; exact wp_ret ⟨.ret,fr,H,n,C,rfl,rfl,hS,h⟩
 | exit i=>intro _ Q fr H n C a h hS; exact wp_exit ⟨.exit i,fr,H,n,C,rfl,rfl,hS,h⟩
 | seq x y ihx ihy =>
  intro hok Q fr H n C a h hS
  refine wp_seq (wp_mono (ihx hok.1 _ fr H n C a h hS) fun e a' w' hp=>?_)
  obtain ⟨ex,fr',H',n',C',rfl,rfl,h1,h2⟩:=hp
  cases ex with
  | normal =>
   simp only at h2
   cases hl:lcOf E.ct (firstR y) with
   | none=>rw [hl] at h2; exact ihy hok.2.1 Q fr' H' n' C' a' h2 h1
   | some l=>rw [hl] at h2; exact cut_ok (hok.2.2 l hl) Q fr' H' n' C' a' h2 h1
  | exit i=>exact ⟨.exit i,fr',H',n',C',rfl,rfl,h1,h2⟩
  | ret=>exact ⟨.ret,fr',H',n',C',rfl,rfl,h1,h2⟩
 | block i x ih =>
  intro hok Q fr H n C a h hS
  refine wp_block (wp_mono (ih hok _ fr H n C a h hS) fun e a' w' hp=>?_)
  obtain ⟨ex,fr',H',n',C',rfl,rfl,h1,h2⟩:=hp
  cases ex with
  | normal=>exact ⟨.normal,fr',H',n',C',rfl,rfl,h1,h2⟩
  | exit j =>
   simp only [exOf,Exit.inBlock]
   simp only at h2
   cases hb:Nat.beq j i with
   | true =>
    rw [hb] at h2
    rw [if_pos (Nat.eq_of_beq_eq_true hb)]
    exact ⟨.normal,fr',H',n',C',rfl,rfl,h1,h2⟩
   | false =>
    rw [hb] at h2
    rw [if_neg (fun e=>by rw [e] at hb; simp at hb)]
    exact ⟨.exit j,fr',H',n',C',rfl,rfl,h1,h2⟩
  | ret=>exact ⟨.ret,fr',H',n',C',rfl,rfl,h1,h2⟩
 | cond c x y ihx ihy =>
  intro hok Q fr H n C a h hS
  unfold ev at h
  split at h
  ·rename_i t ht
   have hc:a.eval c = .bool t:=asC_R (π:=[]) hS.frm (fun e he=>by cases he) ht
   exact wp_cond_split hc (fun e=>ihx hok.1 Q fr H n C a (h.1 e) hS) (fun e=>ihy hok.2 Q fr H n C a (h.2 e) hS)
  ·exact h.elim
 | region id ops draw =>
  intro hok Q fr H n C a h hS
  unfold ev at h
  split at h
  ·exact region_ok hm hE hG hok hS h fun fr' H' n' C' a' hk hS'=>⟨.normal,fr',H',n',C',rfl,rfl,hS',hk⟩
  ·obtain ⟨ch,h⟩:=anyAlt_elim h
   exact region_ok (E:={ E with ch:=ch }) hm (by cases hE; constructor <;> assumption) hG hok hS h fun fr' H' n' C' a' hk hS'=>⟨.normal,fr',H',n',C',rfl,rfl,hS',hk⟩
 | loop c ih =>
  intro hok Q fr H n C a h hS
  unfold ev at h
  cases hl:lcOf L (firstR c) with
  | none=>rw [hl] at h; exact h.elim
  | some l =>
   rw [hl] at h
   exact cut_ok (hok l hl) Q fr H n C a h hS
 | _=>intro _ Q fr H n C a h hS; exact h.elim
end
end Hw
end Go.Proofs.YtklmllaggigkfaaGreat
