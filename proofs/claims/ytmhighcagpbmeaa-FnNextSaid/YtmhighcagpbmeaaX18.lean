/- Regions, part 3: whole. -/
import Derived.Test.YtmhighcagpbmeaaX17
set_option linter.unusedVariables false
set_option linter.unusedSimpArgs false
namespace Go.Proofs.Ytmhighcagpbmeaa
namespace Hw
open Go
structure St' (Cb : Cx) (Hb : Hp) (nb sz : Nat) (df : List Deferred) (fr : Fr) (H : Hp) (n : Nat) (C : Cx) (a : Act) : Prop where
  frm : FrR C fr a.tmps
  inv : Inv C H
  rho : ∀ j, n ≤ j → C.ρ j = none
  hist : Hist Cb Hb nb C H
  size : a.tmps.size = sz
  df : a.defers = df
  nb : nb ≤ n
def cnt : Nat → (Nat → Bool) → Nat
  | 0, _ => 0
  | k + 1, S => cnt k S + if S k = true then 1 else 0
theorem cnt_le : ∀ (k : Nat) (S : Nat → Bool), cnt k S ≤ k
  | 0, _ => Nat.le_refl _
  | k + 1, S => by
    have := cnt_le k S
    unfold cnt
    split <;> omega
theorem cnt_full : ∀ (k : Nat) (S : Nat → Bool), k ≤ cnt k S → ∀ j, j < k → S j = true
  | 0, _, _, j, hj => by omega
  | k + 1, S, h, j, hj => by
    have h1 := cnt_le k S
    unfold cnt at h
    by_cases hs : S k = true
    · rw [if_pos hs] at h
      by_cases hjk : j = k
      · subst hjk; exact hs
      · exact cnt_full k S (by omega) j (by omega)
    · rw [if_neg hs] at h; omega
theorem cnt_flip {S : Nat → Bool} {i : Nat} (hi : S i = false) : ∀ k, (k ≤ i → cnt k (flip S i) = cnt k S) ∧ (i < k → cnt k (flip S i) = cnt k S + 1)
  | 0 => ⟨fun _ => rfl, fun h => by omega⟩
  | k + 1 => by
    obtain ⟨h1, h2⟩ := cnt_flip hi k
    refine ⟨fun h => ?_, fun h => ?_⟩
    · unfold cnt
      rw [h1 (by omega)]
      have : flip S i k = S k := by simp only [flip]; rw [if_neg (by omega)]
      rw [this]
    · unfold cnt
      by_cases hk : k = i
      · subst hk
        rw [h1 (Nat.le_refl _)]
        have : flip S k k = true := by simp [flip]
        rw [if_pos this, if_neg (by rw [hi]; simp)]
      · rw [h2 (by omega)]
        have : flip S i k = S k := by simp only [flip]; rw [if_neg hk]
        rw [this]
        omega
theorem getL_app {α : Type} {d : α} : ∀ (l m : List α) (i : Nat), i < l.length → getL d (l ++ m) i = getL d l i := by
  intro l
  induction l with
  | nil => intro m i h; cases h
  | cons x l ih => intro m i h; cases i with
    | zero => rfl
    | succ i => exact ih m i (by simpa using h)
theorem getL_at {α : Type} {d : α} : ∀ (l m : List α) (x : α), getL d (l ++ x :: m) l.length = x := by
  intro l
  induction l with
  | nil => intro m x; rfl
  | cons y l ih => intro m x; exact ih m x
theorem has_bit (m j : Nat) : has m j = m.testBit j := by
  unfold has Nat.testBit
  have h1 : Nat.shiftRight m j = m >>> j := rfl
  have h2 : Nat.land (m >>> j) 1 = (m >>> j) % 2 := Nat.and_one_is_mod (m >>> j)
  have h3 : 1 &&& (m >>> j) = (m >>> j) % 2 := Nat.one_and_eq_mod_two (m >>> j)
  rw [h1, h2, h3]
  rcases Nat.mod_two_eq_zero_or_one (m >>> j) with h | h <;> rw [h] <;> rfl
theorem has_lor {a b j : Nat} : has (Nat.lor a b) j = (has a j || has b j) := by
  rw [has_bit, has_bit, has_bit]
  exact Nat.testBit_or a b j
theorem has_one {k j : Nat} (h : has (Nat.shiftLeft 1 k) j = true) : j = k := by
  rw [has_bit] at h
  have h1 : Nat.shiftLeft 1 k = 2 ^ k := Nat.one_shiftLeft k
  rw [h1, Nat.testBit_two_pow] at h
  exact (of_decide_eq_true h).symm
theorem has_zero (j : Nat) : has 0 j = false := by
  rw [has_bit]
  exact Nat.zero_testBit j
theorem ancRow_mem {acc : List Nat} {o : Oper} {j : Nat} (h : has (ancRow acc o) j = true) : ∃ e ∈ o.after.toList, Region.binds .any e = true ∧ (j = e.on ∨ has (getL 0 acc e.on) j = true) := by
  unfold ancRow at h
  revert h
  induction o.after.toList with
  | nil => intro h; rw [show List.foldr _ 0 [] = 0 from rfl, has_zero] at h; cases h
  | cons e r ih =>
    intro h
    rw [List.foldr_cons] at h
    cases hb : Region.binds .any e with
    | false =>
      rw [hb, cond_false] at h
      obtain ⟨e', h1, h2⟩ := ih h
      exact ⟨e', List.mem_cons_of_mem _ h1, h2⟩
    | true =>
      rw [hb, cond_true, has_lor, has_lor, Bool.or_eq_true, Bool.or_eq_true] at h
      rcases h with (h | h) | h
      · exact ⟨e, List.mem_cons_self, hb, .inl (has_one h)⟩
      · exact ⟨e, List.mem_cons_self, hb, .inr h⟩
      · obtain ⟨e', h1, h2⟩ := ih h
        exact ⟨e', List.mem_cons_of_mem _ h1, h2⟩
theorem ancs_ext : ∀ (l : List Oper) (acc : List Nat), ∃ m, ancs l acc = acc ++ m
  | [], acc => ⟨[], by simp [ancs]⟩
  | o :: l, acc => by
    obtain ⟨m, h⟩ := ancs_ext l (acc ++ [ancRow acc o])
    refine ⟨ancRow acc o :: m, ?_⟩
    show ancs l (acc ++ [ancRow acc o]) = _
    rw [h, List.append_assoc]
    rfl
theorem ancs_get : ∀ (l : List Oper) (acc : List Nat) (i : Nat) (o : Oper), l[i]? = some o → ∃ acc', (∃ m, ancs l acc = acc' ++ ancRow acc' o :: m) ∧ acc'.length = acc.length + i := by
  intro l
  induction l with
  | nil => intro acc i o h; simp at h
  | cons x l ih =>
    intro acc i o h
    cases i with
    | zero =>
      simp only [List.getElem?_cons_zero, Option.some.injEq] at h
      subst h
      obtain ⟨m, hm⟩ := ancs_ext l (acc ++ [ancRow acc x])
      refine ⟨acc, ⟨m, ?_⟩, rfl⟩
      show ancs l (acc ++ [ancRow acc x]) = _
      rw [hm, List.append_assoc]
      rfl
    | succ i =>
      obtain ⟨acc', h1, h2⟩ := ih (acc ++ [ancRow acc x]) i o (by simpa using h)
      exact ⟨acc', h1, by rw [h2, List.length_append]; simp; omega⟩
theorem anc_mem {ops : List Oper} {i : Nat} {o : Oper} (h : ops[i]? = some o) (hb : ∀ e ∈ o.after.toList, Region.binds .any e = true → e.on < i) {j : Nat} (hj : has (getL 0 (ancs ops []) i) j = true) :
    ∃ e ∈ o.after.toList, Region.binds .any e = true ∧ (j = e.on ∨ has (getL 0 (ancs ops []) e.on) j = true) := by
  obtain ⟨acc', ⟨m, hm⟩, hl⟩ := ancs_get ops [] i o h
  simp only [List.length_nil, Nat.zero_add] at hl
  rw [hm] at hj ⊢
  rw [← hl, getL_at] at hj
  obtain ⟨e, he, hbe, hj⟩ := ancRow_mem hj
  refine ⟨e, he, hbe, hj.imp_right fun h => ?_⟩
  rw [getL_app _ _ _ (by rw [hl]; exact hb e he hbe)]
  exact h
theorem edges_of : ∀ (l : List Oper) (k : Nat), edgesOk l k = true → ∀ i o, l[i]? = some o → ∀ e ∈ o.after.toList, Region.binds .any e = true → e.on < k + i := by
  intro l
  induction l with
  | nil => intro k _ i o h; simp at h
  | cons x l ih =>
    intro k h i o ho e he hb
    simp only [edgesOk, Bool.and_eq_true] at h
    cases i with
    | zero =>
      simp only [List.getElem?_cons_zero, Option.some.injEq] at ho
      subst ho
      have := List.all_eq_true.1 h.1 e he
      rw [hb] at this
      simp only [Bool.not_true, Bool.false_or] at this
      exact Nat.le_of_ble_eq_true this
    | succ i =>
      have := ih (k + 1) h.2 i o (by simpa using ho) e he hb
      omega
theorem clash_of {anc : List Nat} : ∀ (l : List Item) (k : Nat) (before : List (Nat × Item)), clashOk anc l k before = true →
    (∀ q x, l[q]? = some x → ∀ e ∈ before, e.2.clash x = false ∨ has (getL 0 anc (k + q)) e.1 = true) ∧ ∀ p q y x, p < q → l[p]? = some y → l[q]? = some x → y.clash x = false ∨ has (getL 0 anc (k + q)) (k + p) = true := by
  intro l
  induction l with
  | nil => intro k b _; exact ⟨fun q x h => by simp at h, fun p q y x _ h => by simp at h⟩
  | cons z l ih =>
    intro k b h
    simp only [clashOk, Bool.and_eq_true] at h
    obtain ⟨h1, h2⟩ := ih (k + 1) _ h.2
    refine ⟨fun q x hx e he => ?_, fun p q y x hpq hy hx => ?_⟩
    · cases q with
      | zero =>
        simp only [List.getElem?_cons_zero, Option.some.injEq] at hx
        subst hx
        have := List.all_eq_true.1 h.1 e he
        rw [Bool.or_eq_true] at this
        rcases this with h | h
        · exact .inl (by simpa using h)
        · exact .inr h
      | succ q =>
        have := h1 q x (by simpa using hx) e (List.mem_cons_of_mem _ he)
        rwa [show k + 1 + q = k + (q + 1) by omega] at this
    · cases q with
      | zero => omega
      | succ q =>
        cases p with
        | zero =>
          simp only [List.getElem?_cons_zero, Option.some.injEq] at hy
          subst hy
          have := h1 q x (by simpa using hx) (k, z) List.mem_cons_self
          rwa [show k + 1 + q = k + (q + 1) by omega] at this
        | succ p =>
          have := h2 p q y x (by omega) (by simpa using hy) (by simpa using hx)
          rwa [show k + 1 + q = k + (q + 1) by omega, show k + 1 + p = k + (p + 1) by omega] at this
section
variable {P : Program} {E : Env} {ops : Array Oper} {its : List Item} {fr0 : Fr} {H0 : Hp} {n0 : Nat} {Cb : Cx} {Hb : Hp} {nb sz : Nat} {df : List Deferred} {Q : Exit → Act → World → Prop}
theorem RS_all {S : Nat → Bool} {C : Cx} {a : Act} (h : RS its fr0 H0 n0 Cb Hb nb sz df S C a) (hS : ∀ j, j < its.length → S j = true) : RS its fr0 H0 n0 Cb Hb nb sz df (fun _ => true) C a := by
  have e1 : runF its S 0 fr0 = runF its (fun _ => true) 0 fr0 := funext fun t => runF_cong its 0 _ _ (fun q x hx hn => absurd (hS _ (by have := (List.getElem?_eq_some_iff.1 hx).1; omega)) hn) rfl
  have e2 : runH its S 0 H0 = runH its (fun _ => true) 0 H0 := funext fun t => runH_cong its 0 _ _ (fun q x hx hn => absurd (hS _ (by have := (List.getElem?_eq_some_iff.1 hx).1; omega)) hn) rfl
  refine ⟨by rw [← e1]; exact h.frm, by rw [← e2]; exact h.inv, fun j p hp => ?_, by rw [← e2]; exact h.hist, h.size, h.df⟩
  rcases h.rho j p hp with h1 | ⟨k, x, h1, h2⟩
  · exact .inl h1
  · exact .inr ⟨k, x, rfl, h2⟩
theorem list_ok (hE : TyOK P E) (hG : ∀ c ∈ E.G, Good P c) (hF : ∀ i x, its[i]? = some x → Fact E ops.toList its [] fr0 H0 n0 ops.toList i x) (hlen : its.length = ops.toList.length) (hc : ∀ (i : Nat) (x : Item), its[i]? = some x → ∀ q, x.c = some q → q) (h0 : ∀ t, (fr0 t).g = []) (hnb : nb ≤ n0)
    (hsz : ∀ o ∈ ops.toList, ∀ d, o.dst = some d → d < sz) (hQ : ∀ C' a', RS its fr0 H0 n0 Cb Hb nb sz df (fun _ => true) C' a' → Q .normal a' C'.w) :
    ∀ (m k : Nat), k + m = its.length → ∀ (C : Cx) (a : Act), RS its fr0 H0 n0 Cb Hb nb sz df (below k) C a → wpList P ops Q (ops.toList.drop k) a C.w := by
  intro m
  induction m with
  | zero =>
    intro k hk C a hS
    rw [List.drop_eq_nil_of_le (by omega)]
    exact hQ C a (RS_all hS fun j hj => below_iff.2 (by omega))
  | succ m ih =>
    intro k hk C a hS
    have hkl : k < its.length := by omega
    have hx := List.getElem?_eq_getElem hkl
    have f := hF k _ hx
    have hd : ops.toList.drop k = its[k].o :: ops.toList.drop (k + 1) := by
      have h1 := f.op
      have hk2 : k < ops.toList.length := by omega
      rw [List.getElem?_eq_getElem hk2, Option.some.injEq] at h1
      rw [List.drop_eq_getElem_cons hk2, h1]
    rw [hd]
    refine wpList_step fun K hK => ?_
    have hno : ∀ q, ¬ (q < k) → below k q = false := fun q h => by cases hb : below k q with | true => exact absurd (below_iff.1 hb) h | false => rfl
    refine step_ok hE hG hF hc h0 hnb hsz hS hx (hno k (Nat.lt_irrefl _)) (fun q y hy hq hs => by have := below_iff.1 hs; omega) (fun q y hy hq hs => by rw [below_iff.2 hq] at hs; cases hs) fun C' a' hR => hK _ _ ?_
    refine ih (k + 1) (by omega) C' a' ?_
    have : flip (below k) k = below (k + 1) := by
      funext j
      simp only [flip]
      split
      · rename_i h; subst h; exact (below_iff.2 (Nat.lt_succ_self _)).symm
      · rename_i h
        cases hb : below k j with
        | true => exact (below_iff.2 (by have := below_iff.1 hb; omega)).symm
        | false =>
          cases hb' : below (k + 1) j with
          | false => rfl
          | true =>
            have h1 := below_iff.1 hb'
            rw [below_iff.2 (by omega : j < k)] at hb
            cases hb
    rw [← this]
    exact hR
theorem any_ok (hE : TyOK P E) (hG : ∀ c ∈ E.G, Good P c) (hF : ∀ i x, its[i]? = some x → Fact E ops.toList its [] fr0 H0 n0 ops.toList i x) (hlen : its.length = ops.toList.length) (hc : ∀ (i : Nat) (x : Item), its[i]? = some x → ∀ q, x.c = some q → q) (h0 : ∀ t, (fr0 t).g = []) (hnb : nb ≤ n0)
    (hsz : ∀ o ∈ ops.toList, ∀ d, o.dst = some d → d < sz) (hop : openOk ops.toList its = true) (hQ : ∀ C' a', RS its fr0 H0 n0 Cb Hb nb sz df (fun _ => true) C' a' → Q .normal a' C'.w) :
    ∀ (fuel : Nat) (listed : Array Bool), listed.size = ops.size → (∀ i, listed.getD i false = true → ∀ j, has (getL 0 (ancs ops.toList []) i) j = true → listed.getD j false = true) → ops.size ≤ cnt ops.size (fun j => listed.getD j false) + fuel →
      ∀ (C : Cx) (a : Act), RS its fr0 H0 n0 Cb Hb nb sz df (fun j => listed.getD j false) C a → wpAny P .any ops Q fuel listed a C.w := by
  have hl' : its.length = ops.size := by rw [hlen, Array.length_toList]
  unfold openOk at hop
  rw [Bool.and_eq_true] at hop
  have hedge : ∀ i o, ops[i]? = some o → ∀ e ∈ o.after.toList, Region.binds .any e = true → e.on < i := fun i o ho e he hb => by
    have := edges_of ops.toList 0 hop.1 i o (by simpa using ho) e he hb
    omega
  have hclash := (clash_of its 0 [] hop.2).2
  have hgd : ∀ (listed : Array Bool), listed.size = ops.size → ∀ j, j < ops.size → listed.getD j true = listed.getD j false := fun listed hs j hj => by
    simp [Array.getD_eq_getD_getElem?, Array.getElem?_eq_getElem (show j < listed.size by omega)]
  intro fuel
  induction fuel with
  | zero =>
    intro listed hs hdc hf C a hS
    have hall := cnt_full _ _ (by omega : ops.size ≤ cnt ops.size (fun j => listed.getD j false))
    refine ⟨?_, hQ C a (RS_all hS fun j hj => hall j (by omega))⟩
    unfold Region.ready
    rw [List.filter_eq_nil_iff]
    intro j hj
    have hj : j < ops.size := by simpa using hj
    rw [hgd listed hs j hj, hall j hj]
    simp
  | succ fuel ih =>
    intro listed hs hdc hf C a hS
    refine ⟨fun hr => hQ C a (RS_all hS fun j hj => ?_), fun i hi => ?_⟩
    · have key : ∀ j, j < ops.size → listed.getD j false = true := by
        intro j
        induction j using Nat.strongRecOn with
        | ind j ihj =>
          intro hj
          cases hjl : listed.getD j false with
          | true => rfl
          | false =>
            exfalso
            have ho : ops[j]? = some ops[j] := Array.getElem?_eq_getElem hj
            have : j ∈ Region.ready .any ops listed := by
              unfold Region.ready
              rw [List.mem_filter]
              refine ⟨by simpa using hj, ?_⟩
              rw [hgd listed hs j hj, hjl, ho]
              simp only [Bool.not_false, Option.map_some, Option.getD_some, Bool.true_and]
              rw [Array.all_eq_true']
              intro e he
              cases hb : Region.binds .any e with
              | false => rfl
              | true =>
                have hlt := hedge j _ ho e (by simpa using he) hb
                simp only [Bool.not_true, Bool.false_or]
                exact ihj e.on hlt (by omega)
            rw [hr] at this
            cases this
      exact key j (by omega)
    · unfold Region.ready at hi
      rw [List.mem_filter] at hi
      obtain ⟨hi1, hi2⟩ := hi
      have hi1 : i < ops.size := by simpa using hi1
      have hx := List.getElem?_eq_getElem (show i < its.length by omega)
      have f := hF i _ hx
      have ho : ops[i]? = some its[i].o := by simpa using f.op
      rw [hgd listed hs i hi1, ho] at hi2
      simp only [Option.map_some, Option.getD_some, Bool.and_eq_true, Bool.not_eq_true'] at hi2
      obtain ⟨hSi, haft⟩ := hi2
      have haft' : ∀ e ∈ its[i].o.after.toList, Region.binds .any e = true → listed.getD e.on false = true := by
        intro e he hb
        rw [Array.all_eq_true'] at haft
        have := haft e (by simpa using he)
        rw [hb] at this
        simpa using this
      have hanc : ∀ j, has (getL 0 (ancs ops.toList []) i) j = true → listed.getD j false = true := by
        intro j hj
        obtain ⟨e, he, hb, h⟩ := anc_mem f.op (hedge i _ ho) hj
        have h1 := haft' e he hb
        rcases h with rfl | h
        · exact h1
        · exact hdc _ h1 _ h
      have hst := step_ok (K := wpAny P .any ops Q fuel (listed.setIfInBounds i true)) (Q := Q) hE hG hF hc h0 hnb hsz hS hx hSi (fun k y hy hik hsk => by
          rcases hclash i k _ y hik hx hy with h | h
          · exact h
          · rw [Nat.zero_add, Nat.zero_add] at h
            have := hdc k hsk i h
            rw [hSi] at this; cases this) (fun k y hy hki hsk => by
          rcases hclash k i y _ hki hy hx with h | h
          · exact h
          · rw [Nat.zero_add, Nat.zero_add] at h
            have := hanc k h
            have hsk : listed.getD k false = false := hsk
            rw [hsk] at this; cases this) fun C' a' hR => by
        have e : (fun j => (listed.setIfInBounds i true).getD j false) = flip (fun j => listed.getD j false) i := by
          funext j
          simp only [flip, Array.getD_eq_getD_getElem?, Array.getElem?_setIfInBounds]
          by_cases hj : j = i
          · subst hj; simp [hs, hi1]
          · rw [if_neg (fun h => hj h.symm), if_neg hj]
        have e' : ∀ j, (listed.setIfInBounds i true).getD j false = flip (fun j => listed.getD j false) i j := fun j => congrFun e j
        refine ih (listed.setIfInBounds i true) (by simp [hs]) (fun k hk j hj => ?_) ?_ C' a' (by rw [e]; exact hR)
        · rw [e'] at hk ⊢
          simp only [flip] at hk ⊢
          split
          · rfl
          · by_cases hki : k = i
            · subst hki; exact hanc j hj
            · rw [if_neg hki] at hk; exact hdc k hk j hj
        · rw [e, (cnt_flip hSi ops.size).2 hi1]; omega
      unfold wpOp
      rw [ho]
      simp only
      split
      · rename_i hw; rw [if_pos hw] at hst; exact .inl hst
      · rename_i hw; rw [if_neg hw] at hst; exact hst
theorem FrR_flush {C : Cx} {fr : Fr} {tmps : Array Value} (h : FrR C fr tmps) : FrR C (flush fr) tmps ∧ ∀ t, (flush fr t).g = [] := by
  have key : ∀ t, (flush fr t = fr t ∧ (fr t).g = []) ∨ flush fr t = topS := by
    intro t
    unfold flush
    cases hg : (fr t).g.isEmpty with
    | true => exact .inl ⟨rfl, List.isEmpty_iff.1 hg⟩
    | false => exact .inr rfl
  refine ⟨⟨fun t ht => ?_, fun t ht => ?_⟩, fun t => ?_⟩
  · rcases key t with ⟨h1, h2⟩ | h1
    · rw [h1] at ht ⊢; exact h.slot t ht
    · rw [h1]; exact .inl rfl
  · rcases key t with ⟨h1, h2⟩ | h1
    · rw [h1] at ht; exact h.off t ht
    · rw [h1] at ht; exact absurd (fun e he => by cases he) ht
  · rcases key t with ⟨h1, h2⟩ | h1
    · rw [h1]; exact h2
    · rw [h1]; rfl
theorem region_ok (hm : P.follows .mixedOrders = true) (hE : TyOK P E) (hG : ∀ c ∈ E.G, Good P c) {id : Nat} {draw : Bool} {fr : Fr} {H : Hp} {n : Nat} {K : Fr → Hp → Nat → Prop} {C : Cx} {a : Act} (hsz : ∀ o ∈ ops.toList, ∀ d, o.dst = some d → d < sz)
    (hS : St' Cb Hb nb sz df fr H n C a) (hr : evReg E ops.toList draw (flush fr) H n K) (hQ : ∀ fr' H' n' C' a', K fr' H' n' → St' Cb Hb nb sz df fr' H' n' C' a' → Q .normal a' C'.w) : (Code.region id ops draw).wp P Q a C.w := by
  obtain ⟨g1, g2⟩ := FrR_flush hS.frm
  unfold evReg at hr
  cases ht : tr E ops.toList ops.toList [] (flush fr) H n with
  | none => rw [ht] at hr; exact hr.elim
  | some y =>
    obtain ⟨its, fr', H', n'⟩ := y
    rw [ht] at hr
    simp only at hr
    obtain ⟨t1, t2, t3, t4, t5⟩ := tr_fact _ _ _ _ _ _ _ _ _ ht
    generalize hb : (!draw || openOk ops.toList its) = b at hr
    cases b with
    | false => exact hr.elim
    | true =>
    simp only [cond_true] at hr
    obtain ⟨c1, c2⟩ := allC_of hr
    have hfin : ∀ C' a', RS its (flush fr) H n Cb Hb nb sz df (fun _ => true) C' a' → Q .normal a' C'.w := fun C' a' hR => by
      refine hQ fr' H' n' C' a' c2 ⟨by rw [t3]; exact hR.frm, by rw [t4]; exact hR.inv, fun j hj => ?_, by rw [t4]; exact hR.hist, hR.size, hR.df, ?_⟩
      · cases hp : C'.ρ j with
        | none => rfl
        | some p =>
          have h0 := lo_mono t2 0 its.length (Nat.zero_le _) (Nat.le_refl _)
          rw [t5] at hj
          rcases hR.rho j p hp with h | ⟨k, x, h1, h2, h3, h4⟩
          · have : lo its n 0 = n := rfl
            omega
          · have hk := (List.getElem?_eq_some_iff.1 h2).1
            have h5 := lo_mono t2 (k + 1) its.length (by omega) (Nat.le_refl _)
            have h6 : lo its n (k + 1) = x.r.nid := by simp only [lo, h2]
            omega
      · have h0 := lo_mono t2 0 its.length (Nat.zero_le _) (Nat.le_refl _)
        have : lo its n 0 = n := rfl
        have := hS.nb
        rw [t5]; omega
    cases draw with
    | false =>
      have hR : RS its (flush fr) H n Cb Hb nb sz df (below 0) C a := ⟨by rw [below_zero_F]; exact g1, by rw [below_zero_H]; exact hS.inv, (fun j p hp => by
        rcases Nat.lt_or_ge j n with h | h
        · exact .inl h
        · rw [hS.rho j h] at hp; cases hp), by rw [below_zero_H]; exact hS.hist, hS.size, hS.df⟩
      have := list_ok (Q := Q) hE hG t2 t1 c1 g2 hS.nb hsz hfin its.length 0 (by omega) C a hR
      exact wp_region_list (by simpa using this)
    | true =>
      have hop : openOk ops.toList its = true := by simpa using hb
      refine wp_region_any hm ?_
      have hz : (fun j => (Array.replicate ops.size false).getD j false) = fun _ => false := by
        funext j
        rw [Array.getD_eq_getD_getElem?, Array.getElem?_replicate]
        split <;> rfl
      have hz' : ∀ j, (Array.replicate ops.size false).getD j false = false := fun j => congrFun hz j
      refine any_ok (Q := Q) (C := C.draw) hE hG t2 t1 c1 g2 hS.nb hsz hop hfin ops.size (Array.replicate ops.size false) (by simp) (fun i hi => by rw [hz'] at hi; cases hi) (by omega) a ?_
      rw [hz]
      refine ⟨?_, by rw [runH_none]; exact draw_inv hS.inv, fun j p hp => ?_, ?_, hS.size, hS.df⟩
      · rw [runF_none]
        exact ⟨fun t ht => (g1.slot t ht).imp_right fun ⟨v, h1, h2⟩ => ⟨v, h1, avR_ext (draw_ext (fun _ => False)) (off_none hS.inv) h2⟩, g1.off⟩
      · rcases Nat.lt_or_ge j n with h | h
        · exact .inl h
        · have hp : C.ρ j = some p := hp
          rw [hS.rho j h] at hp; cases hp
      · rw [runH_none]
        have h := hS.hist
        exact ⟨⟨h.ext.os, h.ext.tape, h.ext.output, h.ext.size, h.ext.blk, h.ext.shp, h.ext.frz, h.ext.new, h.ext.vis, h.ext.rho⟩, h.new, h.liv⟩
end
end Hw
end Go.Proofs.Ytmhighcagpbmeaa
