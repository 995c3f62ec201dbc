/- Regions: what the evaluator says of one holds in every order that the model allows. -/
import Derived.Test.YtmhighcagpbmeaaX15
set_option linter.unusedVariables false
set_option linter.unusedSimpArgs false
namespace Go.Proofs.Ytmhighcagpbmeaa
namespace Hw
open Go

def runF : List Item → (Nat → Bool) → Nat → Fr → Fr
  | [], _, _, fr => fr
  | x :: r, S, k, fr => runF r S (k + 1) (if S k = true then fr.put x.o.dst ⟨x.π, x.r.v⟩ else fr)
def runH : List Item → (Nat → Bool) → Nat → Hp → Hp
  | [], _, _, H => H
  | x :: r, S, k, H => runH r S (k + 1) (if S k = true then wr H x.r.ws else H)
theorem put_ne {fr : Fr} {d : Option Nat} {s : Slot} {t : Nat} (h : d ≠ some t) : fr.put d s t = fr t := by
  cases d with
  | none => rfl
  | some d => exact upd_ne fun e => h (by rw [e])
theorem put_eq {fr : Fr} {s : Slot} {t : Nat} : fr.put (some t) s t = s := upd_self _ _ _
theorem wr_on : ∀ (ws : List (Nat × Blk)) (H G : Hp) (j : Nat), j ∈ ws.map (·.1) ∨ H j = G j → wr H ws j = wr G ws j
  | [], H, G, j, h => by
    rcases h with h | h
    · cases h
    · exact h
  | (i, b) :: r, H, G, j, h => by
    refine wr_on r (upd H i b) (upd G i b) j ?_
    by_cases hj : j = i
    · subst hj; exact .inr (by rw [upd_self, upd_self])
    · rcases h with h | h
      · simp only [List.map_cons, List.mem_cons] at h
        rcases h with h | h
        · exact absurd h hj
        · exact .inl h
      · exact .inr (by rw [upd_ne hj, upd_ne hj]; exact h)
theorem runF_cong {S S' : Nat → Bool} {t : Nat} : ∀ (its : List Item) (k : Nat) (fr fr' : Fr), (∀ q x, its[q]? = some x → S (k + q) ≠ S' (k + q) → x.o.dst ≠ some t) → fr t = fr' t → runF its S k fr t = runF its S' k fr' t
  | [], _, _, _, _, h => h
  | x :: r, k, fr, fr', hd, h => by
    refine runF_cong r (k + 1) _ _ (fun q y hy hn => hd (q + 1) y (by simpa using hy) (by rw [show k + (q + 1) = k + 1 + q by omega]; exact hn)) ?_
    have h0 := hd 0 x rfl
    rw [Nat.add_zero] at h0
    cases hs : S k <;> cases hs' : S' k
    · simpa using h
    · have := h0 (by rw [hs, hs']; simp)
      simp only [Bool.false_eq_true, if_false, if_true]; rw [put_ne this]; exact h
    · have := h0 (by rw [hs, hs']; simp)
      simp only [Bool.false_eq_true, if_false, if_true]; rw [put_ne this]; exact h
    · simp only [if_true]
      by_cases hd : x.o.dst = some t
      · rw [hd, put_eq, put_eq]
      · rw [put_ne hd, put_ne hd]; exact h
theorem runH_cong {S S' : Nat → Bool} {j : Nat} : ∀ (its : List Item) (k : Nat) (H H' : Hp), (∀ q x, its[q]? = some x → S (k + q) ≠ S' (k + q) → j ∉ x.ids) → H j = H' j → runH its S k H j = runH its S' k H' j
  | [], _, _, _, _, h => h
  | x :: r, k, fr, fr', hd, h => by
    refine runH_cong r (k + 1) _ _ (fun q y hy hn => hd (q + 1) y (by simpa using hy) (by rw [show k + (q + 1) = k + 1 + q by omega]; exact hn)) ?_
    have h0 := hd 0 x rfl
    rw [Nat.add_zero] at h0
    cases hs : S k <;> cases hs' : S' k
    · simpa using h
    · have := h0 (by rw [hs, hs']; simp)
      simp only [Bool.false_eq_true, if_false, if_true]; rw [wr_off _ _ _ this]; exact h
    · have := h0 (by rw [hs, hs']; simp)
      simp only [Bool.false_eq_true, if_false, if_true]; rw [wr_off _ _ _ this]; exact h
    · simp only [if_true]
      exact wr_on _ _ _ _ (.inr h)
theorem runF_none : ∀ (r : List Item) (k : Nat) (fr : Fr), runF r (fun _ => false) k fr = fr
  | [], _, _ => rfl
  | x :: r, k, fr => runF_none r (k + 1) fr
theorem runH_none : ∀ (r : List Item) (k : Nat) (H : Hp), runH r (fun _ => false) k H = H
  | [], _, _ => rfl
  | x :: r, k, H => runH_none r (k + 1) H
theorem runF_last {S : Nat → Bool} {t : Nat} (its : List Item) (k i : Nat) (fr : Fr) (x : Item) (hx : its[i]? = some x) (hS : S (k + i) = true) (hd : x.o.dst = some t) (hl : ∀ q y, i < q → its[q]? = some y → S (k + q) = true → y.o.dst ≠ some t) : runF its S k fr t = ⟨x.π, x.r.v⟩ := by
  induction its generalizing k i fr with
  | nil => simp at hx
  | cons y r ih =>
    cases i with
    | zero =>
      simp only [List.getElem?_cons_zero, Option.some.injEq] at hx
      subst hx
      rw [Nat.add_zero] at hS
      have : runF r S (k + 1) (fr.put y.o.dst ⟨y.π, y.r.v⟩) t = runF r (fun _ => false) (k + 1) (fr.put y.o.dst ⟨y.π, y.r.v⟩) t :=
        runF_cong r (k + 1) _ _ (fun q z hz hn => hl (q + 1) z (by omega) (by simpa using hz) (by
          rw [show k + (q + 1) = k + 1 + q by omega]
          cases hs : S (k + 1 + q)
          · exact absurd hs hn
          · rfl)) rfl
      rw [runF, if_pos hS, this, runF_none, hd, put_eq]
    | succ i =>
      rw [runF]
      exact ih (k + 1) i _ (by simpa using hx) (by rw [show k + 1 + i = k + (i + 1) by omega]; exact hS) (fun q z hq hz hs => hl (q + 1) z (by omega) (by simpa using hz) (by rw [show k + (q + 1) = k + 1 + q by omega]; exact hs))
theorem runH_last {S : Nat → Bool} {j : Nat} (its : List Item) (k i : Nat) (H G : Hp) (x : Item) (hx : its[i]? = some x) (hS : S (k + i) = true) (hd : j ∈ x.ids) (hl : ∀ q y, i < q → its[q]? = some y → S (k + q) = true → j ∉ y.ids) : runH its S k H j = wr G x.r.ws j := by
  induction its generalizing k i H with
  | nil => simp at hx
  | cons y r ih =>
    cases i with
    | zero =>
      simp only [List.getElem?_cons_zero, Option.some.injEq] at hx
      subst hx
      rw [Nat.add_zero] at hS
      have : runH r S (k + 1) (wr H y.r.ws) j = runH r (fun _ => false) (k + 1) (wr H y.r.ws) j :=
        runH_cong r (k + 1) _ _ (fun q z hz hn => hl (q + 1) z (by omega) (by simpa using hz) (by
          rw [show k + (q + 1) = k + 1 + q by omega]
          cases hs : S (k + 1 + q)
          · exact absurd hs hn
          · rfl)) rfl
      rw [runH, if_pos hS, this, runH_none]
      exact wr_on _ _ _ _ (.inl hd)
    | succ i =>
      rw [runH]
      exact ih (k + 1) i _ (by simpa using hx) (by rw [show k + 1 + i = k + (i + 1) by omega]; exact hS) (fun q z hq hz hs => hl (q + 1) z (by omega) (by simpa using hz) (by rw [show k + (q + 1) = k + 1 + q by omega]; exact hs))
theorem runF_shift : ∀ (its : List Item) (S : Nat → Bool) (k : Nat) (fr : Fr), runF its S (k + 1) fr = runF its (fun j => S (j + 1)) k fr
  | [], _, _, _ => rfl
  | x :: r, S, k, fr => by rw [runF, runF, runF_shift r S (k + 1)]
theorem runH_shift : ∀ (its : List Item) (S : Nat → Bool) (k : Nat) (H : Hp), runH its S (k + 1) H = runH its (fun j => S (j + 1)) k H
  | [], _, _, _ => rfl
  | x :: r, S, k, H => by rw [runH, runH, runH_shift r S (k + 1)]
def below (i : Nat) : Nat → Bool := fun j => Nat.blt j i
theorem below_iff {i j : Nat} : below i j = true ↔ j < i := ⟨fun h => Nat.le_of_ble_eq_true h, fun h => Nat.ble_eq_true_of_le h⟩
theorem below_succ (i : Nat) : (fun j => below (i + 1) (j + 1)) = below i := rfl
def lo (its : List Item) (n : Nat) : Nat → Nat
  | 0 => n
  | k + 1 => match its[k]? with
    | some x => x.r.nid
    | none => n

structure Fact (E : Env) (ops : List Oper) (its : List Item) (seen : List Nat) (fr : Fr) (H : Hp) (n : Nat) (l : List Oper) (i : Nat) (x : Item) : Prop where
  op : l[i]? = some x.o
  g : guardOf ops (runF its (below i) 0 fr) x.o = some x.π
  ev : (evOp E x.o x.π (runF its (below i) 0 fr) (runH its (below i) 0 H) (lo its n i)).bind (calm x.π (runF its (below i) 0 fr) (runH its (below i) 0 H)) = some x.r
  c : x.c = chkOf (runF its (below i) 0 fr) x.π x.r.chk
  mono : lo its n i ≤ x.r.nid
  ws : wsOk (runH its (below i) 0 H) (lo its n i) x.r.nid x.r.ws = true
  was : ∀ e ∈ x.π, e.1 ∈ seen ∨ ∃ q y, q < i ∧ its[q]? = some y ∧ y.o.dst = some e.1
  dst : ∀ d, x.o.dst = some d → d ∉ seen ∧ ∀ q y, q < i → its[q]? = some y → y.o.dst ≠ some d
theorem below_zero_F (its : List Item) (k : Nat) (fr : Fr) : runF its (below 0) k fr = fr := by
  induction its generalizing k fr with
  | nil => rfl
  | cons x r ih => rw [runF, if_neg (by simp [below, Nat.blt, Nat.ble]), ih]
theorem below_zero_H (its : List Item) (k : Nat) (H : Hp) : runH its (below 0) k H = H := by
  induction its generalizing k H with
  | nil => rfl
  | cons x r ih => rw [runH, if_neg (by simp [below, Nat.blt, Nat.ble]), ih]
theorem tr_fact {E : Env} {ops : List Oper} : ∀ (l : List Oper) (seen : List Nat) (fr : Fr) (H : Hp) (n : Nat) (its : List Item) (fr' : Fr) (H' : Hp) (n' : Nat), tr E ops l seen fr H n = some (its, fr', H', n') →
    its.length = l.length ∧ (∀ i x, its[i]? = some x → Fact E ops its seen fr H n l i x) ∧ fr' = runF its (fun _ => true) 0 fr ∧ H' = runH its (fun _ => true) 0 H ∧ n' = lo its n its.length
  | [], seen, fr, H, n, its, fr', H', n', h => by
    simp only [tr, Option.some.injEq, Prod.mk.injEq] at h
    obtain ⟨rfl, rfl, rfl, rfl⟩ := h
    exact ⟨rfl, fun i x hx => by simp at hx, rfl, rfl, rfl⟩
  | o :: l, seen, fr, H, n, its, fr', H', n', h => by
    rw [tr] at h
    cases hg : guardOf ops fr o with
    | none => rw [hg] at h; cases h
    | some π =>
      rw [hg] at h
      simp only [Option.bind_some] at h
      cases he : (evOp E o π fr H n).bind (calm π fr H) with
      | none => rw [he] at h; cases h
      | some r =>
        rw [he] at h
        simp only [Option.bind_some] at h
        generalize hb : (Nat.ble n r.nid && wsOk H n r.nid r.ws && π.all (fun e => memN e.1 seen) && (match o.dst with
          | some d => !memN d seen
          | none => true)) = b at h
        cases b with
        | false => cases h
        | true =>
          simp only [cond_true] at h
          simp only [Bool.and_eq_true] at hb
          obtain ⟨⟨⟨b1, b2⟩, b4⟩, b5⟩ := hb
          cases ht : tr E ops l (List.append o.dst.toList seen) (fr.put o.dst ⟨π, r.v⟩) (wr H r.ws) r.nid with
          | none => rw [ht] at h; cases h
          | some y =>
            obtain ⟨its', fr1, H1, n1⟩ := y
            rw [ht] at h
            simp only [Option.map_some, Option.some.injEq, Prod.mk.injEq] at h
            obtain ⟨rfl, rfl, rfl, rfl⟩ := h
            obtain ⟨i1, i2, i3, i4, i5⟩ := tr_fact l _ _ _ _ _ _ _ _ ht
            have hlo : ∀ k, lo (⟨o, π, r, chkOf fr π r.chk⟩ :: its') n (k + 1) = lo its' r.nid k ∨ its'.length < k := by
              intro k
              cases k with
              | zero => exact .inl rfl
              | succ k =>
                simp only [lo, List.getElem?_cons_succ]
                cases hk : its'[k]? with
                | some x => exact .inl rfl
                | none => rw [List.getElem?_eq_none_iff] at hk; exact .inr (by omega)
            refine ⟨by simp [i1], fun i x hx => ?_, ?_, ?_, ?_⟩
            · cases i with
              | zero =>
                simp only [List.getElem?_cons_zero, Option.some.injEq] at hx
                subst hx
                refine ⟨rfl, ?_, ?_, ?_, Nat.le_of_ble_eq_true b1, ?_, fun e he' => .inl (memN_iff.1 (List.all_eq_true.1 b4 e he')), fun d hd => ⟨?_, fun q y hq => by omega⟩⟩
                · rw [below_zero_F]; exact hg
                · rw [below_zero_F, below_zero_H]; exact he
                · rw [below_zero_F]
                · rw [below_zero_H]; exact b2
                · simp only at hd
                  rw [hd] at b5
                  intro hm
                  have b5' : (!memN d seen) = true := b5
                  rw [memN_iff.2 hm] at b5'
                  cases b5'
              | succ i =>
                simp only [List.getElem?_cons_succ] at hx
                have f := i2 i x hx
                have eF : runF (⟨o, π, r, chkOf fr π r.chk⟩ :: its') (below (i + 1)) 0 fr = runF its' (below i) 0 (fr.put o.dst ⟨π, r.v⟩) := by
                  rw [runF, if_pos (below_iff.2 (by omega)), runF_shift]; rfl
                have eH : runH (⟨o, π, r, chkOf fr π r.chk⟩ :: its') (below (i + 1)) 0 H = runH its' (below i) 0 (wr H r.ws) := by
                  rw [runH, if_pos (below_iff.2 (by omega)), runH_shift]; rfl
                have hil : i < its'.length := (List.getElem?_eq_some_iff.1 hx).1
                have eL : lo (⟨o, π, r, chkOf fr π r.chk⟩ :: its') n (i + 1) = lo its' r.nid i := by
                  rcases hlo i with h | h
                  · exact h
                  · omega
                refine ⟨by simpa using f.op, by rw [eF]; exact f.g, by rw [eF, eH, eL]; exact f.ev, by rw [eF]; exact f.c, by rw [eL]; exact f.mono, by rw [eH, eL]; exact f.ws, fun e he' => ?_, fun d hd => ?_⟩
                · rcases f.was e he' with h | ⟨q, y, h1, h2, h3⟩
                  · rcases List.mem_append.1 (show e.1 ∈ o.dst.toList ++ seen from h) with h | h
                    · refine .inr ⟨0, _, by omega, rfl, ?_⟩
                      simpa using h
                    · exact .inl h
                  · exact .inr ⟨q + 1, y, by omega, by simpa using h2, h3⟩
                · obtain ⟨d1, d2⟩ := f.dst d hd
                  have d1' : d ∉ o.dst.toList ++ seen := d1
                  rw [List.mem_append, not_or] at d1'
                  refine ⟨d1'.2, fun q y hq hy => ?_⟩
                  cases q with
                  | zero =>
                    simp only [List.getElem?_cons_zero, Option.some.injEq] at hy
                    subst hy
                    intro hh
                    exact d1'.1 (by simpa using hh)
                  | succ q => exact d2 q y (by omega) (by simpa using hy)
            · rw [i3, runF, if_pos rfl, runF_shift]
            · rw [i4, runH, if_pos rfl, runH_shift]
            · rw [i5, List.length_cons]
              rcases hlo its'.length with h | h
              · exact h.symm
              · omega
theorem allC_of {its : List Item} {p : Prop} (h : allC its p) : (∀ (i : Nat) (x : Item), its[i]? = some x → ∀ q, x.c = some q → q) ∧ p := by
  induction its with
  | nil => exact ⟨fun i x hx => by simp at hx, h⟩
  | cons y its ih =>
    unfold allC at h
    cases hc : y.c with
    | none =>
      rw [hc] at h
      obtain ⟨h1, h2⟩ := ih h
      refine ⟨fun i x hx q hq => ?_, h2⟩
      cases i with
      | zero => simp only [List.getElem?_cons_zero, Option.some.injEq] at hx; subst hx; rw [hc] at hq; cases hq
      | succ i => exact h1 i x (by simpa using hx) q hq
    | some c =>
      rw [hc] at h
      obtain ⟨h1, h2⟩ := ih h.2
      refine ⟨fun i x hx q hq => ?_, h2⟩
      cases i with
      | zero => simp only [List.getElem?_cons_zero, Option.some.injEq] at hx; subst hx; rw [hc] at hq; cases hq; exact h.1
      | succ i => exact h1 i x (by simpa using hx) q hq
end Hw
end Go.Proofs.Ytmhighcagpbmeaa
