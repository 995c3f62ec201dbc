/- Functions of which is known only what holds of their answers: the answers are there, and are chosen. -/
import Derived.Test.YtfboldbfbmmahaaX24
set_option linter.unusedVariables false
set_option linter.unusedSimpArgs false
namespace Go.Proofs.Ytfboldbfbmmahaa
namespace Hw
open Go
def Lt {α : Type} (v : α) (f : α → Prop) : Prop := f v
def May {R O : Type} (Q : R → Prop) (o : R → O) (f : (O → Prop) → Prop) : Prop := ∃ r, Q r ∧ ∀ X, X (o r) → f X
section
variable {R O : Type} {Q : R → Prop} {o : R → O}
theorem May.chk {c : Prop} {A : (O → Prop) → Prop} (h : c) (h2 : c → May Q o A) : May Q o (fun X => And c (A X)) := by
  obtain ⟨r, q, k⟩ := h2 h
  exact ⟨r, q, fun X hX => ⟨h, k X hX⟩⟩
theorem May.iff {c : Bool} {p : Prop} {A B : (O → Prop) → Prop} (hc : c = true ↔ p) (h1 : p → May Q o A) (h2 : ¬p → May Q o B) : May Q o (fun X => And (Imp (c = true) (A X)) (Imp (c = false) (B X))) := by
  cases c with
  | true =>
    obtain ⟨r, q, k⟩ := h1 (hc.1 rfl)
    exact ⟨r, q, fun X hX => ⟨fun _ => k X hX, fun h => by cases h⟩⟩
  | false =>
    obtain ⟨r, q, k⟩ := h2 fun h => by cases hc.2 h
    exact ⟨r, q, fun X hX => ⟨(fun h => by cases h), fun _ => k X hX⟩⟩
theorem May.alt {c : Bool} {p : Prop} {A B : (O → Prop) → Prop} (hc : c = true ↔ p) (h1 : p → May Q o A) (h2 : ¬p → May Q o B) : May Q o (fun X => Or (A X) (B X)) := by
  cases c with
  | true =>
    obtain ⟨r, q, k⟩ := h1 (hc.1 rfl)
    exact ⟨r, q, fun X hX => .inl (k X hX)⟩
  | false =>
    obtain ⟨r, q, k⟩ := h2 fun h => by cases hc.2 h
    exact ⟨r, q, fun X hX => .inr (k X hX)⟩
theorem May.no {A : (O → Prop) → Prop} (h : False) : May Q o A := h.elim
theorem May.lt {α : Type} {v : α} {A : α → (O → Prop) → Prop} (h : ∀ x, x = v → May Q o (A x)) : May Q o (fun X => Lt v (fun x => A x X)) := h v rfl
theorem May.lq {α : Type} {v : α} {A : α → (O → Prop) → Prop} (q : α → Prop) (hq : q v) (h : ∀ x, q x → May Q o (A x)) : May Q o (fun X => Lt v (fun x => A x X)) := h v hq
theorem May.lqe {α : Type} {v : α} {A : α → (O → Prop) → Prop} (q : α → Prop) (hq : q v) (h : ∀ x, x = v → q x → May Q o (A x)) : May Q o (fun X => Lt v (fun x => A x X)) := h v rfl hq
theorem May.lw {t : Int} {A : Int → (O → Prop) → Prop} (hb : -9223372036854775808 ≤ t ∧ t ≤ 9223372036854775807) (h : ∀ x, x = t → May Q o (A x)) : May Q o (fun X => Lt (wrap t) (fun x => A x X)) := h _ (wrap_id hb.1 hb.2)
theorem May.lwi {t : Int} {A : Int → (O → Prop) → Prop} (h : ∀ x, (-9223372036854775808 ≤ t ∧ t ≤ 9223372036854775807 → x = t) → May Q o (A x)) : May Q o (fun X => Lt (wrap t) (fun x => A x X)) := h _ fun hb => wrap_id hb.1 hb.2
theorem May.ld {a n : Int} {A : Int → (O → Prop) → Prop} (hb : 0 ≤ a ∧ a ≤ 9223372036854775807 ∧ 0 < n) (h : ∀ x, (x = a / n ∧ 0 ≤ x ∧ x ≤ a) → May Q o (A x)) : May Q o (fun X => Lt (wrap (a.tdiv n)) (fun x => A x X)) := by
  refine h _ ?_
  rw [Int.tdiv_eq_ediv_of_nonneg hb.1]
  have h0 : wrap (a / n) = a / n := ?_
  · rw [h0]
    exact ⟨rfl, Int.ediv_nonneg hb.1 (Int.le_of_lt hb.2.2), Int.ediv_le_self _ hb.1⟩
  have h1 : 0 ≤ a / n := Int.ediv_nonneg hb.1 (Int.le_of_lt hb.2.2)
  have h2 : a / n ≤ a := Int.ediv_le_self _ hb.1
  exact wrap_id (by omega) (by omega)
theorem May.lm {a n : Int} {A : Int → (O → Prop) → Prop} (hb : 0 ≤ a) (h : ∀ x, (x = a % n ∧ 0 ≤ x ∧ (0 < n → x < n)) → May Q o (A x)) : May Q o (fun X => Lt (a.tmod n) (fun x => A x X)) := h _ ⟨Int.tmod_eq_emod_of_nonneg hb, tmod_1 hb, tmod_2⟩
theorem May.lb {α : Type} {c : Bool} {p : Prop} {a b : α} {A : α → (O → Prop) → Prop} (hc : c = true ↔ p) (h : ∀ x, (p ∧ x = a ∨ ¬p ∧ x = b) → May Q o (A x)) : May Q o (fun X => Lt (bif c then a else b) (fun x => A x X)) := by
  refine h _ ?_
  cases c with
  | true => exact .inl ⟨hc.1 rfl, rfl⟩
  | false => exact .inr ⟨fun h => (by cases hc.2 h), rfl⟩
theorem May.lp {c : Bool} {p : Prop} {A : Bool → (O → Prop) → Prop} (hc : c = true ↔ p) (h : ∀ x : Bool, (x = true ↔ p) → May Q o (A x)) : May Q o (fun X => Lt c (fun x => A x X)) := h _ hc
end
theorem B.dec {p : Prop} [Decidable p] : decide p = true ↔ p := decide_eq_true_iff
theorem B.eq {a b : Int} : (a == b) = true ↔ a = b := beq_iff_eq
theorem B.ne {a b : Int} : (a != b) = true ↔ ¬ a = b := bne_iff_ne
theorem B.beq {a b : Bool} : (a == b) = true ↔ a = b := beq_iff_eq
theorem B.nbeq {a b : Nat} : (Nat.beq a b) = true ↔ a = b := ⟨Nat.eq_of_beq_eq_true, fun h => by rw [h]; exact Nat.beq_refl b⟩
theorem B.not {c : Bool} {p : Prop} (h : c = true ↔ p) : (!c) = true ↔ ¬ p := by
  rw [← h]
  cases c <;> simp
theorem B.and {c d : Bool} {p q : Prop} (h : c = true ↔ p) (h' : d = true ↔ q) : (bif c then d else false) = true ↔ p ∧ q := by
  rw [← h, ← h']
  cases c <;> simp
theorem B.or {c d : Bool} {p q : Prop} (h : c = true ↔ p) (h' : d = true ↔ q) : (bif c then true else d) = true ↔ p ∨ q := by
  rw [← h, ← h']
  cases c <;> simp
theorem B.ite {c d e : Bool} {p q r : Prop} (h : c = true ↔ p) (h' : d = true ↔ q) (h'' : e = true ↔ r) : (bif c then d else e) = true ↔ (p ∧ q ∨ ¬p ∧ r) := by
  rw [← h, ← h', ← h'']
  cases c <;> simp
theorem B.amp {c d : Bool} {p q : Prop} (h : c = true ↔ p) (h' : d = true ↔ q) : (c && d) = true ↔ p ∧ q := by
  rw [← h, ← h']
  cases c <;> simp
theorem B.neg {c : Bool} {p : Prop} (h : c = true ↔ p) (hc : c = false) : ¬ p := fun hp => by rw [h.2 hp] at hc; cases hc
theorem B.t : true = true ↔ True := by simp
theorem B.f : false = true ↔ False := by simp
theorem mayS {σ R O : Type} {P : σ → Prop} {Q : σ → R → Prop} {o : σ → R → O} {f : σ → (O → Prop) → Prop} (d : R) (x : ∀ s, P s → May (Q s) (o s) (f s)) :
    ∃ S : σ → R, ∀ s, P s → Q s (S s) ∧ ∀ X, X (o s (S s)) → f s X := by
  classical
  refine ⟨fun s => if h : P s then Classical.choose (x s h) else d, fun s h => ?_⟩
  simp only [dif_pos h]
  exact Classical.choose_spec (x s h)
def lpq {σ R O : Type} (P : σ → Prop) (M : σ → Nat) (Q : σ → R → Prop) (o : σ → R → O) (s : σ) : σ ⊕ R → Prop
  | .inl y => P y ∧ M y < M s ∧ (∀ r, Q y r → Q s r) ∧ ∀ r, o y r = o s r
  | .inr r => Q s r
def lpo {σ R O : Type} (o : σ → R → O) (s : σ) : σ ⊕ R → σ ⊕ O
  | .inl y => .inl y
  | .inr r => .inr (o s r)
def lpx {σ O : Type} (P : σ → Prop) (M : σ → Nat) (out : σ → O) (s : σ) : σ ⊕ O → Prop
  | .inl y => And (P y) (And (M y < M s) (out y = out s))
  | .inr w => out s = w
def runS {σ R : Type} (step : σ → σ ⊕ R) (d : R) : Nat → σ → R
  | 0, _ => d
  | n + 1, s => match step s with
    | .inl y => runS step d n y
    | .inr r => r
theorem loopS {σ R O : Type} {P : σ → Prop} {M : σ → Nat} {Q : σ → R → Prop} {o : σ → R → O} {f : σ → (σ ⊕ O → Prop) → Prop} (d : R) (x : ∀ s, P s → May (lpq P M Q o s) (lpo o s) (f s)) :
    ∃ S : σ → R, ∀ s, P s → Q s (S s) ∧ f s (lpx P M (fun s => o s (S s)) s) := by
  classical
  obtain ⟨step, hstep⟩ : ∃ step : σ → σ ⊕ R, ∀ s, P s → lpq P M Q o s (step s) ∧ ∀ X, X (lpo o s (step s)) → f s X := mayS (.inr d) x
  have e : ∀ n m s, P s → M s < n → M s < m → runS step d n s = runS step d m s := by
    intro n
    induction n with
    | zero => intro m s _ h; omega
    | succ n ih =>
      intro m s hs h1 h2
      cases m with
      | zero => omega
      | succ m =>
        simp only [runS]
        have h3 := (hstep s hs).1
        cases hst : step s with
        | inr r => rfl
        | inl y =>
          rw [hst] at h3
          exact ih m y h3.1 (by have := h3.2.1; omega) (by have := h3.2.1; omega)
  have q : ∀ n s, P s → M s < n → Q s (runS step d n s) := by
    intro n
    induction n with
    | zero => intro s _ h; omega
    | succ n ih =>
      intro s hs h1
      simp only [runS]
      have h3 := (hstep s hs).1
      cases hst : step s with
      | inr r => rw [hst] at h3; exact h3
      | inl y =>
        rw [hst] at h3
        exact h3.2.2.1 _ (ih y h3.1 (by have := h3.2.1; omega))
  refine ⟨fun s => runS step d (M s + 1) s, fun s hs => ⟨q _ s hs (Nat.lt_succ_self _), ?_⟩⟩
  obtain ⟨h1, h2⟩ := hstep s hs
  refine h2 _ ?_
  cases hst : step s with
  | inr r =>
    simp only [lpo, lpx, runS, hst]
  | inl y =>
    rw [hst] at h1
    obtain ⟨a, b, c, d'⟩ := h1
    simp only [lpo, lpx]
    refine ⟨a, b, ?_⟩
    rw [d' _]
    congr 1
    have : runS step d (M s + 1) s = runS step d (M s) y := by simp only [runS, hst]
    rw [this]
    exact e _ _ y a (Nat.lt_succ_self _) b
theorem consC' {ct : List LCtr} {sz : Nat} {c : Code} {bs : List Code} (hb : (cutsOf c).filter (fun b => (lcOf ct (firstR b)).isSome) = bs) (h : ∀ b ∈ bs, ∀ l, lcOf ct (firstR b) = some l → CGood Try.prog sz l b) : ∀ b ∈ cutsOf c, ∀ l, lcOf ct (firstR b) = some l → CGood Try.prog sz l b := fun b hb' l hl =>
  h b (by rw [← hb]; exact List.mem_filter.2 ⟨hb', by rw [hl]; rfl⟩) l hl
theorem noC {ct : List LCtr} {sz : Nat} : ∀ b ∈ ([] : List Code), ∀ l, lcOf ct (firstR b) = some l → CGood Try.prog sz l b := fun b hb => by cases hb
theorem addC {ct : List LCtr} {sz : Nat} {b : Code} {bs : List Code} {l : LCtr} (hl : lcOf ct (firstR b) = some l) (h : CGood Try.prog sz l b) (r : ∀ b ∈ bs, ∀ l, lcOf ct (firstR b) = some l → CGood Try.prog sz l b) : ∀ b' ∈ b :: bs, ∀ l, lcOf ct (firstR b') = some l → CGood Try.prog sz l b' := fun b' hb l' hl' => by
  rcases List.mem_cons.1 hb with rfl | hb
  · rw [hl] at hl'
    cases hl'
    exact h
  · exact r b' hb l' hl'
end Hw
end Go.Proofs.Ytfboldbfbmmahaa
