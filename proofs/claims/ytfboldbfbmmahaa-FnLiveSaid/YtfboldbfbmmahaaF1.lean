/- Laws of states, 2: made by gen.py. -/
import Derived.Test.YtfboldbfbmmahaaF0
set_option linter.unusedVariables false
set_option linter.unusedSimpArgs false
set_option maxRecDepth 100000
set_option maxHeartbeats 100000
namespace Go.Proofs.Ytfboldbfbmmahaa
namespace Hw
open Go
attribute [local irreducible] evFn evBody wrap wxor
/-- What became of a packet, by its number. -/
abbrev GotQ (s : St) (n r : Int) : Prop := (StOk s → 1 ≤ n → n ≤ 8 → r = s.got.getD (n - 1).toNat 0) ∧ (¬(StOk s ∧ 1 ≤ n ∧ n ≤ 8) → r = 0)
def entryOf (k : Nat) : Int := if k = 113 then 1 else if k = 114 then 2 else 0
theorem fateBack {n : Int} (h0 : 0 ≤ n) (h1 : n ≤ 2) : entryOf (impl_fateOf.S n).1 = n := by
  have : n = 0 ∨ n = 1 ∨ n = 2 := by omega
  rcases this with rfl | rfl | rfl <;> rfl
theorem got_rng {s : St} (h : StOk s) {n : Int} (h0 : 1 ≤ n) (h1 : n ≤ 8) : 0 ≤ s.got.getD (n - 1).toNat 0 ∧ s.got.getD (n - 1).toNat 0 ≤ 2 := h.2.2.2.2.2.2.2.1 _ (by have := h.2.2.2.2.2.1; omega)
/-- The numbers of what is not settled, below one. -/
def lives (l : List Bool) : Nat → List Int
  | 0 => []
  | k + 1 => lives l k ++ (if l.getD k false = true then [(k : Int) + 1] else [])
theorem lives_t {l : List Bool} {i j : Int} (hj : j = i + 1) (h0 : 0 ≤ i) (h : l.getD i.toNat false = true) : lives l i.toNat ++ [i + 1] = lives l j.toNat := by
  have : j.toNat = i.toNat + 1 := by omega
  rw [this, lives, if_pos h, show ((i.toNat : Int)) = i by omega]
theorem lives_f {l : List Bool} {i j : Int} (hj : j = i + 1) (h0 : 0 ≤ i) (h : ¬ l.getD i.toNat false = true) : lives l i.toNat = lives l j.toNat := by
  have : j.toNat = i.toNat + 1 := by omega
  rw [this, lives, if_neg h, List.append_nil]
theorem lives_len {l : List Bool} : ∀ k, (lives l k).length ≤ k
  | 0 => Nat.le_refl 0
  | k + 1 => by
    have := lives_len (l := l) k
    rw [lives]
    split <;> simp only [List.length_append, List.length_cons, List.length_nil] <;> omega
theorem lives_pre {l : List Bool} {k : Nat} : ∀ {n : Nat}, k ≤ n → ∃ m, lives l n = lives l k ++ m := by
  intro n h
  induction n with
  | zero => exact ⟨[], by rw [show k = 0 by omega]; rfl⟩
  | succ n ih =>
    rcases Nat.lt_or_ge n k with h' | h'
    · exact ⟨[], by rw [show k = n + 1 by omega, List.append_nil]⟩
    · obtain ⟨m, hm⟩ := ih h'
      exact ⟨_, by rw [lives, hm, List.append_assoc]⟩
/-- The next one that is told. -/
theorem lives_get {l : List Bool} {i : Int} {n : Nat} (h0 : 0 ≤ i) (hi : i < (n : Int)) (h : l.getD i.toNat false = true) : (lives l i.toNat).length < (lives l n).length ∧ (lives l n).getD (lives l i.toNat).length 0 = i + 1 := by
  obtain ⟨m, hm⟩ := lives_pre (l := l) (k := i.toNat + 1) (n := n) (by omega)
  rw [lives, if_pos h, List.append_assoc] at hm
  rw [hm]
  refine ⟨by simp only [List.length_append, List.length_cons, List.length_nil]; omega, ?_⟩
  simp only [List.getD_eq_getElem?_getD]
  rw [List.getElem?_append_right (Nat.le_refl _), Nat.sub_self]
  simp
  omega
theorem ints_eq {a b : List Int} (hl : a.length = b.length) (h : ∀ k, k < a.length → a.getD k 0 = b.getD k 0) : a = b := by
  refine List.ext_getElem hl fun k h1 h2 => ?_
  have := h k h1
  simpa [List.getD_eq_getElem?_getD, List.getElem?_eq_getElem h1, List.getElem?_eq_getElem h2] using this
/-- It is there: sent, and not settled. -/
abbrev HasP (s : St) (p : Pkt) : Prop := StOk s ∧ (1 ≤ p.seq ∧ p.seq ≤ (s.sent.length : Int)) ∧ s.sent.getD (p.seq - 1).toNat zPkt = p ∧ s.live.getD (p.seq - 1).toNat false = true
theorem stL {s : St} (h : StOk s) : s.sent.length ≤ 8 ∧ s.live.length = s.sent.length ∧ s.back.length = s.sent.length ∧ s.got.length = 8 := ⟨h.2.2.1, h.2.2.2.1, h.2.2.2.2.1, h.2.2.2.2.2.1⟩
theorem ints_ne {a b : List Int} {i : Int} (h : ¬ a.getD i.toNat 0 = b.getD i.toNat 0) : ¬ a = b := fun e => h (by rw [e])
theorem ints_eq' {a b : List Int} {i : Int} (hl : (a.length : Int) = (b.length : Int)) (hi : ¬ i < (a.length : Int)) (h : ∀ k : Nat, (k : Int) < i → a.getD k 0 = b.getD k 0) : a = b := ints_eq (by omega) fun k hk => h k (by omega)
theorem step_eq {a b : List Int} {i j : Int} (hj : j = i + 1) (h0 : 0 ≤ i) (h : ∀ k : Nat, (k : Int) < i → a.getD k 0 = b.getD k 0) (he : a.getD i.toNat 0 = b.getD i.toNat 0) : ∀ k : Nat, (k : Int) < j → a.getD k 0 = b.getD k 0 := fun k hk => by
  rcases Int.lt_or_le k i with h1 | h1
  · exact h k h1
  · rw [show k = i.toNat by omega]
    exact he
theorem has_at {s : St} {i : Int} (h : StOk s) (h0 : 0 ≤ i) (h1 : i < (s.sent.length : Int)) : HasP s (s.sent.getD i.toNat zPkt) ↔ s.live.getD i.toNat false = true := by
  have e := (stK h h0 h1).2.1
  unfold HasP
  rw [e, show (i + 1 - 1).toNat = i.toNat by omega]
  exact ⟨fun h => h.2.2.2, fun h' => ⟨h, ⟨by omega, by omega⟩, rfl, h'⟩⟩
theorem lives_nil {l : List Bool} {i : Int} (h0 : i = 0) : ([] : List Int) = lives l i.toNat := by subst h0; rfl
theorem stL4 {s : St} (h : StOk s) : s.got.length = 8 := h.2.2.2.2.2.1
theorem okOf {s : St} {p : Prop} (h : ¬(¬p ∨ ¬StOk s)) : StOk s := Classical.byContradiction fun h' => h (.inr h')
theorem gotQ_eq {s : St} {n a b : Int} (h : GotQ s n a) (h' : GotQ s n b) : a = b := by
  by_cases hs : StOk s ∧ 1 ≤ n ∧ n ≤ 8
  · exact (h.1 hs.1 hs.2.1 hs.2.2).trans (h'.1 hs.1 hs.2.1 hs.2.2).symm
  · exact (h.2 hs).trans (h'.2 hs).symm
theorem gotA {s : St} {n x : Int} (ho : StOk s) (h3 : ¬(n < 1 ∨ n > 8)) (e : x = n - 1) : 0 ≤ x ∧ x < (s.got.length : Int) := by
  have := stL4 ho
  omega
theorem got_out {s : St} {n a : Int} (h : GotQ s n a) (hn : n < 1 ∨ n > 8) : a = 0 := h.2 fun h' => by omega
theorem got_in {s : St} {n a x : Int} (h : GotQ s n a) (ho : StOk s) (hn : ¬(n < 1 ∨ n > 8)) (e : x = n - 1) : a = s.got.getD x.toNat 0 := by
  subst e
  exact h.1 ho (by omega) (by omega)
theorem live_same {s : St} {a b : List Int} (h1 : StOk s → a = lives s.live s.live.length) (h2 : ¬ StOk s → a = []) (h3 : StOk s → b = lives s.live s.live.length) (h4 : ¬ StOk s → b = []) : a = b := by
  by_cases hs : StOk s
  · rw [h1 hs, h3 hs]
  · rw [h2 hs, h4 hs]
theorem live_le {s : St} {a : List Int} (h1 : StOk s → a = lives s.live s.live.length) (h2 : ¬ StOk s → a = []) : a.length ≤ 8 := by
  by_cases hs : StOk s
  · have := lives_len (l := s.live) s.live.length
    have := stL hs
    rw [h1 hs]
    omega
  · rw [h2 hs]
    exact Nat.zero_le 8

/-! ### impl.fateAt -/
def impl_fateAt.enc (a0 : St) (a1 : Int) (r : Nat) : AV × List Blk := (.v (.c (.ifc r)), [])
abbrev impl_fateAt.P (a0 : St) (a1 : Int) : Prop := (a0.got.length = 8) ∧ (1 ≤ a1) ∧ (a1 ≤ 8)
abbrev impl_fateAt.Q (a0 : St) (a1 : Int) (r : Nat) : Prop := (r = (impl_fateOf.S (a0.got.getD (a1 - 1).toNat 0)).1)
def impl_fateAt.L : FL := fCons (fSh sSt) (fCons (fSh sInt) (fNil))
def impl_fateAt.f (a0 : St) (a1 : Int) (X : AV × List Blk → Prop) : Prop := Lt (wrap (a1 - 1)) fun x1 => And ((0 : Int) ≤ x1 ∧ x1 < (a0.got.length : Int)) (X (.v (.c (.ifc (impl_fateOf.S (a0.got.getD (x1).toNat 0)).1)), []))
theorem impl_fateAt.w (a0 : St) (a1 : Int) (K : AV → List Blk → Prop) : evFn (envC [impl_fateOf.c] [] []) [] [] [] Try.f65 (impl_fateAt.L.inp (a0, (a1, ()))).1 (impl_fateAt.L.inp (a0, (a1, ()))).2 K = impl_fateAt.f a0 a1 (fun v => K v.1 v.2) := by kernel_rfl
theorem impl_fateAt.x (a0 : St) (a1 : Int) (hp : impl_fateAt.P a0 a1) : May (impl_fateAt.Q a0 a1) (impl_fateAt.enc a0 a1) (impl_fateAt.f a0 a1) := by
  obtain ⟨p0, p1, p2⟩ := hp
  delta impl_fateAt.f
  refine May.lw ⟨?_, ?_⟩ fun x1 e1 => May.chk ?_ fun c1 => ⟨((impl_fateOf.S (a0.got.getD (x1).toNat 0)).1), ?_, fun X h => h⟩
  all_goals try dsimp only
  all_goals first | with_reducible assumption | omega | rfl | assumption | (simp only [List.length_append, List.length_cons, List.length_nil, List.length_set, List.length_replicate, Int.natCast_add, Int.natCast_one] at *; omega) | grind
theorem impl_fateAt.X : ∃ S : impl_fateAt.L.α → Nat, ∀ s, impl_fateAt.P s.1 s.2.1 → impl_fateAt.Q s.1 s.2.1 (S s) ∧ ∀ X, X (impl_fateAt.enc s.1 s.2.1 (S s)) → impl_fateAt.f s.1 s.2.1 X := mayS (0) fun s => impl_fateAt.x s.1 s.2.1
noncomputable def impl_fateAt.S (a0 : St) (a1 : Int) : Nat := Classical.choose impl_fateAt.X (a0, (a1, ()))
theorem impl_fateAt.q (a0 : St) (a1 : Int) (hp : impl_fateAt.P a0 a1) : impl_fateAt.Q a0 a1 (impl_fateAt.S a0 a1) := (Classical.choose_spec impl_fateAt.X (a0, (a1, ())) hp).1
noncomputable def impl_fateAt.c : Ctr := hctr 65 [true, false] impl_fateAt.L (some fun s => impl_fateAt.P s.1 s.2.1) (fun s => impl_fateAt.enc s.1 s.2.1 (impl_fateAt.S s.1 s.2.1))
theorem impl_fateAt.good : Good Try.prog impl_fateAt.c :=
  hgoodC (sh := []) (tk := []) (sp := []) (ct := []) (LL := []) (consG impl_fateOf.good noG) (fn := Try.f65) (by kernel_rfl) (by kernel_rfl) (by rw [show loopsOf (bodyOf Try.f65) = [] from by kernel_rfl]; exact noL rfl) (consC' (bs := []) (by kernel_rfl) noC) fun s hp => Eq.mpr (impl_fateAt.w s.1 s.2.1 (fun r bs' => And (r = (impl_fateAt.c.out s).1) (bs' = (impl_fateAt.c.out s).2))) ((Classical.choose_spec impl_fateAt.X s (hp _ rfl)).2 _ ⟨rfl, rfl⟩)
/-! ### impl.fateEntry -/
def impl_fateEntry.enc (a0 : Nat) (r : Int) : AV × List Blk := (.v (.c (.int r)), [])
abbrev impl_fateEntry.P (a0 : Nat) : Prop := True
abbrev impl_fateEntry.Q (a0 : Nat) (r : Int) : Prop := (r = entryOf a0)
def impl_fateEntry.L : FL := fCons (fSh sIfc) (fNil)
def impl_fateEntry.f (a0 : Nat) (X : AV × List Blk → Prop) : Prop := And (Imp ((Nat.beq a0 113) = true) (X (.v (.c (.int 1)), []))) (Imp ((Nat.beq a0 113) = false) (And (Imp ((Nat.beq a0 114) = true) (X (.v (.c (.int 2)), []))) (Imp ((Nat.beq a0 114) = false) (X (.v (.c (.int 0)), [])))))
theorem impl_fateEntry.w (a0 : Nat) (K : AV → List Blk → Prop) : evFn (envC [] [] []) [] [] [] Try.f64 (impl_fateEntry.L.inp (a0, ())).1 (impl_fateEntry.L.inp (a0, ())).2 K = impl_fateEntry.f a0 (fun v => K v.1 v.2) := by kernel_rfl
theorem impl_fateEntry.x (a0 : Nat) (hp : impl_fateEntry.P a0) : May (impl_fateEntry.Q a0) (impl_fateEntry.enc a0) (impl_fateEntry.f a0) := by
  delta impl_fateEntry.f
  refine May.iff (B.nbeq) (fun h1 => ?_) (fun h1 => ?_)
  refine ⟨(1), ?_, fun X h => h⟩; rotate_left 1
  refine May.iff (B.nbeq) (fun h2 => ?_) (fun h2 => ?_)
  refine ⟨(2), ?_, fun X h => h⟩; rotate_left 1
  refine ⟨(0), ?_, fun X h => h⟩
  all_goals try dsimp only
  all_goals first | with_reducible assumption | omega | rfl | assumption | (simp only [List.length_append, List.length_cons, List.length_nil, List.length_set, List.length_replicate, Int.natCast_add, Int.natCast_one] at *; omega) | grind [entryOf]
theorem impl_fateEntry.X : ∃ S : impl_fateEntry.L.α → Int, ∀ s, impl_fateEntry.P s.1 → impl_fateEntry.Q s.1 (S s) ∧ ∀ X, X (impl_fateEntry.enc s.1 (S s)) → impl_fateEntry.f s.1 X := mayS (0) fun s => impl_fateEntry.x s.1
noncomputable def impl_fateEntry.S (a0 : Nat) : Int := Classical.choose impl_fateEntry.X (a0, ())
theorem impl_fateEntry.q (a0 : Nat) : impl_fateEntry.Q a0 (impl_fateEntry.S a0) := (Classical.choose_spec impl_fateEntry.X (a0, ()) trivial).1
noncomputable def impl_fateEntry.c : Ctr := hctr 64 [false] impl_fateEntry.L none (fun s => impl_fateEntry.enc s.1 (impl_fateEntry.S s.1))
theorem impl_fateEntry.good : Good Try.prog impl_fateEntry.c :=
  hgoodC (sh := []) (tk := []) (sp := []) (ct := []) (LL := []) noG (fn := Try.f64) (by kernel_rfl) (by kernel_rfl) (by rw [show loopsOf (bodyOf Try.f64) = [] from by kernel_rfl]; exact noL rfl) (consC' (bs := []) (by kernel_rfl) noC) fun s hp => Eq.mpr (impl_fateEntry.w s.1 (fun r bs' => And (r = (impl_fateEntry.c.out s).1) (bs' = (impl_fateEntry.c.out s).2))) ((Classical.choose_spec impl_fateEntry.X s trivial).2 _ ⟨rfl, rfl⟩)
/-! ### impl.StateGot -/
def impl_StateGot.enc (a0 : St) (a1 : Int) (r : Int) : AV × List Blk := (.v (.c (.int r)), [])
abbrev impl_StateGot.P (a0 : St) (a1 : Int) : Prop := True
abbrev impl_StateGot.Q (a0 : St) (a1 : Int) (r : Int) : Prop := (GotQ a0 a1 r)
def impl_StateGot.L : FL := fCons (fSh sSt) (fCons (fSh sInt) (fNil))
def impl_StateGot.f (a0 : St) (a1 : Int) (X : AV × List Blk → Prop) : Prop := Lt (bif bif decide (a1 < 1) then true else decide (a1 > 8) then true else !(impl_StateOk.S a0)) fun x1 => And (Imp (x1 = true) (X (.v (.c (.int 0)), []))) (Imp (x1 = false) (And (impl_fateAt.P a0 a1) (Lt ((impl_fateAt.S a0 a1)) fun x2 => Lt ((impl_fateEntry.S x2)) fun x3 => X (.v (.c (.int x3)), []))))
theorem impl_StateGot.w (a0 : St) (a1 : Int) (K : AV → List Blk → Prop) : evFn (envC [impl_StateOk.c, impl_fateAt.c, impl_fateEntry.c] [] []) [] [] [] Try.f33 (impl_StateGot.L.inp (a0, (a1, ()))).1 (impl_StateGot.L.inp (a0, (a1, ()))).2 K = impl_StateGot.f a0 a1 (fun v => K v.1 v.2) := by kernel_rfl
theorem impl_StateGot.x (a0 : St) (a1 : Int) (hp : impl_StateGot.P a0 a1) : May (impl_StateGot.Q a0 a1) (impl_StateGot.enc a0 a1) (impl_StateGot.f a0 a1) := by
  delta impl_StateGot.f
  refine May.lp (B.or (B.or (B.dec) (B.dec)) (B.not (implSt))) fun x1 e1 => May.iff (e1) (fun h1 => ?_) (fun h1 => ?_)
  refine ⟨(0), ?_, fun X h => h⟩; rotate_left 1
  refine May.chk ⟨?_, ?_, ?_⟩ fun c1 => May.lq (impl_fateAt.Q a0 a1) (impl_fateAt.q a0 a1 ⟨?_, ?_, ?_⟩) fun x2 q2 => May.lq (impl_fateEntry.Q x2) (impl_fateEntry.q x2) fun x3 q3 => ⟨(x3), ?_, fun X h => h⟩
  all_goals try dsimp only
  all_goals first | with_reducible assumption | omega | (have ho := (show StOk a0 by grind); have hl := stL4 ho; have hg := got_rng ho (n := a1) (by grind) (by grind); have hb := fateBack hg.1 hg.2; first | exact hl | (rw [q3, q2]; exact ⟨fun _ _ _ => hb, fun h => absurd ⟨ho, by omega, by omega⟩ h⟩); done) | (simp only [List.length_append, List.length_cons, List.length_nil, List.length_set, List.length_replicate, Int.natCast_add, Int.natCast_one] at *; omega) | grind
theorem impl_StateGot.X : ∃ S : impl_StateGot.L.α → Int, ∀ s, impl_StateGot.P s.1 s.2.1 → impl_StateGot.Q s.1 s.2.1 (S s) ∧ ∀ X, X (impl_StateGot.enc s.1 s.2.1 (S s)) → impl_StateGot.f s.1 s.2.1 X := mayS (0) fun s => impl_StateGot.x s.1 s.2.1
noncomputable def impl_StateGot.S (a0 : St) (a1 : Int) : Int := Classical.choose impl_StateGot.X (a0, (a1, ()))
theorem impl_StateGot.q (a0 : St) (a1 : Int) : impl_StateGot.Q a0 a1 (impl_StateGot.S a0 a1) := (Classical.choose_spec impl_StateGot.X (a0, (a1, ())) trivial).1
noncomputable def impl_StateGot.c : Ctr := hctr 33 [true, false] impl_StateGot.L none (fun s => impl_StateGot.enc s.1 s.2.1 (impl_StateGot.S s.1 s.2.1))
theorem impl_StateGot.good : Good Try.prog impl_StateGot.c :=
  hgoodC (sh := []) (tk := []) (sp := []) (ct := []) (LL := []) (consG impl_StateOk.good (consG impl_fateAt.good (consG impl_fateEntry.good noG))) (fn := Try.f33) (by kernel_rfl) (by kernel_rfl) (by rw [show loopsOf (bodyOf Try.f33) = [] from by kernel_rfl]; exact noL rfl) (consC' (bs := []) (by kernel_rfl) noC) fun s hp => Eq.mpr (impl_StateGot.w s.1 s.2.1 (fun r bs' => And (r = (impl_StateGot.c.out s).1) (bs' = (impl_StateGot.c.out s).2))) ((Classical.choose_spec impl_StateGot.X s trivial).2 _ ⟨rfl, rfl⟩)
end Hw
end Go.Proofs.Ytfboldbfbmmahaa
