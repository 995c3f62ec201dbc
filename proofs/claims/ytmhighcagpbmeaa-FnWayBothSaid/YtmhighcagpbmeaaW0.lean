/- Steps of a way: made by gen.py. -/
import Derived.Test.YtmhighcagpbmeaaG0
import Derived.Test.YtmhighcagpbmeaaE3
set_option linter.unusedVariables false
set_option linter.unusedSimpArgs false
set_option maxRecDepth 100000
set_option maxHeartbeats 400000
namespace Go.Proofs.Ytmhighcagpbmeaa
namespace Hw
open Go
attribute [local irreducible] evFn evBody wrap wxor
/-- The steps of a way, with what they ask and what they do. -/
def steps : List Ws := [⟨1, some 89, some 90⟩, ⟨2, some 91, some 92⟩, ⟨3, some 93, some 94⟩, ⟨4, some 95, some 96⟩, ⟨5, some 97, some 98⟩, ⟨6, some 99, some 98⟩, ⟨7, some 100, some 101⟩]
theorem steps_at {i : Int} (h0 : 0 ≤ i) (h1 : i < 7) : (steps.getD i.toNat zWs).step = i + 1 := by
  have : i = 0 ∨ i = 1 ∨ i = 2 ∨ i = 3 ∨ i = 4 ∨ i = 5 ∨ i = 6 := by omega
  rcases this with rfl | rfl | rfl | rfl | rfl | rfl | rfl <;> rfl
abbrev mayOf (k : Int) : Option Nat := (steps.getD (k - 1).toNat zWs).may
abbrev actOf (k : Int) : Option Nat := (steps.getD (k - 1).toNat zWs).act
/-- What a step's number leads to. -/
abbrev FindQ (k : Int) (w : Ws) (b : Bool) : Prop := (b = true → (1 ≤ k ∧ k ≤ 7) ∧ w.may = mayOf k ∧ w.act = actOf k) ∧ (¬ b = true → ¬ (1 ≤ k ∧ k ≤ 7))
theorem find_y {i k : Int} (h0 : 0 ≤ i) (h1 : i < (steps.length : Int)) (h : (steps.getD i.toNat zWs).step = k) : FindQ k (steps.getD i.toNat zWs) true := by
  have h2 : i < 7 := h1
  have h3 := steps_at h0 h2
  have e : (k - 1).toNat = i.toNat := by omega
  exact ⟨fun _ => ⟨⟨by omega, by omega⟩, by rw [mayOf, e], by rw [actOf, e]⟩, fun h' => absurd rfl h'⟩
theorem idleIff {s : St} (hl : (s.live.length : Int) ≤ 9223372036854775807) : impl_wayIdle.S s = true ↔ IdleS s := by
  have e : (Nat.beq (impl_wayIdle_l2.R false s.live (s.live.length : Int) 0).1 0 = true ∧ (impl_wayIdle_l2.R false s.live (s.live.length : Int) 0).2.1 = false ∧ ¬ IdleS s) ∨ (Nat.beq (impl_wayIdle_l2.R false s.live (s.live.length : Int) 0).1 0 = false ∧ IdleS s) := by
    rcases impl_wayIdle_l2.law false s.live (s.live.length : Int) () s.live.length rfl hl with ⟨h1, h2⟩ | ⟨k, r, hk, h1, -, h2⟩
    · rw [h2]
      refine .inr ⟨rfl, fun k hk => ?_⟩
      have h3 := h1 k hk
      simp only [impl_wayIdle_l2.E, E_none, reduceCtorEq, and_false, false_or, and_true] at h3
      exact h3
    · rw [h2]
      simp only [impl_wayIdle_l2.E, E_some, reduceCtorEq, and_false, or_false, Option.some.injEq] at h1
      obtain ⟨h3, rfl⟩ := h1
      refine .inl ⟨rfl, rfl, fun h => ?_⟩
      have := h k hk
      rw [h3] at this
      cases this
  unfold impl_wayIdle.S
  rw [loopB e]
  simp
theorem may_at {k j : Int} {w : Ws} {b : Bool} {f : Option Nat} (q : FindQ k w b) (hb : b = true) (hk : k = j) (hf : mayOf j = f) : w.may = f := by
  subst hk
  exact (q.1 hb).2.1.trans hf
theorem mayK_rng {s o : St} {k : Int} (h : MayK s o k) : 1 ≤ k ∧ k ≤ 7 := by
  unfold MayK at h
  rcases h with h | h | h | h | h | h | h <;> omega
theorem mayK1 {s o : St} : MayK s o 1 ↔ s.way = 0 := by unfold MayK; grind
theorem mayK2 {s o : St} (h : StOk s) : MayK s o 2 ↔ (s.way = 0 ∨ s.way = 1) ∧ (o.way = 1 ∨ o.way = 2) := by have := h.1; unfold MayK; grind
theorem mayK3 {s o : St} : MayK s o 3 ↔ s.way = 1 ∧ 2 ≤ o.way := by unfold MayK; grind
theorem mayK4 {s o : St} : MayK s o 4 ↔ s.way = 2 ∧ 2 ≤ o.way := by unfold MayK; grind
theorem mayK5 {s o : St} : MayK s o 5 ↔ s.way = 3 ∧ s.ver < 9 := by unfold MayK; grind
theorem mayK6 {s o : St} : MayK s o 6 ↔ s.way = 3 ∧ o.way = 4 ∧ o.want = wrap (s.ver + 1) := by unfold MayK; grind
theorem mayK7 {s o : St} : MayK s o 7 ↔ s.way = 4 ∧ IdleS s ∧ (o.way = 4 ∧ o.want = s.want ∧ IdleS o ∨ o.ver = s.want) := by unfold MayK; grind
theorem live8 {s : St} (h : StOk s) : s.live.length ≤ 8 := by
  have := stL h
  omega
theorem wayM {s o : St} {k j : Int} {w : Ws} {b x y : Bool} (q : FindQ k w b) (e : x = true ↔ (b = true ∧ StOk s) ∧ StOk o) (hk : b = true → k = j) (hy : StOk s → StOk o → (y = true ↔ MayK s o j)) : (bif x then y else false) = true ↔ MayW s o k := by
  by_cases hb : b = true
  · obtain rfl := hk hb
    by_cases h : StOk s ∧ StOk o
    · rw [e.2 ⟨⟨hb, h.1⟩, h.2⟩, cond_true, hy h.1 h.2]
      exact ⟨fun h' => ⟨h, h'⟩, fun h' => h'.2⟩
    · rw [Bool.eq_false_iff.2 (fun h' => h ⟨(e.1 h').1.2, (e.1 h').2⟩), cond_false]
      exact ⟨fun h' => absurd h' (by simp), fun h' => absurd h'.1 h⟩
  · rw [Bool.eq_false_iff.2 (fun h' => hb (e.1 h').1.1), cond_false]
    exact ⟨fun h' => absurd h' (by simp), fun h' => absurd (mayK_rng h'.2) (q.2 hb)⟩
theorem step_may {l : List Ws} {i j : Int} {f : Option Nat} (hl : l = steps) (hi : i = j) (hf : (steps.getD j.toNat zWs).may = f) : (l.getD i.toNat zWs).may = f := by
  subst hl hi
  exact hf
theorem next_t {s o : St} {l : List Int} {w : List Ws} {i j : Int} (hl : l = mays s o i.toNat) (hj : j = i + 1) (h0 : 0 ≤ i) (hs : w = steps) (h7 : i < 7) (ho : StOk s ∧ StOk o) (hm : MayK s o (i + 1)) : l ++ [(w.getD i.toNat zWs).step] = mays s o j.toNat := by
  subst hs
  rw [steps_at h0 h7, hl, hj]
  have := mays_t (i := i + 1) (by omega) ⟨ho, hm⟩
  rw [show i + 1 - 1 = i by omega] at this
  exact this
theorem next_f {s o : St} {l : List Int} {i j : Int} (hl : l = mays s o i.toNat) (hj : j = i + 1) (h0 : 0 ≤ i) (hm : ¬ MayK s o (i + 1)) : l = mays s o j.toNat := by
  rw [hl, hj]
  have := mays_f (i := i + 1) (s := s) (o := o) (by omega) fun h => hm h.2
  rw [show i + 1 - 1 = i by omega] at this
  exact this
theorem mays_none {s o : St} (h : ¬StOk s ∨ ¬StOk o) : ∀ n, mays s o n = []
  | 0 => rfl
  | n + 1 => by rw [mays, mays_none h n, if_neg (fun h' => h.elim (fun h => h h'.1.1) fun h => h h'.1.2)]; rfl
theorem hasOf' {a b : Bool} (h : ¬(¬a = b ∨ ¬a = true)) : a = true := Classical.byContradiction fun h' => h (.inr h')
theorem mayK_open {s o : St} {k : Int} (h : MayK s o k) (h1 : ¬ k = 1) (h2 : ¬ k = 2) (h3 : ¬ k = 3) (h4 : ¬ k = 4) : s.way ≥ 3 := by
  unfold MayK at h
  rcases h with h | h | h | h | h | h | h <;> omega
theorem lives_idle {l : List Bool} : ∀ n, (lives l n).length = 0 ↔ ∀ k, k < n → l.getD k false = false
  | 0 => ⟨fun _ k hk => absurd hk (Nat.not_lt_zero k), fun _ => rfl⟩
  | n + 1 => by
    have ih := lives_idle (l := l) n
    rw [lives, List.length_append]
    constructor
    · intro h k hk
      rcases Nat.lt_or_ge k n with h1 | h1
      · exact ih.1 (by omega) k h1
      · obtain rfl : k = n := by omega
        cases hb : l.getD k false with
        | false => rfl
        | true => rw [if_pos hb] at h; simp at h
    · intro h
      rw [ih.2 fun k hk => h k (by omega), if_neg (by rw [h n (Nat.lt_succ_self n)]; simp)]
      rfl
theorem fresh_fin {s o : St} {b5 b9 b10 : Bool} {l7 l8 : List Int} (hs : StOk s) (ho : StOk o) (q5 : b5 = true ↔ MayW s o 7) (q7 : StOk o → l7 = lives o.live o.live.length) (q8 : StOk s → l8 = lives s.live s.live.length)
    (e9 : b9 = true ↔ s.way = 4 ∧ (l8.length : Int) = 0) (e10 : b10 = true ↔ (o.way = 4 ∧ o.want = s.want) ∧ (l7.length : Int) = 0 ∨ o.ver = s.want) : b5 = bif b9 then b10 else false := by
  have i7 : (l7.length : Int) = 0 ↔ IdleS o := by
    rw [q7 ho]
    exact ⟨fun h => (lives_idle _).1 (by omega), fun h => by have := (lives_idle (l := o.live) _).2 h; omega⟩
  have i8 : (l8.length : Int) = 0 ↔ IdleS s := by
    rw [q8 hs]
    exact ⟨fun h => (lives_idle _).1 (by omega), fun h => by have := (lives_idle (l := s.live) _).2 h; omega⟩
  rw [i7] at e10
  rw [i8] at e9
  rw [show MayW s o 7 ↔ MayK s o 7 from ⟨fun h => h.2, fun h => ⟨⟨hs, ho⟩, h⟩⟩, mayK7] at q5
  refine Bool.eq_iff_iff.2 (q5.trans ?_)
  cases b9 with
  | true =>
    rw [cond_true, e10]
    have := e9.1 rfl
    exact ⟨fun h => h.2.2.elim (fun h => .inl ⟨⟨h.1, h.2.1⟩, h.2.2⟩) .inr, fun h => ⟨this.1, this.2, h.elim (fun h => .inl ⟨h.1.1, h.1.2, h.2⟩) .inr⟩⟩
  | false =>
    rw [cond_false]
    exact ⟨fun h => absurd (e9.2 ⟨h.1, h.2.1⟩) (by simp), fun h => absurd h (by simp)⟩

/-! ### impl.waySteps$1 -/
def impl_waySteps_1.enc (a0 : St) (a1 : St) (r : Unit) : AV × List Blk := (.v (.c (.bool (a0.way == 0))), [])
abbrev impl_waySteps_1.P (a0 : St) (a1 : St) : Prop := True
abbrev impl_waySteps_1.Q (a0 : St) (a1 : St) (r : Unit) : Prop := True
def impl_waySteps_1.L : FL := fCons (fSh sSt) (fCons (fSh sSt) (fNil))
def impl_waySteps_1.f (a0 : St) (a1 : St) (X : AV × List Blk → Prop) : Prop := X (.v (.c (.bool (a0.way == 0))), [])
theorem impl_waySteps_1.w (a0 : St) (a1 : St) (K : AV → List Blk → Prop) : evFn (envC [] [] []) [] [] [] Try.f89 (impl_waySteps_1.L.inp (a0, (a1, ()))).1 (impl_waySteps_1.L.inp (a0, (a1, ()))).2 K = impl_waySteps_1.f a0 a1 (fun v => K v.1 v.2) := by kernel_rfl
theorem impl_waySteps_1.x (a0 : St) (a1 : St) (hp : impl_waySteps_1.P a0 a1) : May (impl_waySteps_1.Q a0 a1) (impl_waySteps_1.enc a0 a1) (impl_waySteps_1.f a0 a1) := by
  delta impl_waySteps_1.f
  refine ⟨(), trivial, fun X h => h⟩
  all_goals try dsimp only
  all_goals first | with_reducible assumption | omega | rfl | assumption | (simp only [List.length_append, List.length_cons, List.length_nil, List.length_set, List.length_replicate, Int.natCast_add, Int.natCast_one] at *; omega) | grind
theorem impl_waySteps_1.X : ∃ S : impl_waySteps_1.L.α → Unit, ∀ s, impl_waySteps_1.P s.1 s.2.1 → impl_waySteps_1.Q s.1 s.2.1 (S s) ∧ ∀ X, X (impl_waySteps_1.enc s.1 s.2.1 (S s)) → impl_waySteps_1.f s.1 s.2.1 X := mayS () fun s => impl_waySteps_1.x s.1 s.2.1
noncomputable def impl_waySteps_1.S (a0 : St) (a1 : St) : Unit := Classical.choose impl_waySteps_1.X (a0, (a1, ()))
theorem impl_waySteps_1.q (a0 : St) (a1 : St) : impl_waySteps_1.Q a0 a1 (impl_waySteps_1.S a0 a1) := (Classical.choose_spec impl_waySteps_1.X (a0, (a1, ())) trivial).1
noncomputable def impl_waySteps_1.c : Ctr := hctr 89 [true, true] impl_waySteps_1.L none (fun s => impl_waySteps_1.enc s.1 s.2.1 (impl_waySteps_1.S s.1 s.2.1))
theorem impl_waySteps_1.good : Good Try.prog impl_waySteps_1.c :=
  hgoodC (sh := []) (tk := []) (sp := []) (ct := []) (LL := []) noG (fn := Try.f89) (by kernel_rfl) (by kernel_rfl) (by rw [show loopsOf (bodyOf Try.f89) = [] from by kernel_rfl]; exact noL rfl) (consC' (bs := []) (by kernel_rfl) noC) fun s hp => Eq.mpr (impl_waySteps_1.w s.1 s.2.1 (fun r bs' => And (r = (impl_waySteps_1.c.out s).1) (bs' = (impl_waySteps_1.c.out s).2))) ((Classical.choose_spec impl_waySteps_1.X s trivial).2 _ ⟨rfl, rfl⟩)
/-! ### impl.wayMayTry -/
def impl_wayMayTry.enc (a0 : St) (a1 : St) (r : Bool) : AV × List Blk := (.v (.c (.bool r)), [])
abbrev impl_wayMayTry.P (a0 : St) (a1 : St) : Prop := True
abbrev impl_wayMayTry.Q (a0 : St) (a1 : St) (r : Bool) : Prop := (r = true ↔ (a0.way = 0 ∨ a0.way = 1) ∧ (a1.way = 1 ∨ a1.way = 2))
def impl_wayMayTry.L : FL := fCons (fSh sSt) (fCons (fSh sSt) (fNil))
def impl_wayMayTry.f (a0 : St) (a1 : St) (X : AV × List Blk → Prop) : Prop := Lt (bif bif a0.way == 0 then true else a0.way == 1 then bif a1.way == 1 then true else a1.way == 2 else false) fun x1 => X (.v (.c (.bool x1)), [])
theorem impl_wayMayTry.w (a0 : St) (a1 : St) (K : AV → List Blk → Prop) : evFn (envC [] [] []) [] [] [] Try.f91 (impl_wayMayTry.L.inp (a0, (a1, ()))).1 (impl_wayMayTry.L.inp (a0, (a1, ()))).2 K = impl_wayMayTry.f a0 a1 (fun v => K v.1 v.2) := by kernel_rfl
theorem impl_wayMayTry.x (a0 : St) (a1 : St) (hp : impl_wayMayTry.P a0 a1) : May (impl_wayMayTry.Q a0 a1) (impl_wayMayTry.enc a0 a1) (impl_wayMayTry.f a0 a1) := by
  delta impl_wayMayTry.f
  refine May.lp (B.and (B.or (B.eq) (B.eq)) (B.or (B.eq) (B.eq))) fun x1 e1 => ⟨(x1), ?_, fun X h => h⟩
  all_goals try dsimp only
  all_goals first | with_reducible assumption | omega | rfl | assumption | (simp only [List.length_append, List.length_cons, List.length_nil, List.length_set, List.length_replicate, Int.natCast_add, Int.natCast_one] at *; omega) | grind
theorem impl_wayMayTry.X : ∃ S : impl_wayMayTry.L.α → Bool, ∀ s, impl_wayMayTry.P s.1 s.2.1 → impl_wayMayTry.Q s.1 s.2.1 (S s) ∧ ∀ X, X (impl_wayMayTry.enc s.1 s.2.1 (S s)) → impl_wayMayTry.f s.1 s.2.1 X := mayS (false) fun s => impl_wayMayTry.x s.1 s.2.1
noncomputable def impl_wayMayTry.S (a0 : St) (a1 : St) : Bool := Classical.choose impl_wayMayTry.X (a0, (a1, ()))
theorem impl_wayMayTry.q (a0 : St) (a1 : St) : impl_wayMayTry.Q a0 a1 (impl_wayMayTry.S a0 a1) := (Classical.choose_spec impl_wayMayTry.X (a0, (a1, ())) trivial).1
noncomputable def impl_wayMayTry.c : Ctr := hctr 91 [true, true] impl_wayMayTry.L none (fun s => impl_wayMayTry.enc s.1 s.2.1 (impl_wayMayTry.S s.1 s.2.1))
theorem impl_wayMayTry.good : Good Try.prog impl_wayMayTry.c :=
  hgoodC (sh := []) (tk := []) (sp := []) (ct := []) (LL := []) noG (fn := Try.f91) (by kernel_rfl) (by kernel_rfl) (by rw [show loopsOf (bodyOf Try.f91) = [] from by kernel_rfl]; exact noL rfl) (consC' (bs := []) (by kernel_rfl) noC) fun s hp => Eq.mpr (impl_wayMayTry.w s.1 s.2.1 (fun r bs' => And (r = (impl_wayMayTry.c.out s).1) (bs' = (impl_wayMayTry.c.out s).2))) ((Classical.choose_spec impl_wayMayTry.X s trivial).2 _ ⟨rfl, rfl⟩)
/-! ### impl.waySteps$4 -/
def impl_waySteps_4.enc (a0 : St) (a1 : St) (r : Bool) : AV × List Blk := (.v (.c (.bool r)), [])
abbrev impl_waySteps_4.P (a0 : St) (a1 : St) : Prop := True
abbrev impl_waySteps_4.Q (a0 : St) (a1 : St) (r : Bool) : Prop := (r = true ↔ a0.way = 1 ∧ 2 ≤ a1.way)
def impl_waySteps_4.L : FL := fCons (fSh sSt) (fCons (fSh sSt) (fNil))
def impl_waySteps_4.f (a0 : St) (a1 : St) (X : AV × List Blk → Prop) : Prop := Lt (bif a0.way == 1 then decide (a1.way ≥ 2) else false) fun x1 => X (.v (.c (.bool x1)), [])
theorem impl_waySteps_4.w (a0 : St) (a1 : St) (K : AV → List Blk → Prop) : evFn (envC [] [] []) [] [] [] Try.f93 (impl_waySteps_4.L.inp (a0, (a1, ()))).1 (impl_waySteps_4.L.inp (a0, (a1, ()))).2 K = impl_waySteps_4.f a0 a1 (fun v => K v.1 v.2) := by kernel_rfl
theorem impl_waySteps_4.x (a0 : St) (a1 : St) (hp : impl_waySteps_4.P a0 a1) : May (impl_waySteps_4.Q a0 a1) (impl_waySteps_4.enc a0 a1) (impl_waySteps_4.f a0 a1) := by
  delta impl_waySteps_4.f
  refine May.lp (B.and (B.eq) (B.dec)) fun x1 e1 => ⟨(x1), ?_, fun X h => h⟩
  all_goals try dsimp only
  all_goals first | with_reducible assumption | omega | rfl | assumption | (simp only [List.length_append, List.length_cons, List.length_nil, List.length_set, List.length_replicate, Int.natCast_add, Int.natCast_one] at *; omega) | grind
theorem impl_waySteps_4.X : ∃ S : impl_waySteps_4.L.α → Bool, ∀ s, impl_waySteps_4.P s.1 s.2.1 → impl_waySteps_4.Q s.1 s.2.1 (S s) ∧ ∀ X, X (impl_waySteps_4.enc s.1 s.2.1 (S s)) → impl_waySteps_4.f s.1 s.2.1 X := mayS (false) fun s => impl_waySteps_4.x s.1 s.2.1
noncomputable def impl_waySteps_4.S (a0 : St) (a1 : St) : Bool := Classical.choose impl_waySteps_4.X (a0, (a1, ()))
theorem impl_waySteps_4.q (a0 : St) (a1 : St) : impl_waySteps_4.Q a0 a1 (impl_waySteps_4.S a0 a1) := (Classical.choose_spec impl_waySteps_4.X (a0, (a1, ())) trivial).1
noncomputable def impl_waySteps_4.c : Ctr := hctr 93 [true, true] impl_waySteps_4.L none (fun s => impl_waySteps_4.enc s.1 s.2.1 (impl_waySteps_4.S s.1 s.2.1))
theorem impl_waySteps_4.good : Good Try.prog impl_waySteps_4.c :=
  hgoodC (sh := []) (tk := []) (sp := []) (ct := []) (LL := []) noG (fn := Try.f93) (by kernel_rfl) (by kernel_rfl) (by rw [show loopsOf (bodyOf Try.f93) = [] from by kernel_rfl]; exact noL rfl) (consC' (bs := []) (by kernel_rfl) noC) fun s hp => Eq.mpr (impl_waySteps_4.w s.1 s.2.1 (fun r bs' => And (r = (impl_waySteps_4.c.out s).1) (bs' = (impl_waySteps_4.c.out s).2))) ((Classical.choose_spec impl_waySteps_4.X s trivial).2 _ ⟨rfl, rfl⟩)
/-! ### impl.waySteps$6 -/
def impl_waySteps_6.enc (a0 : St) (a1 : St) (r : Bool) : AV × List Blk := (.v (.c (.bool r)), [])
abbrev impl_waySteps_6.P (a0 : St) (a1 : St) : Prop := True
abbrev impl_waySteps_6.Q (a0 : St) (a1 : St) (r : Bool) : Prop := (r = true ↔ a0.way = 2 ∧ 2 ≤ a1.way)
def impl_waySteps_6.L : FL := fCons (fSh sSt) (fCons (fSh sSt) (fNil))
def impl_waySteps_6.f (a0 : St) (a1 : St) (X : AV × List Blk → Prop) : Prop := Lt (bif a0.way == 2 then decide (a1.way ≥ 2) else false) fun x1 => X (.v (.c (.bool x1)), [])
theorem impl_waySteps_6.w (a0 : St) (a1 : St) (K : AV → List Blk → Prop) : evFn (envC [] [] []) [] [] [] Try.f95 (impl_waySteps_6.L.inp (a0, (a1, ()))).1 (impl_waySteps_6.L.inp (a0, (a1, ()))).2 K = impl_waySteps_6.f a0 a1 (fun v => K v.1 v.2) := by kernel_rfl
theorem impl_waySteps_6.x (a0 : St) (a1 : St) (hp : impl_waySteps_6.P a0 a1) : May (impl_waySteps_6.Q a0 a1) (impl_waySteps_6.enc a0 a1) (impl_waySteps_6.f a0 a1) := by
  delta impl_waySteps_6.f
  refine May.lp (B.and (B.eq) (B.dec)) fun x1 e1 => ⟨(x1), ?_, fun X h => h⟩
  all_goals try dsimp only
  all_goals first | with_reducible assumption | omega | rfl | assumption | (simp only [List.length_append, List.length_cons, List.length_nil, List.length_set, List.length_replicate, Int.natCast_add, Int.natCast_one] at *; omega) | grind
theorem impl_waySteps_6.X : ∃ S : impl_waySteps_6.L.α → Bool, ∀ s, impl_waySteps_6.P s.1 s.2.1 → impl_waySteps_6.Q s.1 s.2.1 (S s) ∧ ∀ X, X (impl_waySteps_6.enc s.1 s.2.1 (S s)) → impl_waySteps_6.f s.1 s.2.1 X := mayS (false) fun s => impl_waySteps_6.x s.1 s.2.1
noncomputable def impl_waySteps_6.S (a0 : St) (a1 : St) : Bool := Classical.choose impl_waySteps_6.X (a0, (a1, ()))
theorem impl_waySteps_6.q (a0 : St) (a1 : St) : impl_waySteps_6.Q a0 a1 (impl_waySteps_6.S a0 a1) := (Classical.choose_spec impl_waySteps_6.X (a0, (a1, ())) trivial).1
noncomputable def impl_waySteps_6.c : Ctr := hctr 95 [true, true] impl_waySteps_6.L none (fun s => impl_waySteps_6.enc s.1 s.2.1 (impl_waySteps_6.S s.1 s.2.1))
theorem impl_waySteps_6.good : Good Try.prog impl_waySteps_6.c :=
  hgoodC (sh := []) (tk := []) (sp := []) (ct := []) (LL := []) noG (fn := Try.f95) (by kernel_rfl) (by kernel_rfl) (by rw [show loopsOf (bodyOf Try.f95) = [] from by kernel_rfl]; exact noL rfl) (consC' (bs := []) (by kernel_rfl) noC) fun s hp => Eq.mpr (impl_waySteps_6.w s.1 s.2.1 (fun r bs' => And (r = (impl_waySteps_6.c.out s).1) (bs' = (impl_waySteps_6.c.out s).2))) ((Classical.choose_spec impl_waySteps_6.X s trivial).2 _ ⟨rfl, rfl⟩)
/-! ### impl.waySteps$8 -/
def impl_waySteps_8.enc (a0 : St) (a1 : St) (r : Bool) : AV × List Blk := (.v (.c (.bool r)), [])
abbrev impl_waySteps_8.P (a0 : St) (a1 : St) : Prop := True
abbrev impl_waySteps_8.Q (a0 : St) (a1 : St) (r : Bool) : Prop := (r = true ↔ a0.way = 3 ∧ a0.ver < 9)
def impl_waySteps_8.L : FL := fCons (fSh sSt) (fCons (fSh sSt) (fNil))
def impl_waySteps_8.f (a0 : St) (a1 : St) (X : AV × List Blk → Prop) : Prop := Lt (bif a0.way == 3 then decide (a0.ver < 9) else false) fun x1 => X (.v (.c (.bool x1)), [])
theorem impl_waySteps_8.w (a0 : St) (a1 : St) (K : AV → List Blk → Prop) : evFn (envC [] [] []) [] [] [] Try.f97 (impl_waySteps_8.L.inp (a0, (a1, ()))).1 (impl_waySteps_8.L.inp (a0, (a1, ()))).2 K = impl_waySteps_8.f a0 a1 (fun v => K v.1 v.2) := by kernel_rfl
theorem impl_waySteps_8.x (a0 : St) (a1 : St) (hp : impl_waySteps_8.P a0 a1) : May (impl_waySteps_8.Q a0 a1) (impl_waySteps_8.enc a0 a1) (impl_waySteps_8.f a0 a1) := by
  delta impl_waySteps_8.f
  refine May.lp (B.and (B.eq) (B.dec)) fun x1 e1 => ⟨(x1), ?_, fun X h => h⟩
  all_goals try dsimp only
  all_goals first | with_reducible assumption | omega | rfl | assumption | (simp only [List.length_append, List.length_cons, List.length_nil, List.length_set, List.length_replicate, Int.natCast_add, Int.natCast_one] at *; omega) | grind
theorem impl_waySteps_8.X : ∃ S : impl_waySteps_8.L.α → Bool, ∀ s, impl_waySteps_8.P s.1 s.2.1 → impl_waySteps_8.Q s.1 s.2.1 (S s) ∧ ∀ X, X (impl_waySteps_8.enc s.1 s.2.1 (S s)) → impl_waySteps_8.f s.1 s.2.1 X := mayS (false) fun s => impl_waySteps_8.x s.1 s.2.1
noncomputable def impl_waySteps_8.S (a0 : St) (a1 : St) : Bool := Classical.choose impl_waySteps_8.X (a0, (a1, ()))
theorem impl_waySteps_8.q (a0 : St) (a1 : St) : impl_waySteps_8.Q a0 a1 (impl_waySteps_8.S a0 a1) := (Classical.choose_spec impl_waySteps_8.X (a0, (a1, ())) trivial).1
noncomputable def impl_waySteps_8.c : Ctr := hctr 97 [true, true] impl_waySteps_8.L none (fun s => impl_waySteps_8.enc s.1 s.2.1 (impl_waySteps_8.S s.1 s.2.1))
theorem impl_waySteps_8.good : Good Try.prog impl_waySteps_8.c :=
  hgoodC (sh := []) (tk := []) (sp := []) (ct := []) (LL := []) noG (fn := Try.f97) (by kernel_rfl) (by kernel_rfl) (by rw [show loopsOf (bodyOf Try.f97) = [] from by kernel_rfl]; exact noL rfl) (consC' (bs := []) (by kernel_rfl) noC) fun s hp => Eq.mpr (impl_waySteps_8.w s.1 s.2.1 (fun r bs' => And (r = (impl_waySteps_8.c.out s).1) (bs' = (impl_waySteps_8.c.out s).2))) ((Classical.choose_spec impl_waySteps_8.X s trivial).2 _ ⟨rfl, rfl⟩)
/-! ### impl.waySteps$9 -/
def impl_waySteps_9.enc (a0 : St) (a1 : St) (r : Bool) : AV × List Blk := (.v (.c (.bool r)), [])
abbrev impl_waySteps_9.P (a0 : St) (a1 : St) : Prop := True
abbrev impl_waySteps_9.Q (a0 : St) (a1 : St) (r : Bool) : Prop := (r = true ↔ a0.way = 3 ∧ a1.way = 4 ∧ a1.want = wrap (a0.ver + 1))
def impl_waySteps_9.L : FL := fCons (fSh sSt) (fCons (fSh sSt) (fNil))
def impl_waySteps_9.f (a0 : St) (a1 : St) (X : AV × List Blk → Prop) : Prop := Lt (bif bif a0.way == 3 then a1.way == 4 else false then a1.want == (wrap (a0.ver + 1)) else false) fun x1 => X (.v (.c (.bool x1)), [])
theorem impl_waySteps_9.w (a0 : St) (a1 : St) (K : AV → List Blk → Prop) : evFn (envC [] [] []) [] [] [] Try.f99 (impl_waySteps_9.L.inp (a0, (a1, ()))).1 (impl_waySteps_9.L.inp (a0, (a1, ()))).2 K = impl_waySteps_9.f a0 a1 (fun v => K v.1 v.2) := by kernel_rfl
theorem impl_waySteps_9.x (a0 : St) (a1 : St) (hp : impl_waySteps_9.P a0 a1) : May (impl_waySteps_9.Q a0 a1) (impl_waySteps_9.enc a0 a1) (impl_waySteps_9.f a0 a1) := by
  delta impl_waySteps_9.f
  refine May.lp (B.and (B.and (B.eq) (B.eq)) (B.eq)) fun x1 e1 => ⟨(x1), ?_, fun X h => h⟩
  all_goals try dsimp only
  all_goals first | with_reducible assumption | omega | rfl | assumption | (simp only [List.length_append, List.length_cons, List.length_nil, List.length_set, List.length_replicate, Int.natCast_add, Int.natCast_one] at *; omega) | grind
theorem impl_waySteps_9.X : ∃ S : impl_waySteps_9.L.α → Bool, ∀ s, impl_waySteps_9.P s.1 s.2.1 → impl_waySteps_9.Q s.1 s.2.1 (S s) ∧ ∀ X, X (impl_waySteps_9.enc s.1 s.2.1 (S s)) → impl_waySteps_9.f s.1 s.2.1 X := mayS (false) fun s => impl_waySteps_9.x s.1 s.2.1
noncomputable def impl_waySteps_9.S (a0 : St) (a1 : St) : Bool := Classical.choose impl_waySteps_9.X (a0, (a1, ()))
theorem impl_waySteps_9.q (a0 : St) (a1 : St) : impl_waySteps_9.Q a0 a1 (impl_waySteps_9.S a0 a1) := (Classical.choose_spec impl_waySteps_9.X (a0, (a1, ())) trivial).1
noncomputable def impl_waySteps_9.c : Ctr := hctr 99 [true, true] impl_waySteps_9.L none (fun s => impl_waySteps_9.enc s.1 s.2.1 (impl_waySteps_9.S s.1 s.2.1))
theorem impl_waySteps_9.good : Good Try.prog impl_waySteps_9.c :=
  hgoodC (sh := []) (tk := []) (sp := []) (ct := []) (LL := []) noG (fn := Try.f99) (by kernel_rfl) (by kernel_rfl) (by rw [show loopsOf (bodyOf Try.f99) = [] from by kernel_rfl]; exact noL rfl) (consC' (bs := []) (by kernel_rfl) noC) fun s hp => Eq.mpr (impl_waySteps_9.w s.1 s.2.1 (fun r bs' => And (r = (impl_waySteps_9.c.out s).1) (bs' = (impl_waySteps_9.c.out s).2))) ((Classical.choose_spec impl_waySteps_9.X s trivial).2 _ ⟨rfl, rfl⟩)
/-! ### impl.wayMayFresh -/
def impl_wayMayFresh.enc (a0 : St) (a1 : St) (r : Bool) : AV × List Blk := (.v (.c (.bool r)), [])
abbrev impl_wayMayFresh.P (a0 : St) (a1 : St) : Prop := (a0.live.length ≤ 8) ∧ (a1.live.length ≤ 8)
abbrev impl_wayMayFresh.Q (a0 : St) (a1 : St) (r : Bool) : Prop := (r = true ↔ a0.way = 4 ∧ IdleS a0 ∧ (a1.way = 4 ∧ a1.want = a0.want ∧ IdleS a1 ∨ a1.ver = a0.want))
def impl_wayMayFresh.L : FL := fCons (fSh sSt) (fCons (fSh sSt) (fNil))
def impl_wayMayFresh.f (a0 : St) (a1 : St) (X : AV × List Blk → Prop) : Prop := Lt (bif a0.way != 4 then true else !(impl_wayIdle.S a0)) fun x1 => And (Imp (x1 = true) (X (.v (.c (.bool false)), []))) (Imp (x1 = false) (And (Imp ((a1.ver == a0.want) = true) (X (.v (.c (.bool true)), []))) (Imp ((a1.ver == a0.want) = false) (Lt (bif bif a1.way == 4 then a1.want == a0.want else false then (impl_wayIdle.S a1) else false) fun x2 => X (.v (.c (.bool x2)), [])))))
theorem impl_wayMayFresh.w (a0 : St) (a1 : St) (K : AV → List Blk → Prop) : evFn (envC [impl_wayIdle.c] [] []) [] [] [] Try.f100 (impl_wayMayFresh.L.inp (a0, (a1, ()))).1 (impl_wayMayFresh.L.inp (a0, (a1, ()))).2 K = impl_wayMayFresh.f a0 a1 (fun v => K v.1 v.2) := by kernel_rfl
theorem impl_wayMayFresh.x (a0 : St) (a1 : St) (hp : impl_wayMayFresh.P a0 a1) : May (impl_wayMayFresh.Q a0 a1) (impl_wayMayFresh.enc a0 a1) (impl_wayMayFresh.f a0 a1) := by
  obtain ⟨p0, p1⟩ := hp
  delta impl_wayMayFresh.f
  refine May.lp (B.or (B.ne) (B.not (idleIff (by omega)))) fun x1 e1 => May.iff (e1) (fun h1 => ?_) (fun h1 => ?_)
  refine ⟨(false), ?_, fun X h => h⟩; rotate_left 1
  refine May.iff (B.eq) (fun h2 => ?_) (fun h2 => ?_)
  refine ⟨(true), ?_, fun X h => h⟩; rotate_left 1
  refine May.lp (B.and (B.and (B.eq) (B.eq)) (idleIff (by omega))) fun x2 e2 => ⟨(x2), ?_, fun X h => h⟩
  all_goals try dsimp only
  all_goals first | with_reducible assumption | omega | rfl | assumption | (simp only [List.length_append, List.length_cons, List.length_nil, List.length_set, List.length_replicate, Int.natCast_add, Int.natCast_one] at *; omega) | grind
theorem impl_wayMayFresh.X : ∃ S : impl_wayMayFresh.L.α → Bool, ∀ s, impl_wayMayFresh.P s.1 s.2.1 → impl_wayMayFresh.Q s.1 s.2.1 (S s) ∧ ∀ X, X (impl_wayMayFresh.enc s.1 s.2.1 (S s)) → impl_wayMayFresh.f s.1 s.2.1 X := mayS (false) fun s => impl_wayMayFresh.x s.1 s.2.1
noncomputable def impl_wayMayFresh.S (a0 : St) (a1 : St) : Bool := Classical.choose impl_wayMayFresh.X (a0, (a1, ()))
theorem impl_wayMayFresh.q (a0 : St) (a1 : St) (hp : impl_wayMayFresh.P a0 a1) : impl_wayMayFresh.Q a0 a1 (impl_wayMayFresh.S a0 a1) := (Classical.choose_spec impl_wayMayFresh.X (a0, (a1, ())) hp).1
noncomputable def impl_wayMayFresh.c : Ctr := hctr 100 [true, true] impl_wayMayFresh.L (some fun s => impl_wayMayFresh.P s.1 s.2.1) (fun s => impl_wayMayFresh.enc s.1 s.2.1 (impl_wayMayFresh.S s.1 s.2.1))
theorem impl_wayMayFresh.good : Good Try.prog impl_wayMayFresh.c :=
  hgoodC (sh := []) (tk := []) (sp := []) (ct := []) (LL := []) (consG impl_wayIdle.good noG) (fn := Try.f100) (by kernel_rfl) (by kernel_rfl) (by rw [show loopsOf (bodyOf Try.f100) = [] from by kernel_rfl]; exact noL rfl) (consC' (bs := []) (by kernel_rfl) noC) fun s hp => Eq.mpr (impl_wayMayFresh.w s.1 s.2.1 (fun r bs' => And (r = (impl_wayMayFresh.c.out s).1) (bs' = (impl_wayMayFresh.c.out s).2))) ((Classical.choose_spec impl_wayMayFresh.X s (hp _ rfl)).2 _ ⟨rfl, rfl⟩)
/-! ### impl.waySteps -/
def impl_waySteps.enc  (r : (List Ws)) : AV × List Blk := (.v (.c (.own 0 3 88)), [.arr (.wss r)])
abbrev impl_waySteps.P  : Prop := True
abbrev impl_waySteps.Q  (r : (List Ws)) : Prop := (r = steps)
def impl_waySteps.L : FL := fNil
def impl_waySteps.f  (X : AV × List Blk → Prop) : Prop := Lt ([(⟨1, some 89, some 90⟩ : Ws), (⟨2, some 91, some 92⟩ : Ws), (⟨3, some 93, some 94⟩ : Ws), (⟨4, some 95, some 96⟩ : Ws), (⟨5, some 97, some 98⟩ : Ws), (⟨6, some 99, some 98⟩ : Ws), (⟨7, some 100, some 101⟩ : Ws)]) fun x1 => X (.v (.c (.own 0 3 88)), [.arr (.wss x1)])
theorem impl_waySteps.w  (K : AV → List Blk → Prop) : evFn (envC [] [] []) [] [[some (.ws, 88)]] [] Try.f77 (impl_waySteps.L.inp ()).1 (impl_waySteps.L.inp ()).2 K = impl_waySteps.f  (fun v => K v.1 v.2) := by kernel_rfl
theorem impl_waySteps.x  (hp : impl_waySteps.P ) : May (impl_waySteps.Q ) (impl_waySteps.enc ) (impl_waySteps.f ) := by
  delta impl_waySteps.f
  refine May.lt fun x1 e1 => ⟨(x1), ?_, fun X h => h⟩
  all_goals try dsimp only
  all_goals first | with_reducible assumption | omega | (exact e1; done) | (simp only [List.length_append, List.length_cons, List.length_nil, List.length_set, List.length_replicate, Int.natCast_add, Int.natCast_one] at *; omega) | grind
theorem impl_waySteps.X : ∃ S : impl_waySteps.L.α → (List Ws), ∀ s, impl_waySteps.P  → impl_waySteps.Q  (S s) ∧ ∀ X, X (impl_waySteps.enc  (S s)) → impl_waySteps.f  X := mayS ([]) fun s => impl_waySteps.x 
noncomputable def impl_waySteps.S  : (List Ws) := Classical.choose impl_waySteps.X ()
theorem impl_waySteps.q  : impl_waySteps.Q  (impl_waySteps.S ) := (Classical.choose_spec impl_waySteps.X () trivial).1
noncomputable def impl_waySteps.c : Ctr := hctr 77 [] impl_waySteps.L none (fun s => impl_waySteps.enc  (impl_waySteps.S ))
theorem impl_waySteps.good : Good Try.prog impl_waySteps.c :=
  hgoodC (sh := [[some (.ws, 88)]]) (tk := []) (sp := []) (ct := []) (LL := []) noG (fn := Try.f77) (by kernel_rfl) (by kernel_rfl) (by rw [show loopsOf (bodyOf Try.f77) = [] from by kernel_rfl]; exact noL rfl) (consC' (bs := []) (by kernel_rfl) noC) fun s hp => Eq.mpr (impl_waySteps.w  (fun r bs' => And (r = (impl_waySteps.c.out s).1) (bs' = (impl_waySteps.c.out s).2))) ((Classical.choose_spec impl_waySteps.X s trivial).2 _ ⟨rfl, rfl⟩)
/-! ### impl.wayFind -/
abbrev impl_wayFind_l2.P (x2_0 : Int) (x2_1 : Ws) (x2_2 : Bool) (x2_3 : List Ws) (x2_4 : Int) (x2_5 : Int) : Prop := (0 ≤ x2_5) ∧ (x2_4 ≤ 9223372036854775807) ∧ (x2_4 = (x2_3.length : Int)) ∧ (x2_3 = steps) ∧ (x2_4 = 7) ∧ (x2_5 ≤ 7) ∧ (¬ (1 ≤ x2_0 ∧ x2_0 ≤ x2_5))
abbrev impl_wayFind_l2.Q (x2_0 : Int) (x2_1 : Ws) (x2_2 : Bool) (x2_3 : List Ws) (x2_4 : Int) (x2_5 : Int) (r : Nat × Ws × Bool × Unit) : Prop := (r.1 = 0 → FindQ x2_0 r.2.1 r.2.2.1) ∧ (¬ r.1 = 0 → ¬ (1 ≤ x2_0 ∧ x2_0 ≤ 7))
def impl_wayFind_l2.M (x2_0 : Int) (x2_1 : Ws) (x2_2 : Bool) (x2_3 : List Ws) (x2_4 : Int) (x2_5 : Int) : Nat := (x2_4 - x2_5).toNat
def impl_wayFind_l2.L : FL := fCons (fC cInt) (fCons (fC (cPtr 1 cWs rfl)) (fCons (fC cBool) (fCons (fC (cOwn kWss 88)) (fCons (fC cInt) (fCons (fC cInt) (fNil))))))
def impl_wayFind_l2.o0 (x2_0 : Int) (x2_1 : Ws) (x2_2 : Bool) (x2_3 : List Ws) (x2_4 : Int) (x2_5 : Int) (r : Nat × Ws × Bool × Unit) : Ex × List FV × List Blk := (.ret, [.c (.ptr 0 0), .c (.bool r.2.2.1)], [.raw 1 [.int r.2.1.step, .fnv r.2.1.may, .fnv r.2.1.act]])
def impl_wayFind_l2.o1 (x2_0 : Int) (x2_1 : Ws) (x2_2 : Bool) (x2_3 : List Ws) (x2_4 : Int) (x2_5 : Int) (r : Nat × Ws × Bool × Unit) : Ex × List FV × List Blk := (.exit 0, [.c (.ptr 0 0)], [.raw 1 [.int x2_1.step, .fnv x2_1.may, .fnv x2_1.act]])
def impl_wayFind_l2.o (x2_0 : Int) (x2_1 : Ws) (x2_2 : Bool) (x2_3 : List Ws) (x2_4 : Int) (x2_5 : Int) (r : Nat × Ws × Bool × Unit) : Ex × List FV × List Blk := pickAlt [(Nat.beq r.1 0, impl_wayFind_l2.o0 x2_0 x2_1 x2_2 x2_3 x2_4 x2_5 r)] (impl_wayFind_l2.o1 x2_0 x2_1 x2_2 x2_3 x2_4 x2_5 r)
def impl_wayFind_l2.f (x2_0 : Int) (x2_1 : Ws) (x2_2 : Bool) (x2_3 : List Ws) (x2_4 : Int) (x2_5 : Int) (X : (impl_wayFind_l2.L.α ⊕ (Ex × List FV × List Blk) → Prop)) : Prop := And (Imp ((decide (x2_5 < x2_4)) = true) (And ((0 : Int) ≤ x2_5 ∧ x2_5 < (x2_3.length : Int)) (And ((x2_5).toNat < x2_3.length) (And (Imp (((x2_3.getD (x2_5).toNat zWs).step == x2_0) = true) (X (.inr (.ret, [.c (.ptr 0 0), .c (.bool true)], [.raw 1 [.int (x2_3.getD (x2_5).toNat zWs).step, .fnv (x2_3.getD (x2_5).toNat zWs).may, .fnv (x2_3.getD (x2_5).toNat zWs).act]])))) (Imp (((x2_3.getD (x2_5).toNat zWs).step == x2_0) = false) (Lt (wrap (x2_5 + 1)) fun x2 => X (.inl (x2_0, (x2_1, (x2_2, (x2_3, (x2_4, (x2, ()))))))))))))) (Imp ((decide (x2_5 < x2_4)) = false) (X (.inr (.exit 0, [.c (.ptr 0 0)], [.raw 1 [.int x2_1.step, .fnv x2_1.may, .fnv x2_1.act]]))))
def impl_wayFind_l2.d (S : impl_wayFind_l2.L.α → Nat × Ws × Bool × Unit) : LDat := ldat 2 [0, 2, 3, 6, 7, 8] [] impl_wayFind_l2.L (fun s => impl_wayFind_l2.P s.1 s.2.1 s.2.2.1 s.2.2.2.1 s.2.2.2.2.1 s.2.2.2.2.2.1) (fun s => [(Nat.beq (S s).1 0, impl_wayFind_l2.o0 s.1 s.2.1 s.2.2.1 s.2.2.2.1 s.2.2.2.2.1 s.2.2.2.2.2.1 (S s))]) (fun s => impl_wayFind_l2.o1 s.1 s.2.1 s.2.2.1 s.2.2.2.1 s.2.2.2.2.1 s.2.2.2.2.2.1 (S s)) (fun s => impl_wayFind_l2.M s.1 s.2.1 s.2.2.1 s.2.2.2.1 s.2.2.2.2.1 s.2.2.2.2.2.1) 0 (fun e => match e with | .ret => [2, 3] | _ => [2]) (fun _ => [])
theorem impl_wayFind_l2.w (S : impl_wayFind_l2.L.α → Nat × Ws × Bool × Unit) (x2_0 : Int) (x2_1 : Ws) (x2_2 : Bool) (x2_3 : List Ws) (x2_4 : Int) (x2_5 : Int) : evBody (envC [impl_waySteps.c] [] []) [] (bodyAt Try.f66 0) (impl_wayFind_l2.d S) (x2_0, (x2_1, (x2_2, (x2_3, (x2_4, (x2_5, ())))))) = impl_wayFind_l2.f x2_0 x2_1 x2_2 x2_3 x2_4 x2_5 (lpx (impl_wayFind_l2.d S).pre (impl_wayFind_l2.d S).μ (impl_wayFind_l2.d S).out (x2_0, (x2_1, (x2_2, (x2_3, (x2_4, (x2_5, ()))))))) := by kernel_rfl
theorem impl_wayFind_l2.x (x2_0 : Int) (x2_1 : Ws) (x2_2 : Bool) (x2_3 : List Ws) (x2_4 : Int) (x2_5 : Int) (hp : impl_wayFind_l2.P x2_0 x2_1 x2_2 x2_3 x2_4 x2_5) : May (R := impl_wayFind_l2.L.α ⊕ (Nat × Ws × Bool × Unit)) (lpq (fun s => impl_wayFind_l2.P s.1 s.2.1 s.2.2.1 s.2.2.2.1 s.2.2.2.2.1 s.2.2.2.2.2.1) (fun s => impl_wayFind_l2.M s.1 s.2.1 s.2.2.1 s.2.2.2.1 s.2.2.2.2.1 s.2.2.2.2.2.1) (fun s => impl_wayFind_l2.Q s.1 s.2.1 s.2.2.1 s.2.2.2.1 s.2.2.2.2.1 s.2.2.2.2.2.1) (fun s => impl_wayFind_l2.o s.1 s.2.1 s.2.2.1 s.2.2.2.1 s.2.2.2.2.1 s.2.2.2.2.2.1) (x2_0, (x2_1, (x2_2, (x2_3, (x2_4, (x2_5, ()))))))) (lpo (fun s => impl_wayFind_l2.o s.1 s.2.1 s.2.2.1 s.2.2.2.1 s.2.2.2.2.1 s.2.2.2.2.2.1) (x2_0, (x2_1, (x2_2, (x2_3, (x2_4, (x2_5, ()))))))) (impl_wayFind_l2.f x2_0 x2_1 x2_2 x2_3 x2_4 x2_5) := by
  obtain ⟨p0, p1, p2, p3, p4, p5, p6⟩ := hp
  delta impl_wayFind_l2.f
  refine May.iff (B.dec) (fun h1 => ?_) (fun h1 => ?_)
  refine May.chk ?_ fun c1 => May.chk ?_ fun c2 => May.iff (B.eq) (fun h2 => ?_) (fun h2 => ?_); rotate_left 2
  refine ⟨.inr (0, ((x2_3.getD (x2_5).toNat zWs), (true, ()))), ⟨?_, ?_⟩, fun X h => h⟩; rotate_left 2
  refine May.lw ⟨?_, ?_⟩ fun x2 e2 => ⟨.inl (x2_0, (x2_1, (x2_2, (x2_3, (x2_4, (x2, ())))))), ⟨⟨?_, ?_, ?_, ?_, ?_, ?_, ?_⟩, ?_, ?_, fun r => rfl⟩, fun X h => h⟩; rotate_left 11
  refine ⟨.inr (1, (zWs, (false, ()))), ⟨?_, ?_⟩, fun X h => h⟩
  all_goals try dsimp only
  all_goals first | with_reducible assumption | omega | exact fun _ q => q | (unfold impl_wayFind_l2.M; omega) | (rw [show x1 = steps from q1]; rfl; done) | (rw [show x1 = steps from q1]; decide; done) | (rw [p3]; exact fun _ => find_y p0 (by show x2_5 < 7; omega) (by rw [← p3]; exact h2); done) | (have := steps_at p0 (by omega); rw [p3] at h2; omega; done) | rfl | assumption | (simp only [List.length_append, List.length_cons, List.length_nil, List.length_set, List.length_replicate, Int.natCast_add, Int.natCast_one] at *; omega) | grind
theorem impl_wayFind_l2.X : ∃ S : impl_wayFind_l2.L.α → Nat × Ws × Bool × Unit, ∀ s, impl_wayFind_l2.P s.1 s.2.1 s.2.2.1 s.2.2.2.1 s.2.2.2.2.1 s.2.2.2.2.2.1 → impl_wayFind_l2.Q s.1 s.2.1 s.2.2.1 s.2.2.2.1 s.2.2.2.2.1 s.2.2.2.2.2.1 (S s) ∧ impl_wayFind_l2.f s.1 s.2.1 s.2.2.1 s.2.2.2.1 s.2.2.2.2.1 s.2.2.2.2.2.1 (lpx (fun s => impl_wayFind_l2.P s.1 s.2.1 s.2.2.1 s.2.2.2.1 s.2.2.2.2.1 s.2.2.2.2.2.1) (fun s => impl_wayFind_l2.M s.1 s.2.1 s.2.2.1 s.2.2.2.1 s.2.2.2.2.1 s.2.2.2.2.2.1) (fun s => impl_wayFind_l2.o s.1 s.2.1 s.2.2.1 s.2.2.2.1 s.2.2.2.2.1 s.2.2.2.2.2.1 (S s)) s) := loopS (0, (zWs, (false, ()))) fun s => impl_wayFind_l2.x s.1 s.2.1 s.2.2.1 s.2.2.2.1 s.2.2.2.2.1 s.2.2.2.2.2.1
noncomputable def impl_wayFind_l2.R (x2_0 : Int) (x2_1 : Ws) (x2_2 : Bool) (x2_3 : List Ws) (x2_4 : Int) (x2_5 : Int) : Nat × Ws × Bool × Unit := Classical.choose impl_wayFind_l2.X (x2_0, (x2_1, (x2_2, (x2_3, (x2_4, (x2_5, ()))))))
theorem impl_wayFind_l2.q (x2_0 : Int) (x2_1 : Ws) (x2_2 : Bool) (x2_3 : List Ws) (x2_4 : Int) (x2_5 : Int) (hp : impl_wayFind_l2.P x2_0 x2_1 x2_2 x2_3 x2_4 x2_5) : impl_wayFind_l2.Q x2_0 x2_1 x2_2 x2_3 x2_4 x2_5 (impl_wayFind_l2.R x2_0 x2_1 x2_2 x2_3 x2_4 x2_5) := (Classical.choose_spec impl_wayFind_l2.X (x2_0, (x2_1, (x2_2, (x2_3, (x2_4, (x2_5, ())))))) hp).1
noncomputable def impl_wayFind_l2.k : LCtr := (impl_wayFind_l2.d (fun s => impl_wayFind_l2.R s.1 s.2.1 s.2.2.1 s.2.2.2.1 s.2.2.2.2.1 s.2.2.2.2.2.1)).ctr
theorem impl_wayFind_l2.g (hG : ∀ c ∈ [impl_waySteps.c], Good Try.prog c) : LGood Try.prog Try.f66.ntmps impl_wayFind_l2.k (bodyAt Try.f66 0) := lgoodC (sp := []) (ct := []) (LL := []) hG (by kernel_rfl) (by rw [show loopsOf (bodyAt Try.f66 0) = [] from by kernel_rfl]; exact noL rfl) (consC' (bs := []) (by kernel_rfl) noC) fun s hp => Eq.mpr (impl_wayFind_l2.w (fun s => impl_wayFind_l2.R s.1 s.2.1 s.2.2.1 s.2.2.2.1 s.2.2.2.2.1 s.2.2.2.2.2.1) s.1 s.2.1 s.2.2.1 s.2.2.2.1 s.2.2.2.2.1 s.2.2.2.2.2.1) (Classical.choose_spec impl_wayFind_l2.X s hp).2
def impl_wayFind.enc (a0 : Int) (r : Ws × Bool) : AV × List Blk := (.tup [.agg [.int r.1.step, .fnv r.1.may, .fnv r.1.act], .c (.bool r.2)], [])
abbrev impl_wayFind.P (a0 : Int) : Prop := True
abbrev impl_wayFind.Q (a0 : Int) (r : Ws × Bool) : Prop := (FindQ a0 r.1 r.2)
def impl_wayFind.L : FL := fCons (fSh sInt) (fNil)
def impl_wayFind.f (a0 : Int) (X : AV × List Blk → Prop) : Prop := Lt (impl_waySteps.S) fun x1 => And (impl_wayFind_l2.P a0 (⟨0, none, none⟩ : Ws) false x1 (x1.length : Int) 0) (Lt (impl_wayFind_l2.R a0 (⟨0, none, none⟩ : Ws) false x1 (x1.length : Int) 0) fun x3 => And (Imp (Nat.beq x3.1 0 = true) (X (.tup [.agg [.int x3.2.1.step, .fnv x3.2.1.may, .fnv x3.2.1.act], .c (.bool x3.2.2.1)], []))) (Imp (Nat.beq x3.1 0 = false) (X (.tup [.agg [.int 0, .fnv none, .fnv none], .c (.bool false)], []))))
theorem impl_wayFind.w (a0 : Int) (K : AV → List Blk → Prop) : evFn (envC [impl_waySteps.c] [] []) [impl_wayFind_l2.k] [] [] Try.f66 (impl_wayFind.L.inp (a0, ())).1 (impl_wayFind.L.inp (a0, ())).2 K = impl_wayFind.f a0 (fun v => K v.1 v.2) := by kernel_rfl
theorem impl_wayFind.x (a0 : Int) (hp : impl_wayFind.P a0) : May (impl_wayFind.Q a0) (impl_wayFind.enc a0) (impl_wayFind.f a0) := by
  delta impl_wayFind.f
  refine May.lq (impl_waySteps.Q ) (impl_waySteps.q ) fun x1 q1 => May.chk ⟨?_, ?_, ?_, ?_, ?_, ?_, ?_⟩ fun c1 => May.lq (impl_wayFind_l2.Q a0 (⟨0, none, none⟩ : Ws) false x1 (x1.length : Int) 0) (impl_wayFind_l2.q a0 (⟨0, none, none⟩ : Ws) false x1 (x1.length : Int) 0 c1) fun x3 q3 => have q3_0 := q3.1; have q3_1 := q3.2; May.iff B.nbeq (fun h1 => ?_) (fun h1 => ?_); rotate_left 7
  refine ⟨(x3.2.1, x3.2.2.1), ?_, fun X h => h⟩; rotate_left 1
  refine ⟨((⟨0, none, none⟩ : Ws), false), ?_, fun X h => h⟩
  all_goals try dsimp only
  all_goals first | with_reducible assumption | omega | (rw [show x1 = steps from q1]; rfl; done) | (rw [show x1 = steps from q1]; decide; done) | rfl | assumption | (simp only [List.length_append, List.length_cons, List.length_nil, List.length_set, List.length_replicate, Int.natCast_add, Int.natCast_one] at *; omega) | grind
theorem impl_wayFind.X : ∃ S : impl_wayFind.L.α → Ws × Bool, ∀ s, impl_wayFind.P s.1 → impl_wayFind.Q s.1 (S s) ∧ ∀ X, X (impl_wayFind.enc s.1 (S s)) → impl_wayFind.f s.1 X := mayS (zWs, false) fun s => impl_wayFind.x s.1
noncomputable def impl_wayFind.S (a0 : Int) : Ws × Bool := Classical.choose impl_wayFind.X (a0, ())
theorem impl_wayFind.q (a0 : Int) : impl_wayFind.Q a0 (impl_wayFind.S a0) := (Classical.choose_spec impl_wayFind.X (a0, ()) trivial).1
noncomputable def impl_wayFind.c : Ctr := hctr 66 [false] impl_wayFind.L none (fun s => impl_wayFind.enc s.1 (impl_wayFind.S s.1))
theorem impl_wayFind.good : Good Try.prog impl_wayFind.c :=
  hgoodC (sh := []) (tk := []) (sp := []) (ct := []) (LL := [impl_wayFind_l2.k]) (consG impl_waySteps.good noG) (fn := Try.f66) (by kernel_rfl) (by kernel_rfl) (by rw [show loopsOf (bodyOf Try.f66) = [(bodyAt Try.f66 0)] from by kernel_rfl]; exact consL (l := impl_wayFind_l2.k) (by kernel_rfl) (impl_wayFind_l2.g (consG impl_waySteps.good noG)) (noL rfl)) (consC' (bs := []) (by kernel_rfl) noC) fun s hp => Eq.mpr (impl_wayFind.w s.1 (fun r bs' => And (r = (impl_wayFind.c.out s).1) (bs' = (impl_wayFind.c.out s).2))) ((Classical.choose_spec impl_wayFind.X s trivial).2 _ ⟨rfl, rfl⟩)
/-! ### impl.WayMay -/
def impl_WayMay.enc (a0 : St) (a1 : St) (a2 : Int) (r : Bool) : AV × List Blk := (.v (.c (.bool r)), [])
abbrev impl_WayMay.P (a0 : St) (a1 : St) (a2 : Int) : Prop := True
abbrev impl_WayMay.Q (a0 : St) (a1 : St) (a2 : Int) (r : Bool) : Prop := (r = true ↔ MayW a0 a1 a2)
def impl_WayMay.L : FL := fCons (fSh sSt) (fCons (fSh sSt) (fCons (fSh sInt) (fNil)))
def impl_WayMay.f (a0 : St) (a1 : St) (a2 : Int) (X : AV × List Blk → Prop) : Prop := Lt ((impl_wayFind.S a2)) fun x1 => Or (Lt (bif bif x1.2 then (impl_StateOk.S a0) else false then (impl_StateOk.S a1) else false) fun x2 => And (Imp (And (x2 = true) (True)) (x1.1.may = some 89)) (X (.v (.c (.bool (bif x2 then (a0.way == 0) else false))), []))) (Or (Lt (bif bif x1.2 then (impl_StateOk.S a0) else false then (impl_StateOk.S a1) else false) fun x3 => And (Imp (And (x3 = true) (True)) (x1.1.may = some 91)) (Lt ((impl_wayMayTry.S a0 a1)) fun x4 => X (.v (.c (.bool (bif x3 then x4 else false))), []))) (Or (Lt (bif bif x1.2 then (impl_StateOk.S a0) else false then (impl_StateOk.S a1) else false) fun x5 => And (Imp (And (x5 = true) (True)) (x1.1.may = some 93)) (Lt ((impl_waySteps_4.S a0 a1)) fun x6 => X (.v (.c (.bool (bif x5 then x6 else false))), []))) (Or (Lt (bif bif x1.2 then (impl_StateOk.S a0) else false then (impl_StateOk.S a1) else false) fun x7 => And (Imp (And (x7 = true) (True)) (x1.1.may = some 95)) (Lt ((impl_waySteps_6.S a0 a1)) fun x8 => X (.v (.c (.bool (bif x7 then x8 else false))), []))) (Or (Lt (bif bif x1.2 then (impl_StateOk.S a0) else false then (impl_StateOk.S a1) else false) fun x9 => And (Imp (And (x9 = true) (True)) (x1.1.may = some 97)) (Lt ((impl_waySteps_8.S a0 a1)) fun x10 => X (.v (.c (.bool (bif x9 then x10 else false))), []))) (Or (Lt (bif bif x1.2 then (impl_StateOk.S a0) else false then (impl_StateOk.S a1) else false) fun x11 => And (Imp (And (x11 = true) (True)) (x1.1.may = some 99)) (Lt ((impl_waySteps_9.S a0 a1)) fun x12 => X (.v (.c (.bool (bif x11 then x12 else false))), []))) (Lt (bif bif x1.2 then (impl_StateOk.S a0) else false then (impl_StateOk.S a1) else false) fun x13 => And (Imp (And (x13 = true) (True)) (And (impl_wayMayFresh.P a0 a1) (x1.1.may = some 100))) (Lt ((impl_wayMayFresh.S a0 a1)) fun x14 => X (.v (.c (.bool (bif x13 then x14 else false))), []))))))))
theorem impl_WayMay.w (a0 : St) (a1 : St) (a2 : Int) (K : AV → List Blk → Prop) : evFn (envC [impl_waySteps_1.c, impl_wayMayTry.c, impl_waySteps_4.c, impl_waySteps_6.c, impl_waySteps_8.c, impl_waySteps_9.c, impl_wayMayFresh.c, impl_wayFind.c, impl_StateOk.c] [(2, [[(28, 0)], [(28, 1)], [(28, 2)], [(28, 3)], [(28, 4)], [(28, 5)], [(28, 6)]])] []) [] [] [] Try.f34 (impl_WayMay.L.inp (a0, (a1, (a2, ())))).1 (impl_WayMay.L.inp (a0, (a1, (a2, ())))).2 K = impl_WayMay.f a0 a1 a2 (fun v => K v.1 v.2) := by kernel_rfl
theorem impl_WayMay.x (a0 : St) (a1 : St) (a2 : Int) (hp : impl_WayMay.P a0 a1 a2) : May (impl_WayMay.Q a0 a1 a2) (impl_WayMay.enc a0 a1 a2) (impl_WayMay.f a0 a1 a2) := by
  delta impl_WayMay.f
  refine May.lq (impl_wayFind.Q a2) (impl_wayFind.q a2) fun x1 q1 => May.alt (c := a2 == 1) (B.eq) (fun h1 => ?_) (fun h1 => May.alt (c := a2 == 2) (B.eq) (fun h2 => ?_) (fun h2 => May.alt (c := a2 == 3) (B.eq) (fun h3 => ?_) (fun h3 => May.alt (c := a2 == 4) (B.eq) (fun h4 => ?_) (fun h4 => May.alt (c := a2 == 5) (B.eq) (fun h5 => ?_) (fun h5 => May.alt (c := a2 == 6) (B.eq) (fun h6 => ?_) (fun h6 => ?_))))))
  refine May.lp (B.and (B.and (Iff.rfl) (implSt)) (implSt)) fun x2 e2 => May.chk (fun hπ => have g1 := Iff.mp (e2) hπ.1; ?_) fun c1 => ⟨(bif x2 then (a0.way == 0) else false), ?_, fun X h => h⟩; rotate_left 2
  refine May.lp (B.and (B.and (Iff.rfl) (implSt)) (implSt)) fun x3 e3 => May.chk (fun hπ => have g1 := Iff.mp (e3) hπ.1; ?_) fun c2 => May.lqe (impl_wayMayTry.Q a0 a1) (impl_wayMayTry.q a0 a1) fun x4 e4 q4 => ⟨(bif x3 then x4 else false), ?_, fun X h => h⟩; rotate_left 2
  refine May.lp (B.and (B.and (Iff.rfl) (implSt)) (implSt)) fun x5 e5 => May.chk (fun hπ => have g1 := Iff.mp (e5) hπ.1; ?_) fun c3 => May.lqe (impl_waySteps_4.Q a0 a1) (impl_waySteps_4.q a0 a1) fun x6 e6 q6 => ⟨(bif x5 then x6 else false), ?_, fun X h => h⟩; rotate_left 2
  refine May.lp (B.and (B.and (Iff.rfl) (implSt)) (implSt)) fun x7 e7 => May.chk (fun hπ => have g1 := Iff.mp (e7) hπ.1; ?_) fun c4 => May.lqe (impl_waySteps_6.Q a0 a1) (impl_waySteps_6.q a0 a1) fun x8 e8 q8 => ⟨(bif x7 then x8 else false), ?_, fun X h => h⟩; rotate_left 2
  refine May.lp (B.and (B.and (Iff.rfl) (implSt)) (implSt)) fun x9 e9 => May.chk (fun hπ => have g1 := Iff.mp (e9) hπ.1; ?_) fun c5 => May.lqe (impl_waySteps_8.Q a0 a1) (impl_waySteps_8.q a0 a1) fun x10 e10 q10 => ⟨(bif x9 then x10 else false), ?_, fun X h => h⟩; rotate_left 2
  refine May.lp (B.and (B.and (Iff.rfl) (implSt)) (implSt)) fun x11 e11 => May.chk (fun hπ => have g1 := Iff.mp (e11) hπ.1; ?_) fun c6 => May.lqe (impl_waySteps_9.Q a0 a1) (impl_waySteps_9.q a0 a1) fun x12 e12 q12 => ⟨(bif x11 then x12 else false), ?_, fun X h => h⟩; rotate_left 2
  refine May.lp (B.and (B.and (Iff.rfl) (implSt)) (implSt)) fun x13 e13 => May.chk (fun hπ => have g1 := Iff.mp (e13) hπ.1; ?_) fun c7 => May.lq (fun x => impl_wayMayFresh.P a0 a1 → impl_wayMayFresh.Q a0 a1 x) (impl_wayMayFresh.q a0 a1) fun x14 q14 => ⟨(bif x13 then x14 else false), ?_, fun X h => h⟩
  all_goals try dsimp only
  all_goals first | with_reducible assumption | omega | (exact may_at q1 g1.1.1 h1 rfl; done) | (exact may_at q1 g1.1.1 h2 rfl; done) | (exact may_at q1 g1.1.1 h3 rfl; done) | (exact may_at q1 g1.1.1 h4 rfl; done) | (exact may_at q1 g1.1.1 h5 rfl; done) | (exact may_at q1 g1.1.1 h6 rfl; done) | (exact ⟨⟨live8 g1.1.2, live8 g1.2⟩, may_at q1 g1.1.1 (by have := (q1.1 g1.1.1).1; omega) (j := 7) rfl⟩; done) | (exact wayM q1 e2 (fun _ => h1) fun _ _ => B.eq.trans mayK1.symm; done) | (exact wayM q1 e3 (fun _ => h2) fun h _ => q4.trans (mayK2 h).symm; done) | (exact wayM q1 e5 (fun _ => h3) fun _ _ => q6.trans (mayK3).symm; done) | (exact wayM q1 e7 (fun _ => h4) fun _ _ => q8.trans (mayK4).symm; done) | (exact wayM q1 e9 (fun _ => h5) fun _ _ => q10.trans (mayK5).symm; done) | (exact wayM q1 e11 (fun _ => h6) fun _ _ => q12.trans (mayK6).symm; done) | (exact wayM q1 e13 (j := 7) (fun h => by have := (q1.1 h).1; omega) fun h h' => (q14 ⟨live8 h, live8 h'⟩).trans mayK7.symm; done)
theorem impl_WayMay.X : ∃ S : impl_WayMay.L.α → Bool, ∀ s, impl_WayMay.P s.1 s.2.1 s.2.2.1 → impl_WayMay.Q s.1 s.2.1 s.2.2.1 (S s) ∧ ∀ X, X (impl_WayMay.enc s.1 s.2.1 s.2.2.1 (S s)) → impl_WayMay.f s.1 s.2.1 s.2.2.1 X := mayS (false) fun s => impl_WayMay.x s.1 s.2.1 s.2.2.1
noncomputable def impl_WayMay.S (a0 : St) (a1 : St) (a2 : Int) : Bool := Classical.choose impl_WayMay.X (a0, (a1, (a2, ())))
theorem impl_WayMay.q (a0 : St) (a1 : St) (a2 : Int) : impl_WayMay.Q a0 a1 a2 (impl_WayMay.S a0 a1 a2) := (Classical.choose_spec impl_WayMay.X (a0, (a1, (a2, ()))) trivial).1
noncomputable def impl_WayMay.c : Ctr := hctr 34 [true, true, false] impl_WayMay.L none (fun s => impl_WayMay.enc s.1 s.2.1 s.2.2.1 (impl_WayMay.S s.1 s.2.1 s.2.2.1))
theorem impl_WayMay.good : Good Try.prog impl_WayMay.c :=
  hgoodC (sh := []) (tk := []) (sp := [(2, [[(28, 0)], [(28, 1)], [(28, 2)], [(28, 3)], [(28, 4)], [(28, 5)], [(28, 6)]])]) (ct := []) (LL := []) (consG impl_waySteps_1.good (consG impl_wayMayTry.good (consG impl_waySteps_4.good (consG impl_waySteps_6.good (consG impl_waySteps_8.good (consG impl_waySteps_9.good (consG impl_wayMayFresh.good (consG impl_wayFind.good (consG impl_StateOk.good noG))))))))) (fn := Try.f34) (by kernel_rfl) (by kernel_rfl) (by rw [show loopsOf (bodyOf Try.f34) = [] from by kernel_rfl]; exact noL rfl) (consC' (bs := []) (by kernel_rfl) noC) fun s hp => Eq.mpr (impl_WayMay.w s.1 s.2.1 s.2.2.1 (fun r bs' => And (r = (impl_WayMay.c.out s).1) (bs' = (impl_WayMay.c.out s).2))) ((Classical.choose_spec impl_WayMay.X s trivial).2 _ ⟨rfl, rfl⟩)
end Hw
end Go.Proofs.Ytmhighcagpbmeaa
