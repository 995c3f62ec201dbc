/- Lists: made by gen.py. -/
import Derived.Test.YtmhighcagpbmeaaG0
set_option linter.unusedVariables false
set_option linter.unusedSimpArgs false
set_option maxRecDepth 100000
set_option maxHeartbeats 400000
namespace Go.Proofs.Ytmhighcagpbmeaa
namespace Hw
open Go
attribute [local irreducible] evFn evBody wrap wxor
/-! ### laws.lwInts -/
abbrev laws_lwInts_l4.P (x4_0 : List Int) (x4_1 : List Int) (x4_2 : Bool) (x4_3 : Int) : Prop := (0 ≤ x4_3) ∧ ((x4_0.length : Int) ≤ 9223372036854775807) ∧ (((x4_0.length : Int) != (x4_1.length : Int)) = false) ∧ ((x4_0.length : Int) = (x4_1.length : Int)) ∧ (∀ k : Nat, (k : Int) < x4_3 → x4_0.getD k 0 = x4_1.getD k 0)
abbrev laws_lwInts_l4.Q (x4_0 : List Int) (x4_1 : List Int) (x4_2 : Bool) (x4_3 : Int) (r : Nat × Bool × Unit) : Prop := (r.1 = 0 → r.2.1 = false ∧ ¬ x4_0 = x4_1) ∧ (¬ r.1 = 0 → x4_0 = x4_1)
def laws_lwInts_l4.M (x4_0 : List Int) (x4_1 : List Int) (x4_2 : Bool) (x4_3 : Int) : Nat := ((x4_0.length : Int) - x4_3).toNat
def laws_lwInts_l4.L : FL := fCons (fC (cArr false kInts)) (fCons (fC (cArr false kInts)) (fCons (fC cBool) (fCons (fC cInt) (fNil))))
def laws_lwInts_l4.o0 (x4_0 : List Int) (x4_1 : List Int) (x4_2 : Bool) (x4_3 : Int) (r : Nat × Bool × Unit) : Ex × List FV × List Blk := (.ret, [.c (.bool r.2.1)], [])
def laws_lwInts_l4.o1 (x4_0 : List Int) (x4_1 : List Int) (x4_2 : Bool) (x4_3 : Int) (r : Nat × Bool × Unit) : Ex × List FV × List Blk := (.exit 0, [], [])
def laws_lwInts_l4.o (x4_0 : List Int) (x4_1 : List Int) (x4_2 : Bool) (x4_3 : Int) (r : Nat × Bool × Unit) : Ex × List FV × List Blk := pickAlt [(Nat.beq r.1 0, laws_lwInts_l4.o0 x4_0 x4_1 x4_2 x4_3 r)] (laws_lwInts_l4.o1 x4_0 x4_1 x4_2 x4_3 r)
def laws_lwInts_l4.f (x4_0 : List Int) (x4_1 : List Int) (x4_2 : Bool) (x4_3 : Int) (X : (laws_lwInts_l4.L.α ⊕ (Ex × List FV × List Blk) → Prop)) : Prop := And (Imp ((decide (x4_3 < (x4_0.length : Int))) = true) (And ((0 : Int) ≤ x4_3 ∧ x4_3 < (x4_0.length : Int)) (And ((0 : Int) ≤ x4_3 ∧ x4_3 < (x4_1.length : Int)) (Lt ((x4_0.getD (x4_3).toNat 0) != (x4_1.getD (x4_3).toNat 0)) fun x1 => And (Imp (x1 = true) (X (.inr (.ret, [.c (.bool false)], [])))) (Imp (x1 = false) (Lt (wrap (x4_3 + 1)) fun x2 => X (.inl (x4_0, (x4_1, (x4_2, (x2, ()))))))))))) (Imp ((decide (x4_3 < (x4_0.length : Int))) = false) (X (.inr (.exit 0, [], []))))
def laws_lwInts_l4.d (S : laws_lwInts_l4.L.α → Nat × Bool × Unit) : LDat := ldat 4 [0, 1, 4, 5] [] laws_lwInts_l4.L (fun s => laws_lwInts_l4.P s.1 s.2.1 s.2.2.1 s.2.2.2.1) (fun s => [(Nat.beq (S s).1 0, laws_lwInts_l4.o0 s.1 s.2.1 s.2.2.1 s.2.2.2.1 (S s))]) (fun s => laws_lwInts_l4.o1 s.1 s.2.1 s.2.2.1 s.2.2.2.1 (S s)) (fun s => laws_lwInts_l4.M s.1 s.2.1 s.2.2.1 s.2.2.2.1) 0 (fun e => match e with | .ret => [4] | _ => []) (fun _ => [])
theorem laws_lwInts_l4.w (S : laws_lwInts_l4.L.α → Nat × Bool × Unit) (x4_0 : List Int) (x4_1 : List Int) (x4_2 : Bool) (x4_3 : Int) : evBody (envC [] [] []) [] (bodyAt Try.f29 0) (laws_lwInts_l4.d S) (x4_0, (x4_1, (x4_2, (x4_3, ())))) = laws_lwInts_l4.f x4_0 x4_1 x4_2 x4_3 (lpx (laws_lwInts_l4.d S).pre (laws_lwInts_l4.d S).μ (laws_lwInts_l4.d S).out (x4_0, (x4_1, (x4_2, (x4_3, ()))))) := by kernel_rfl
theorem laws_lwInts_l4.x (x4_0 : List Int) (x4_1 : List Int) (x4_2 : Bool) (x4_3 : Int) (hp : laws_lwInts_l4.P x4_0 x4_1 x4_2 x4_3) : May (R := laws_lwInts_l4.L.α ⊕ (Nat × Bool × Unit)) (lpq (fun s => laws_lwInts_l4.P s.1 s.2.1 s.2.2.1 s.2.2.2.1) (fun s => laws_lwInts_l4.M s.1 s.2.1 s.2.2.1 s.2.2.2.1) (fun s => laws_lwInts_l4.Q s.1 s.2.1 s.2.2.1 s.2.2.2.1) (fun s => laws_lwInts_l4.o s.1 s.2.1 s.2.2.1 s.2.2.2.1) (x4_0, (x4_1, (x4_2, (x4_3, ()))))) (lpo (fun s => laws_lwInts_l4.o s.1 s.2.1 s.2.2.1 s.2.2.2.1) (x4_0, (x4_1, (x4_2, (x4_3, ()))))) (laws_lwInts_l4.f x4_0 x4_1 x4_2 x4_3) := by
  obtain ⟨p0, p1, p2, p3, p4⟩ := hp
  delta laws_lwInts_l4.f
  refine May.iff (B.dec) (fun h1 => ?_) (fun h1 => ?_)
  refine May.chk ?_ fun c1 => May.chk ?_ fun c2 => May.lp (B.ne) fun x1 e1 => May.iff (e1) (fun h2 => ?_) (fun h2 => ?_); rotate_left 2
  refine ⟨.inr (0, (false, ())), ⟨?_, ?_⟩, fun X h => h⟩; rotate_left 2
  refine May.lw ⟨?_, ?_⟩ fun x2 e2 => ⟨.inl (x4_0, (x4_1, (x4_2, (x2, ())))), ⟨⟨?_, ?_, ?_, ?_, ?_⟩, ?_, ?_, fun r => rfl⟩, fun X h => h⟩; rotate_left 9
  refine ⟨.inr (1, (false, ())), ⟨?_, ?_⟩, fun X h => h⟩
  all_goals try dsimp only
  all_goals first | with_reducible assumption | omega | exact fun _ q => q | (unfold laws_lwInts_l4.M; omega) | (exact fun h => ⟨rfl, ints_ne (by assumption)⟩; done) | (exact fun _ => ints_eq' (by assumption) (by assumption) (by assumption); done) | (exact step_eq (by assumption) (by omega) (by assumption) (by grind); done) | (intro k hk; omega; done) | rfl | assumption | (simp only [List.length_append, List.length_cons, List.length_nil, List.length_set, List.length_replicate, Int.natCast_add, Int.natCast_one] at *; omega) | grind
theorem laws_lwInts_l4.X : ∃ S : laws_lwInts_l4.L.α → Nat × Bool × Unit, ∀ s, laws_lwInts_l4.P s.1 s.2.1 s.2.2.1 s.2.2.2.1 → laws_lwInts_l4.Q s.1 s.2.1 s.2.2.1 s.2.2.2.1 (S s) ∧ laws_lwInts_l4.f s.1 s.2.1 s.2.2.1 s.2.2.2.1 (lpx (fun s => laws_lwInts_l4.P s.1 s.2.1 s.2.2.1 s.2.2.2.1) (fun s => laws_lwInts_l4.M s.1 s.2.1 s.2.2.1 s.2.2.2.1) (fun s => laws_lwInts_l4.o s.1 s.2.1 s.2.2.1 s.2.2.2.1 (S s)) s) := loopS (0, (false, ())) fun s => laws_lwInts_l4.x s.1 s.2.1 s.2.2.1 s.2.2.2.1
noncomputable def laws_lwInts_l4.R (x4_0 : List Int) (x4_1 : List Int) (x4_2 : Bool) (x4_3 : Int) : Nat × Bool × Unit := Classical.choose laws_lwInts_l4.X (x4_0, (x4_1, (x4_2, (x4_3, ()))))
theorem laws_lwInts_l4.q (x4_0 : List Int) (x4_1 : List Int) (x4_2 : Bool) (x4_3 : Int) (hp : laws_lwInts_l4.P x4_0 x4_1 x4_2 x4_3) : laws_lwInts_l4.Q x4_0 x4_1 x4_2 x4_3 (laws_lwInts_l4.R x4_0 x4_1 x4_2 x4_3) := (Classical.choose_spec laws_lwInts_l4.X (x4_0, (x4_1, (x4_2, (x4_3, ())))) hp).1
noncomputable def laws_lwInts_l4.k : LCtr := (laws_lwInts_l4.d (fun s => laws_lwInts_l4.R s.1 s.2.1 s.2.2.1 s.2.2.2.1)).ctr
theorem laws_lwInts_l4.g (hG : ∀ c ∈ [], Good Try.prog c) : LGood Try.prog Try.f29.ntmps laws_lwInts_l4.k (bodyAt Try.f29 0) := lgoodC (sp := []) (ct := []) (LL := []) hG (by kernel_rfl) (by rw [show loopsOf (bodyAt Try.f29 0) = [] from by kernel_rfl]; exact noL rfl) (consC' (bs := []) (by kernel_rfl) noC) fun s hp => Eq.mpr (laws_lwInts_l4.w (fun s => laws_lwInts_l4.R s.1 s.2.1 s.2.2.1 s.2.2.2.1) s.1 s.2.1 s.2.2.1 s.2.2.2.1) (Classical.choose_spec laws_lwInts_l4.X s hp).2
def laws_lwInts.enc (a0 : List Int) (a1 : List Int) (r : Bool) : AV × List Blk := (.v (.c (.bool r)), [])
abbrev laws_lwInts.P (a0 : List Int) (a1 : List Int) : Prop := (a0.length ≤ 1000000)
abbrev laws_lwInts.Q (a0 : List Int) (a1 : List Int) (r : Bool) : Prop := (r = true ↔ a0 = a1)
def laws_lwInts.L : FL := fCons (fSh sInts) (fCons (fSh sInts) (fNil))
def laws_lwInts.f (a0 : List Int) (a1 : List Int) (X : AV × List Blk → Prop) : Prop := And (Imp (((a0.length : Int) != (a1.length : Int)) = true) (X (.v (.c (.bool false)), []))) (Imp (((a0.length : Int) != (a1.length : Int)) = false) (And (laws_lwInts_l4.P a0 a1 false 0) (Lt (laws_lwInts_l4.R a0 a1 false 0) fun x3 => And (Imp (Nat.beq x3.1 0 = true) (X (.v (.c (.bool x3.2.1)), []))) (Imp (Nat.beq x3.1 0 = false) (X (.v (.c (.bool true)), []))))))
theorem laws_lwInts.w (a0 : List Int) (a1 : List Int) (K : AV → List Blk → Prop) : evFn (envC [] [] []) [laws_lwInts_l4.k] [] [] Try.f29 (laws_lwInts.L.inp (a0, (a1, ()))).1 (laws_lwInts.L.inp (a0, (a1, ()))).2 K = laws_lwInts.f a0 a1 (fun v => K v.1 v.2) := by kernel_rfl
theorem laws_lwInts.x (a0 : List Int) (a1 : List Int) (hp : laws_lwInts.P a0 a1) : May (laws_lwInts.Q a0 a1) (laws_lwInts.enc a0 a1) (laws_lwInts.f a0 a1) := by
  have p0 := hp
  delta laws_lwInts.f
  refine May.iff (B.ne) (fun h1 => ?_) (fun h1 => ?_)
  refine ⟨(false), ?_, fun X h => h⟩; rotate_left 1
  refine May.chk ⟨?_, ?_, ?_, ?_, ?_⟩ fun c1 => May.lq (laws_lwInts_l4.Q a0 a1 false 0) (laws_lwInts_l4.q a0 a1 false 0 c1) fun x3 q3 => have q3_0 := q3.1; have q3_1 := q3.2; May.iff B.nbeq (fun h2 => ?_) (fun h2 => ?_); rotate_left 5
  refine ⟨(x3.2.1), ?_, fun X h => h⟩; rotate_left 1
  refine ⟨(true), ?_, fun X h => h⟩
  all_goals try dsimp only
  all_goals first | with_reducible assumption | omega | rfl | assumption | (simp only [List.length_append, List.length_cons, List.length_nil, List.length_set, List.length_replicate, Int.natCast_add, Int.natCast_one] at *; omega) | grind
theorem laws_lwInts.X : ∃ S : laws_lwInts.L.α → Bool, ∀ s, laws_lwInts.P s.1 s.2.1 → laws_lwInts.Q s.1 s.2.1 (S s) ∧ ∀ X, X (laws_lwInts.enc s.1 s.2.1 (S s)) → laws_lwInts.f s.1 s.2.1 X := mayS (false) fun s => laws_lwInts.x s.1 s.2.1
noncomputable def laws_lwInts.S (a0 : List Int) (a1 : List Int) : Bool := Classical.choose laws_lwInts.X (a0, (a1, ()))
theorem laws_lwInts.q (a0 : List Int) (a1 : List Int) (hp : laws_lwInts.P a0 a1) : laws_lwInts.Q a0 a1 (laws_lwInts.S a0 a1) := (Classical.choose_spec laws_lwInts.X (a0, (a1, ())) hp).1
noncomputable def laws_lwInts.c : Ctr := hctr 29 [true, true] laws_lwInts.L (some fun s => laws_lwInts.P s.1 s.2.1) (fun s => laws_lwInts.enc s.1 s.2.1 (laws_lwInts.S s.1 s.2.1))
theorem laws_lwInts.good : Good Try.prog laws_lwInts.c :=
  hgoodC (sh := []) (tk := []) (sp := []) (ct := []) (LL := [laws_lwInts_l4.k]) noG (fn := Try.f29) (by kernel_rfl) (by kernel_rfl) (by rw [show loopsOf (bodyOf Try.f29) = [(bodyAt Try.f29 0)] from by kernel_rfl]; exact consL (l := laws_lwInts_l4.k) (by kernel_rfl) (laws_lwInts_l4.g noG) (noL rfl)) (consC' (bs := []) (by kernel_rfl) noC) fun s hp => Eq.mpr (laws_lwInts.w s.1 s.2.1 (fun r bs' => And (r = (laws_lwInts.c.out s).1) (bs' = (laws_lwInts.c.out s).2))) ((Classical.choose_spec laws_lwInts.X s (hp _ rfl)).2 _ ⟨rfl, rfl⟩)
end Hw
end Go.Proofs.Ytmhighcagpbmeaa
