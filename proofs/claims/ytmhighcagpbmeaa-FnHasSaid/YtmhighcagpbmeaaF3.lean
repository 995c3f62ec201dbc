/- Laws of states, 2: made by gen.py. -/
import Derived.Test.YtmhighcagpbmeaaG2
import Derived.Test.YtmhighcagpbmeaaE12
set_option linter.unusedVariables false
set_option linter.unusedSimpArgs false
set_option maxRecDepth 100000
set_option maxHeartbeats 400000
namespace Go.Proofs.Ytmhighcagpbmeaa
namespace Hw
open Go
attribute [local irreducible] evFn evBody wrap wxor
/-- How a packet stands, by its number. -/
abbrev SetQ (s : St) (n r : Int) : Prop := (StOk s → 1 ≤ n → n ≤ (s.sent.length : Int) → r = if s.live.getD (n - 1).toNat false = true then 1 else if s.back.getD (n - 1).toNat false = true then 3 else 2) ∧ (¬(StOk s ∧ 1 ≤ n ∧ n ≤ (s.sent.length : Int)) → r = 0)
theorem stOk_in {s : St} (h : StOk s) : SIn s := by
  refine ⟨h.2.2.1, h.2.2.2.1, h.2.2.2.2.1, h.2.2.2.2.2.1, fun k hk => ?_⟩
  have := (h.2.2.2.2.2.2.1 k hk).1
  unfold PktOk at this
  unfold PIn
  omega
/-- One of the first n. -/
def Among (l : List Int) (x : Int) (n : Nat) : Prop := ∃ k, k < n ∧ l.getD k 0 = x
theorem among_nil {l : List Int} {x : Int} : ¬ Among l x 0 := fun ⟨_, h, _⟩ => Nat.not_lt_zero _ h
theorem among_s {l : List Int} {x i j : Int} (hj : j = i + 1) (h0 : 0 ≤ i) (h : ¬ Among l x i.toNat) (h' : ¬ l.getD i.toNat 0 = x) : ¬ Among l x j.toNat := fun ⟨k, h1, h2⟩ => by
  rcases Nat.lt_or_ge k i.toNat with h3 | h3
  · exact h ⟨k, h3, h2⟩
  · rw [show k = i.toNat by omega] at h2
    exact h' h2
theorem lives_in {l : List Bool} {n : Int} (h0 : 1 ≤ n) (h1 : n ≤ (l.length : Int)) : Among (lives l l.length) n (lives l l.length).length ↔ l.getD (n - 1).toNat false = true := by
  refine ⟨fun ⟨k, h2, h3⟩ => ?_, fun h => ?_⟩
  · have key : ∀ m k : Nat, k < (lives l m).length → ∃ i : Nat, i < m ∧ (lives l m).getD k 0 = (i : Int) + 1 ∧ l.getD i false = true := by
      intro m
      induction m with
      | zero => intro k hk; exact absurd hk (Nat.not_lt_zero k)
      | succ m ih =>
        intro k hk
        rw [lives] at hk ⊢
        rcases Nat.lt_or_ge k (lives l m).length with h4 | h4
        · obtain ⟨i, h5, h6, h7⟩ := ih k h4
          rw [getD_lt h4]
          exact ⟨i, by omega, h6, h7⟩
        · by_cases h5 : l.getD m false = true
          · rw [if_pos h5] at hk ⊢
            simp only [List.length_append, List.length_cons, List.length_nil] at hk
            rw [getD_at (by omega)]
            exact ⟨m, by omega, rfl, h5⟩
          · rw [if_neg h5, List.append_nil] at hk
            omega
    obtain ⟨i, h4, h5, h6⟩ := key _ k h2
    rw [h3] at h5
    rw [show (n - 1).toNat = i by omega]
    exact h6
  · have h2 := lives_get (l := l) (i := n - 1) (n := l.length) (by omega) (by omega) h
    exact ⟨_, h2.1, by rw [h2.2]; omega⟩
theorem specHas {s : St} {p : Pkt} {x b : Bool} (q : SIn s → (x = true → 1 ≤ p.seq ∧ p.seq ≤ (s.sent.length : Int)) ∧ (x = true ↔ Has0 s p)) (hb : b = spec_StateOk.S s) : (bif b then x else false) = true ↔ HasP s p := by
  have e := @specSt s
  rw [hb]
  by_cases h : StOk s
  · have hq := (q (stOk_in h)).2
    rw [e.2 h, cond_true, hq]
    exact ⟨fun h' => ⟨h, h'⟩, fun h' => h'.2⟩
  · rw [Bool.eq_false_iff.2 (fun h' => h (e.1 h')), cond_false]
    exact ⟨fun h' => absurd h' (by simp), fun h' => absurd h'.1 h⟩
theorem among_y {l : List Int} {x i : Int} (h : 0 ≤ i ∧ i < (l.length : Int)) (e : l.getD i.toNat 0 = x) : Among l x l.length := ⟨i.toNat, by omega, e⟩
theorem among_e {l : List Int} {x i : Int} (h0 : 0 ≤ i) (h : ¬ Among l x i.toNat) (h1 : ¬ i < (l.length : Int)) : ¬ Among l x l.length := fun ⟨k, h2, h3⟩ => h ⟨k, by omega, h3⟩

/-! ### spec.StateHas -/
def spec_StateHas.enc (a0 : St) (a1 : Pkt) (r : Bool) : AV × List Blk := (.v (.c (.bool r)), [])
abbrev spec_StateHas.P (a0 : St) (a1 : Pkt) : Prop := True
abbrev spec_StateHas.Q (a0 : St) (a1 : Pkt) (r : Bool) : Prop := (r = true ↔ HasP a0 a1)
def spec_StateHas.L : FL := fCons (fSh sSt) (fCons (fSh sPkt) (fNil))
def spec_StateHas.f (a0 : St) (a1 : Pkt) (X : AV × List Blk → Prop) : Prop := And (Imp (And ((spec_StateOk.S a0) = true) (True)) (spec_l3Has.P a0 a1)) (Lt ((spec_l3Has.S a0 a1)) fun x1 => X (.v (.c (.bool (bif (spec_StateOk.S a0) then x1 else false))), []))
theorem spec_StateHas.w (a0 : St) (a1 : Pkt) (K : AV → List Blk → Prop) : evFn (envC [spec_StateOk.c, spec_l3Has.c] [] []) [] [] [] Try.f26 (spec_StateHas.L.inp (a0, (a1, ()))).1 (spec_StateHas.L.inp (a0, (a1, ()))).2 K = spec_StateHas.f a0 a1 (fun v => K v.1 v.2) := by kernel_rfl
theorem spec_StateHas.x (a0 : St) (a1 : Pkt) (hp : spec_StateHas.P a0 a1) : May (spec_StateHas.Q a0 a1) (spec_StateHas.enc a0 a1) (spec_StateHas.f a0 a1) := by
  delta spec_StateHas.f
  refine May.chk (fun hπ => have g1 := Iff.mp (specSt) hπ.1; ?_) fun c1 => May.lq (fun x => spec_l3Has.P a0 a1 → spec_l3Has.Q a0 a1 x) (spec_l3Has.q a0 a1) fun x1 q1 => ⟨(bif (spec_StateOk.S a0) then x1 else false), ?_, fun X h => h⟩
  all_goals try dsimp only
  all_goals first | with_reducible assumption | omega | (exact stOk_in g1; done) | (exact specHas q1 rfl; done)
theorem spec_StateHas.X : ∃ S : spec_StateHas.L.α → Bool, ∀ s, spec_StateHas.P s.1 s.2.1 → spec_StateHas.Q s.1 s.2.1 (S s) ∧ ∀ X, X (spec_StateHas.enc s.1 s.2.1 (S s)) → spec_StateHas.f s.1 s.2.1 X := mayS (false) fun s => spec_StateHas.x s.1 s.2.1
noncomputable def spec_StateHas.S (a0 : St) (a1 : Pkt) : Bool := Classical.choose spec_StateHas.X (a0, (a1, ()))
theorem spec_StateHas.q (a0 : St) (a1 : Pkt) : spec_StateHas.Q a0 a1 (spec_StateHas.S a0 a1) := (Classical.choose_spec spec_StateHas.X (a0, (a1, ())) trivial).1
noncomputable def spec_StateHas.c : Ctr := hctr 26 [true, false] spec_StateHas.L none (fun s => spec_StateHas.enc s.1 s.2.1 (spec_StateHas.S s.1 s.2.1))
theorem spec_StateHas.good : Good Try.prog spec_StateHas.c :=
  hgoodC (sh := []) (tk := []) (sp := []) (ct := []) (LL := []) (consG spec_StateOk.good (consG spec_l3Has.good noG)) (fn := Try.f26) (by kernel_rfl) (by kernel_rfl) (by rw [show loopsOf (bodyOf Try.f26) = [] from by kernel_rfl]; exact noL rfl) (consC' (bs := []) (by kernel_rfl) noC) fun s hp => Eq.mpr (spec_StateHas.w s.1 s.2.1 (fun r bs' => And (r = (spec_StateHas.c.out s).1) (bs' = (spec_StateHas.c.out s).2))) ((Classical.choose_spec spec_StateHas.X s trivial).2 _ ⟨rfl, rfl⟩)
/-! ### laws.lwAmong -/
abbrev laws_lwAmong_l2.P (x2_0 : List Int) (x2_1 : Int) (x2_2 : Bool) (x2_3 : Int) : Prop := (0 ≤ x2_3) ∧ ((x2_0.length : Int) ≤ 9223372036854775807) ∧ (¬ Among x2_0 x2_1 x2_3.toNat) ∧ (x2_3 ≤ (x2_0.length : Int))
abbrev laws_lwAmong_l2.Q (x2_0 : List Int) (x2_1 : Int) (x2_2 : Bool) (x2_3 : Int) (r : Nat × Bool × Unit) : Prop := (r.1 = 0 → r.2.1 = true ∧ Among x2_0 x2_1 x2_0.length) ∧ (¬ r.1 = 0 → ¬ Among x2_0 x2_1 x2_0.length)
def laws_lwAmong_l2.M (x2_0 : List Int) (x2_1 : Int) (x2_2 : Bool) (x2_3 : Int) : Nat := ((x2_0.length : Int) - x2_3).toNat
def laws_lwAmong_l2.L : FL := fCons (fC (cArr false kInts)) (fCons (fC cInt) (fCons (fC cBool) (fCons (fC cInt) (fNil))))
def laws_lwAmong_l2.o0 (x2_0 : List Int) (x2_1 : Int) (x2_2 : Bool) (x2_3 : Int) (r : Nat × Bool × Unit) : Ex × List FV × List Blk := (.ret, [.c (.bool r.2.1)], [])
def laws_lwAmong_l2.o1 (x2_0 : List Int) (x2_1 : Int) (x2_2 : Bool) (x2_3 : Int) (r : Nat × Bool × Unit) : Ex × List FV × List Blk := (.exit 0, [], [])
def laws_lwAmong_l2.o (x2_0 : List Int) (x2_1 : Int) (x2_2 : Bool) (x2_3 : Int) (r : Nat × Bool × Unit) : Ex × List FV × List Blk := pickAlt [(Nat.beq r.1 0, laws_lwAmong_l2.o0 x2_0 x2_1 x2_2 x2_3 r)] (laws_lwAmong_l2.o1 x2_0 x2_1 x2_2 x2_3 r)
def laws_lwAmong_l2.f (x2_0 : List Int) (x2_1 : Int) (x2_2 : Bool) (x2_3 : Int) (X : (laws_lwAmong_l2.L.α ⊕ (Ex × List FV × List Blk) → Prop)) : Prop := And (Imp ((decide (x2_3 < (x2_0.length : Int))) = true) (And ((0 : Int) ≤ x2_3 ∧ x2_3 < (x2_0.length : Int)) (And (Imp (((x2_0.getD (x2_3).toNat 0) == x2_1) = true) (X (.inr (.ret, [.c (.bool true)], [])))) (Imp (((x2_0.getD (x2_3).toNat 0) == x2_1) = false) (Lt (wrap (x2_3 + 1)) fun x1 => X (.inl (x2_0, (x2_1, (x2_2, (x1, ())))))))))) (Imp ((decide (x2_3 < (x2_0.length : Int))) = false) (X (.inr (.exit 0, [], []))))
def laws_lwAmong_l2.d (S : laws_lwAmong_l2.L.α → Nat × Bool × Unit) : LDat := ldat 2 [0, 1, 4, 5] [] laws_lwAmong_l2.L (fun s => laws_lwAmong_l2.P s.1 s.2.1 s.2.2.1 s.2.2.2.1) (fun s => [(Nat.beq (S s).1 0, laws_lwAmong_l2.o0 s.1 s.2.1 s.2.2.1 s.2.2.2.1 (S s))]) (fun s => laws_lwAmong_l2.o1 s.1 s.2.1 s.2.2.1 s.2.2.2.1 (S s)) (fun s => laws_lwAmong_l2.M s.1 s.2.1 s.2.2.1 s.2.2.2.1) 0 (fun e => match e with | .ret => [4] | _ => []) (fun _ => [])
theorem laws_lwAmong_l2.w (S : laws_lwAmong_l2.L.α → Nat × Bool × Unit) (x2_0 : List Int) (x2_1 : Int) (x2_2 : Bool) (x2_3 : Int) : evBody (envC [] [] []) [] (bodyAt Try.f22 0) (laws_lwAmong_l2.d S) (x2_0, (x2_1, (x2_2, (x2_3, ())))) = laws_lwAmong_l2.f x2_0 x2_1 x2_2 x2_3 (lpx (laws_lwAmong_l2.d S).pre (laws_lwAmong_l2.d S).μ (laws_lwAmong_l2.d S).out (x2_0, (x2_1, (x2_2, (x2_3, ()))))) := by kernel_rfl
theorem laws_lwAmong_l2.x (x2_0 : List Int) (x2_1 : Int) (x2_2 : Bool) (x2_3 : Int) (hp : laws_lwAmong_l2.P x2_0 x2_1 x2_2 x2_3) : May (R := laws_lwAmong_l2.L.α ⊕ (Nat × Bool × Unit)) (lpq (fun s => laws_lwAmong_l2.P s.1 s.2.1 s.2.2.1 s.2.2.2.1) (fun s => laws_lwAmong_l2.M s.1 s.2.1 s.2.2.1 s.2.2.2.1) (fun s => laws_lwAmong_l2.Q s.1 s.2.1 s.2.2.1 s.2.2.2.1) (fun s => laws_lwAmong_l2.o s.1 s.2.1 s.2.2.1 s.2.2.2.1) (x2_0, (x2_1, (x2_2, (x2_3, ()))))) (lpo (fun s => laws_lwAmong_l2.o s.1 s.2.1 s.2.2.1 s.2.2.2.1) (x2_0, (x2_1, (x2_2, (x2_3, ()))))) (laws_lwAmong_l2.f x2_0 x2_1 x2_2 x2_3) := by
  obtain ⟨p0, p1, p2, p3⟩ := hp
  delta laws_lwAmong_l2.f
  refine May.iff (B.dec) (fun h1 => ?_) (fun h1 => ?_)
  refine May.chk ?_ fun c1 => May.iff (B.eq) (fun h2 => ?_) (fun h2 => ?_); rotate_left 1
  refine ⟨.inr (0, (true, ())), ⟨?_, ?_⟩, fun X h => h⟩; rotate_left 2
  refine May.lw ⟨?_, ?_⟩ fun x1 e1 => ⟨.inl (x2_0, (x2_1, (x2_2, (x1, ())))), ⟨⟨?_, ?_, ?_, ?_⟩, ?_, ?_, fun r => rfl⟩, fun X h => h⟩; rotate_left 8
  refine ⟨.inr (1, (false, ())), ⟨?_, ?_⟩, fun X h => h⟩
  all_goals try dsimp only
  all_goals first | with_reducible assumption | omega | exact fun _ q => q | (unfold laws_lwAmong_l2.M; omega) | (exact among_nil; done) | (exact fun _ => ⟨rfl, among_y c1 h2⟩; done) | (exact among_s (by assumption) p0 p2 h2; done) | (exact fun _ => among_e p0 p2 h1; done) | rfl | assumption | (simp only [List.length_append, List.length_cons, List.length_nil, List.length_set, List.length_replicate, Int.natCast_add, Int.natCast_one] at *; omega) | grind
theorem laws_lwAmong_l2.X : ∃ S : laws_lwAmong_l2.L.α → Nat × Bool × Unit, ∀ s, laws_lwAmong_l2.P s.1 s.2.1 s.2.2.1 s.2.2.2.1 → laws_lwAmong_l2.Q s.1 s.2.1 s.2.2.1 s.2.2.2.1 (S s) ∧ laws_lwAmong_l2.f s.1 s.2.1 s.2.2.1 s.2.2.2.1 (lpx (fun s => laws_lwAmong_l2.P s.1 s.2.1 s.2.2.1 s.2.2.2.1) (fun s => laws_lwAmong_l2.M s.1 s.2.1 s.2.2.1 s.2.2.2.1) (fun s => laws_lwAmong_l2.o s.1 s.2.1 s.2.2.1 s.2.2.2.1 (S s)) s) := loopS (0, (false, ())) fun s => laws_lwAmong_l2.x s.1 s.2.1 s.2.2.1 s.2.2.2.1
noncomputable def laws_lwAmong_l2.R (x2_0 : List Int) (x2_1 : Int) (x2_2 : Bool) (x2_3 : Int) : Nat × Bool × Unit := Classical.choose laws_lwAmong_l2.X (x2_0, (x2_1, (x2_2, (x2_3, ()))))
theorem laws_lwAmong_l2.q (x2_0 : List Int) (x2_1 : Int) (x2_2 : Bool) (x2_3 : Int) (hp : laws_lwAmong_l2.P x2_0 x2_1 x2_2 x2_3) : laws_lwAmong_l2.Q x2_0 x2_1 x2_2 x2_3 (laws_lwAmong_l2.R x2_0 x2_1 x2_2 x2_3) := (Classical.choose_spec laws_lwAmong_l2.X (x2_0, (x2_1, (x2_2, (x2_3, ())))) hp).1
noncomputable def laws_lwAmong_l2.k : LCtr := (laws_lwAmong_l2.d (fun s => laws_lwAmong_l2.R s.1 s.2.1 s.2.2.1 s.2.2.2.1)).ctr
theorem laws_lwAmong_l2.g (hG : ∀ c ∈ [], Good Try.prog c) : LGood Try.prog Try.f22.ntmps laws_lwAmong_l2.k (bodyAt Try.f22 0) := lgoodC (sp := []) (ct := []) (LL := []) hG (by kernel_rfl) (by rw [show loopsOf (bodyAt Try.f22 0) = [] from by kernel_rfl]; exact noL rfl) (consC' (bs := []) (by kernel_rfl) noC) fun s hp => Eq.mpr (laws_lwAmong_l2.w (fun s => laws_lwAmong_l2.R s.1 s.2.1 s.2.2.1 s.2.2.2.1) s.1 s.2.1 s.2.2.1 s.2.2.2.1) (Classical.choose_spec laws_lwAmong_l2.X s hp).2
def laws_lwAmong.enc (a0 : List Int) (a1 : Int) (r : Bool) : AV × List Blk := (.v (.c (.bool r)), [])
abbrev laws_lwAmong.P (a0 : List Int) (a1 : Int) : Prop := (a0.length ≤ 1000000)
abbrev laws_lwAmong.Q (a0 : List Int) (a1 : Int) (r : Bool) : Prop := (r = true ↔ Among a0 a1 a0.length)
def laws_lwAmong.L : FL := fCons (fSh sInts) (fCons (fSh sInt) (fNil))
def laws_lwAmong.f (a0 : List Int) (a1 : Int) (X : AV × List Blk → Prop) : Prop := And (laws_lwAmong_l2.P a0 a1 false 0) (Lt (laws_lwAmong_l2.R a0 a1 false 0) fun x2 => And (Imp (Nat.beq x2.1 0 = true) (X (.v (.c (.bool x2.2.1)), []))) (Imp (Nat.beq x2.1 0 = false) (X (.v (.c (.bool false)), []))))
theorem laws_lwAmong.w (a0 : List Int) (a1 : Int) (K : AV → List Blk → Prop) : evFn (envC [] [] []) [laws_lwAmong_l2.k] [] [] Try.f22 (laws_lwAmong.L.inp (a0, (a1, ()))).1 (laws_lwAmong.L.inp (a0, (a1, ()))).2 K = laws_lwAmong.f a0 a1 (fun v => K v.1 v.2) := by kernel_rfl
theorem laws_lwAmong.x (a0 : List Int) (a1 : Int) (hp : laws_lwAmong.P a0 a1) : May (laws_lwAmong.Q a0 a1) (laws_lwAmong.enc a0 a1) (laws_lwAmong.f a0 a1) := by
  have p0 := hp
  delta laws_lwAmong.f
  refine May.chk ⟨?_, ?_, ?_, ?_⟩ fun c1 => May.lq (laws_lwAmong_l2.Q a0 a1 false 0) (laws_lwAmong_l2.q a0 a1 false 0 c1) fun x2 q2 => have q2_0 := q2.1; have q2_1 := q2.2; May.iff B.nbeq (fun h1 => ?_) (fun h1 => ?_); rotate_left 4
  refine ⟨(x2.2.1), ?_, fun X h => h⟩; rotate_left 1
  refine ⟨(false), ?_, fun X h => h⟩
  all_goals try dsimp only
  all_goals first | with_reducible assumption | omega | (exact among_nil; done) | rfl | assumption | (simp only [List.length_append, List.length_cons, List.length_nil, List.length_set, List.length_replicate, Int.natCast_add, Int.natCast_one] at *; omega) | grind
theorem laws_lwAmong.X : ∃ S : laws_lwAmong.L.α → Bool, ∀ s, laws_lwAmong.P s.1 s.2.1 → laws_lwAmong.Q s.1 s.2.1 (S s) ∧ ∀ X, X (laws_lwAmong.enc s.1 s.2.1 (S s)) → laws_lwAmong.f s.1 s.2.1 X := mayS (false) fun s => laws_lwAmong.x s.1 s.2.1
noncomputable def laws_lwAmong.S (a0 : List Int) (a1 : Int) : Bool := Classical.choose laws_lwAmong.X (a0, (a1, ()))
theorem laws_lwAmong.q (a0 : List Int) (a1 : Int) (hp : laws_lwAmong.P a0 a1) : laws_lwAmong.Q a0 a1 (laws_lwAmong.S a0 a1) := (Classical.choose_spec laws_lwAmong.X (a0, (a1, ())) hp).1
noncomputable def laws_lwAmong.c : Ctr := hctr 22 [true, false] laws_lwAmong.L (some fun s => laws_lwAmong.P s.1 s.2.1) (fun s => laws_lwAmong.enc s.1 s.2.1 (laws_lwAmong.S s.1 s.2.1))
theorem laws_lwAmong.good : Good Try.prog laws_lwAmong.c :=
  hgoodC (sh := []) (tk := []) (sp := []) (ct := []) (LL := [laws_lwAmong_l2.k]) noG (fn := Try.f22) (by kernel_rfl) (by kernel_rfl) (by rw [show loopsOf (bodyOf Try.f22) = [(bodyAt Try.f22 0)] from by kernel_rfl]; exact consL (l := laws_lwAmong_l2.k) (by kernel_rfl) (laws_lwAmong_l2.g noG) (noL rfl)) (consC' (bs := []) (by kernel_rfl) noC) fun s hp => Eq.mpr (laws_lwAmong.w s.1 s.2.1 (fun r bs' => And (r = (laws_lwAmong.c.out s).1) (bs' = (laws_lwAmong.c.out s).2))) ((Classical.choose_spec laws_lwAmong.X s (hp _ rfl)).2 _ ⟨rfl, rfl⟩)
/-! ### spec.StateSettled -/
def spec_StateSettled.enc (a0 : St) (a1 : Int) (r : Int) : AV × List Blk := (.v (.c (.int r)), [])
abbrev spec_StateSettled.P (a0 : St) (a1 : Int) : Prop := True
abbrev spec_StateSettled.Q (a0 : St) (a1 : Int) (r : Int) : Prop := (SetQ a0 a1 r)
def spec_StateSettled.L : FL := fCons (fSh sSt) (fCons (fSh sInt) (fNil))
def spec_StateSettled.f (a0 : St) (a1 : Int) (X : AV × List Blk → Prop) : Prop := Lt (bif !(spec_StateOk.S a0) then true else !(spec_l6In.S a1 1 (a0.sent.length : Int))) fun x1 => And (Imp (x1 = true) (X (.v (.c (.int 0)), []))) (Imp (x1 = false) (Lt (wrap (a1 - 1)) fun x2 => And ((0 : Int) ≤ x2 ∧ x2 < (a0.live.length : Int)) (And (Imp ((a0.live.getD (x2).toNat false) = true) (X (.v (.c (.int 1)), []))) (Imp ((a0.live.getD (x2).toNat false) = false) (And ((0 : Int) ≤ x2 ∧ x2 < (a0.back.length : Int)) (And (Imp ((a0.back.getD (x2).toNat false) = true) (X (.v (.c (.int 3)), []))) (Imp ((a0.back.getD (x2).toNat false) = false) (X (.v (.c (.int 2)), [])))))))))
theorem spec_StateSettled.w (a0 : St) (a1 : Int) (K : AV → List Blk → Prop) : evFn (envC [spec_StateOk.c, spec_l6In.c] [] []) [] [] [] Try.f20 (spec_StateSettled.L.inp (a0, (a1, ()))).1 (spec_StateSettled.L.inp (a0, (a1, ()))).2 K = spec_StateSettled.f a0 a1 (fun v => K v.1 v.2) := by kernel_rfl
theorem spec_StateSettled.x (a0 : St) (a1 : Int) (hp : spec_StateSettled.P a0 a1) : May (spec_StateSettled.Q a0 a1) (spec_StateSettled.enc a0 a1) (spec_StateSettled.f a0 a1) := by
  have hl := fun h => stL (s := a0) h
  delta spec_StateSettled.f
  refine May.lp (B.or (B.not (specSt)) (B.not (in_iff))) fun x1 e1 => May.iff (e1) (fun h1 => ?_) (fun h1 => ?_)
  refine ⟨(0), ?_, fun X h => h⟩; rotate_left 1
  refine May.lw ⟨?_, ?_⟩ fun x2 e2 => May.chk ?_ fun c1 => May.iff (Iff.rfl) (fun h2 => ?_) (fun h2 => ?_); rotate_left 3
  refine ⟨(1), ?_, fun X h => h⟩; rotate_left 1
  refine May.chk ?_ fun c2 => May.iff (Iff.rfl) (fun h3 => ?_) (fun h3 => ?_); rotate_left 1
  refine ⟨(3), ?_, fun X h => h⟩; rotate_left 1
  refine ⟨(2), ?_, fun X h => h⟩
  all_goals try dsimp only
  all_goals first | with_reducible assumption | omega | rfl | assumption | (simp only [List.length_append, List.length_cons, List.length_nil, List.length_set, List.length_replicate, Int.natCast_add, Int.natCast_one] at *; omega) | grind
theorem spec_StateSettled.X : ∃ S : spec_StateSettled.L.α → Int, ∀ s, spec_StateSettled.P s.1 s.2.1 → spec_StateSettled.Q s.1 s.2.1 (S s) ∧ ∀ X, X (spec_StateSettled.enc s.1 s.2.1 (S s)) → spec_StateSettled.f s.1 s.2.1 X := mayS (0) fun s => spec_StateSettled.x s.1 s.2.1
noncomputable def spec_StateSettled.S (a0 : St) (a1 : Int) : Int := Classical.choose spec_StateSettled.X (a0, (a1, ()))
theorem spec_StateSettled.q (a0 : St) (a1 : Int) : spec_StateSettled.Q a0 a1 (spec_StateSettled.S a0 a1) := (Classical.choose_spec spec_StateSettled.X (a0, (a1, ())) trivial).1
noncomputable def spec_StateSettled.c : Ctr := hctr 20 [true, false] spec_StateSettled.L none (fun s => spec_StateSettled.enc s.1 s.2.1 (spec_StateSettled.S s.1 s.2.1))
theorem spec_StateSettled.good : Good Try.prog spec_StateSettled.c :=
  hgoodC (sh := []) (tk := []) (sp := []) (ct := []) (LL := []) (consG spec_StateOk.good (consG spec_l6In.good noG)) (fn := Try.f20) (by kernel_rfl) (by kernel_rfl) (by rw [show loopsOf (bodyOf Try.f20) = [] from by kernel_rfl]; exact noL rfl) (consC' (bs := []) (by kernel_rfl) noC) fun s hp => Eq.mpr (spec_StateSettled.w s.1 s.2.1 (fun r bs' => And (r = (spec_StateSettled.c.out s).1) (bs' = (spec_StateSettled.c.out s).2))) ((Classical.choose_spec spec_StateSettled.X s trivial).2 _ ⟨rfl, rfl⟩)
/-! ### impl.StateSettled -/
def impl_StateSettled.enc (a0 : St) (a1 : Int) (r : Int) : AV × List Blk := (.v (.c (.int r)), [])
abbrev impl_StateSettled.P (a0 : St) (a1 : Int) : Prop := True
abbrev impl_StateSettled.Q (a0 : St) (a1 : Int) (r : Int) : Prop := (SetQ a0 a1 r)
def impl_StateSettled.L : FL := fCons (fSh sSt) (fCons (fSh sInt) (fNil))
def impl_StateSettled.f (a0 : St) (a1 : Int) (X : AV × List Blk → Prop) : Prop := Lt (bif !(impl_StateOk.S a0) then true else decide (a1 < 1)) fun x1 => Lt (bif x1 then true else decide (a1 > (a0.sent.length : Int))) fun x2 => And (Imp (x2 = true) (X (.v (.c (.int 0)), []))) (Imp (x2 = false) (Lt (wrap (a1 - 1)) fun x3 => And ((0 : Int) ≤ x3 ∧ x3 < (a0.live.length : Int)) (And (Imp ((a0.live.getD (x3).toNat false) = true) (X (.v (.c (.int 1)), []))) (Imp ((a0.live.getD (x3).toNat false) = false) (And ((0 : Int) ≤ x3 ∧ x3 < (a0.back.length : Int)) (And (Imp ((a0.back.getD (x3).toNat false) = true) (X (.v (.c (.int 3)), []))) (Imp ((a0.back.getD (x3).toNat false) = false) (X (.v (.c (.int 2)), [])))))))))
theorem impl_StateSettled.w (a0 : St) (a1 : Int) (K : AV → List Blk → Prop) : evFn (envC [impl_StateOk.c] [] []) [] [] [] Try.f19 (impl_StateSettled.L.inp (a0, (a1, ()))).1 (impl_StateSettled.L.inp (a0, (a1, ()))).2 K = impl_StateSettled.f a0 a1 (fun v => K v.1 v.2) := by kernel_rfl
theorem impl_StateSettled.x (a0 : St) (a1 : Int) (hp : impl_StateSettled.P a0 a1) : May (impl_StateSettled.Q a0 a1) (impl_StateSettled.enc a0 a1) (impl_StateSettled.f a0 a1) := by
  have hl := fun h => stL (s := a0) h
  delta impl_StateSettled.f
  refine May.lp (B.or (B.not (implSt)) (B.dec)) fun x1 e1 => May.lp (B.or (e1) (B.dec)) fun x2 e2 => May.iff (e2) (fun h1 => ?_) (fun h1 => ?_)
  refine ⟨(0), ?_, fun X h => h⟩; rotate_left 1
  refine May.lw ⟨?_, ?_⟩ fun x3 e3 => May.chk ?_ fun c1 => May.iff (Iff.rfl) (fun h2 => ?_) (fun h2 => ?_); rotate_left 3
  refine ⟨(1), ?_, fun X h => h⟩; rotate_left 1
  refine May.chk ?_ fun c2 => May.iff (Iff.rfl) (fun h3 => ?_) (fun h3 => ?_); rotate_left 1
  refine ⟨(3), ?_, fun X h => h⟩; rotate_left 1
  refine ⟨(2), ?_, fun X h => h⟩
  all_goals try dsimp only
  all_goals first | with_reducible assumption | omega | rfl | assumption | (simp only [List.length_append, List.length_cons, List.length_nil, List.length_set, List.length_replicate, Int.natCast_add, Int.natCast_one] at *; omega) | grind
theorem impl_StateSettled.X : ∃ S : impl_StateSettled.L.α → Int, ∀ s, impl_StateSettled.P s.1 s.2.1 → impl_StateSettled.Q s.1 s.2.1 (S s) ∧ ∀ X, X (impl_StateSettled.enc s.1 s.2.1 (S s)) → impl_StateSettled.f s.1 s.2.1 X := mayS (0) fun s => impl_StateSettled.x s.1 s.2.1
noncomputable def impl_StateSettled.S (a0 : St) (a1 : Int) : Int := Classical.choose impl_StateSettled.X (a0, (a1, ()))
theorem impl_StateSettled.q (a0 : St) (a1 : Int) : impl_StateSettled.Q a0 a1 (impl_StateSettled.S a0 a1) := (Classical.choose_spec impl_StateSettled.X (a0, (a1, ())) trivial).1
noncomputable def impl_StateSettled.c : Ctr := hctr 19 [true, false] impl_StateSettled.L none (fun s => impl_StateSettled.enc s.1 s.2.1 (impl_StateSettled.S s.1 s.2.1))
theorem impl_StateSettled.good : Good Try.prog impl_StateSettled.c :=
  hgoodC (sh := []) (tk := []) (sp := []) (ct := []) (LL := []) (consG impl_StateOk.good noG) (fn := Try.f19) (by kernel_rfl) (by kernel_rfl) (by rw [show loopsOf (bodyOf Try.f19) = [] from by kernel_rfl]; exact noL rfl) (consC' (bs := []) (by kernel_rfl) noC) fun s hp => Eq.mpr (impl_StateSettled.w s.1 s.2.1 (fun r bs' => And (r = (impl_StateSettled.c.out s).1) (bs' = (impl_StateSettled.c.out s).2))) ((Classical.choose_spec impl_StateSettled.X s trivial).2 _ ⟨rfl, rfl⟩)
end Hw
end Go.Proofs.Ytmhighcagpbmeaa
