/- Laws of ways, 3: made by gen.py. -/
import Derived.Test.YtmhighcagpbmeaaW1
import Derived.Test.YtmhighcagpbmeaaW2
import Derived.Test.YtmhighcagpbmeaaG3
set_option linter.unusedVariables false
set_option linter.unusedSimpArgs false
set_option maxRecDepth 100000
set_option maxHeartbeats 400000
namespace Go.Proofs.Ytmhighcagpbmeaa
namespace Hw
open Go
attribute [local irreducible] evFn evBody wrap wxor
theorem mays_pre {s o : St} {k : Nat} : ∀ {n : Nat}, k ≤ n → ∃ m, mays s o n = mays s o k ++ m := by
  intro n h
  induction n with
  | zero => exact ⟨[], by rw [show k = 0 by omega]; rfl⟩
  | succ n ih =>
    rcases Nat.lt_or_ge n k with h' | h'
    · exact ⟨[], by rw [show k = n + 1 by omega, List.append_nil]⟩
    · obtain ⟨m, hm⟩ := ih h'
      exact ⟨_, by rw [mays, hm, List.append_assoc]⟩
theorem mays_get {s o : St} {i : Int} (h : MayW s o i) : (mays s o (i - 1).toNat).length < (mays s o 7).length ∧ (mays s o 7).getD (mays s o (i - 1).toNat).length 0 = i := by
  have hr := mayK_rng h.2
  obtain ⟨m, hm⟩ := mays_pre (s := s) (o := o) (k := i.toNat) (n := 7) (by omega)
  rw [← mays_t hr.1 h, List.append_assoc] at hm
  rw [hm]
  refine ⟨by simp only [List.length_append, List.length_cons, List.length_nil]; omega, ?_⟩
  simp only [List.getD_eq_getElem?_getD]
  rw [List.getElem?_append_right (Nat.le_refl _), Nat.sub_self]
  simp
theorem open_step {s o : St} {k : Int} (ho : StOk s) (h : MayK s o k) : decide (k ≤ 4) = decide (s.way < 3) := by
  have hw : k ≤ 4 ↔ s.way < 3 := by
    unfold MayK at h
    rcases h with h | h | h | h | h | h | h <;> omega
  exact decide_eq_decide.2 hw
theorem no_bad {s o : St} {l : List Int} {k i : Int} (p2 : l = mays s o 7) (p4 : k = ((mays s o (i - 1).toNat).length : Int)) (h : MayW s o i) (h3 : (k ≥ (l.length : Int) ∨ ¬l.getD k.toNat 0 = i) ∨ ¬decide (i ≤ 4) = decide (s.way < 3)) : False := by
  have hg := mays_get h
  subst p2 p4
  rcases h3 with (h3 | h3) | h3
  · omega
  · exact h3 hg.2
  · exact h3 (open_step h.1.1 h.2)
theorem len_t {s o : St} {i : Int} (h : MayW s o i) : ((mays s o (i - 1).toNat).length : Int) + 1 = ((mays s o (i + 1 - 1).toNat).length : Int) := by
  have hr := mayK_rng h.2
  rw [show i + 1 - 1 = i by omega, ← mays_t hr.1 h]
  simp only [List.length_append, List.length_cons, List.length_nil]
  omega
theorem len_f {s o : St} {i : Int} (h0 : 0 ≤ i) (h : ¬ MayW s o i) : ((mays s o (i - 1).toNat).length : Int) = ((mays s o (i + 1 - 1).toNat).length : Int) := by
  rw [show i + 1 - 1 = i by omega]
  rcases Int.lt_or_le i 1 with h1 | h1
  · rw [show (i - 1).toNat = 0 by omega, show i.toNat = 0 by omega]
  · rw [mays_f h1 h]
theorem len_8 {s o : St} : ((mays s o 8).length : Int) = ((mays s o 7).length : Int) := by
  have : ¬ MayW s o 8 := fun h => by have := mayK_rng h.2; omega
  have e := mays_f (s := s) (o := o) (i := 8) (by omega) this
  have e1 : mays s o 7 = mays s o 8 := e
  rw [e1]

/-! ### laws.FnWayNext -/
abbrev laws_FnWayNext_l9.P (x9_0 : Bool) (x9_1 : St) (x9_2 : St) (x9_3 : List Int) (x9_4 : Int) (x9_5 : Int) : Prop := (0 ≤ x9_5) ∧ (StOk x9_1 ∧ StOk x9_2) ∧ (x9_3 = mays x9_1 x9_2 7) ∧ (x9_5 ≤ 9) ∧ (x9_4 = ((mays x9_1 x9_2 (x9_5 - 1).toNat).length : Int))
abbrev laws_FnWayNext_l9.Q (x9_0 : Bool) (x9_1 : St) (x9_2 : St) (x9_3 : List Int) (x9_4 : Int) (x9_5 : Int) (r : Nat × Bool × Int × Unit) : Prop := (¬ r.1 = 0) ∧ (r.2.2.1 = (x9_3.length : Int))
def laws_FnWayNext_l9.M (x9_0 : Bool) (x9_1 : St) (x9_2 : St) (x9_3 : List Int) (x9_4 : Int) (x9_5 : Int) : Nat := (8 + 1 - x9_5).toNat
def laws_FnWayNext_l9.L : FL := fCons (fC cBool) (fCons (fC (cPtr 1 (cStE true) rfl)) (fCons (fC (cPtr 1 (cStE true) rfl)) (fCons (fC (cOwn kInts 3)) (fCons (fC cInt) (fCons (fC cInt) (fNil))))))
def laws_FnWayNext_l9.o0 (x9_0 : Bool) (x9_1 : St) (x9_2 : St) (x9_3 : List Int) (x9_4 : Int) (x9_5 : Int) (r : Nat × Bool × Int × Unit) : Ex × List FV × List Blk := (.ret, [.c (.bool r.2.1)], [])
def laws_FnWayNext_l9.o1 (x9_0 : Bool) (x9_1 : St) (x9_2 : St) (x9_3 : List Int) (x9_4 : Int) (x9_5 : Int) (r : Nat × Bool × Int × Unit) : Ex × List FV × List Blk := (.exit 0, [.c (.own 0 1 3), .c (.int r.2.2.1)], [.arr (.ints x9_3)])
def laws_FnWayNext_l9.o (x9_0 : Bool) (x9_1 : St) (x9_2 : St) (x9_3 : List Int) (x9_4 : Int) (x9_5 : Int) (r : Nat × Bool × Int × Unit) : Ex × List FV × List Blk := pickAlt [(Nat.beq r.1 0, laws_FnWayNext_l9.o0 x9_0 x9_1 x9_2 x9_3 x9_4 x9_5 r)] (laws_FnWayNext_l9.o1 x9_0 x9_1 x9_2 x9_3 x9_4 x9_5 r)
def laws_FnWayNext_l9.f (x9_0 : Bool) (x9_1 : St) (x9_2 : St) (x9_3 : List Int) (x9_4 : Int) (x9_5 : Int) (X : (laws_FnWayNext_l9.L.α ⊕ (Ex × List FV × List Blk) → Prop)) : Prop := And (Imp ((decide (x9_5 ≤ 8)) = true) (Lt ((impl_WayMay.S x9_1 x9_2 x9_5)) fun x6 => And (Imp (x6 = true) (And (Imp (And ((decide (x9_4 ≥ (x9_3.length : Int))) = false) (True)) ((0 : Int) ≤ x9_4 ∧ x9_4 < (x9_3.length : Int))) (And (Imp (And ((decide (x9_4 ≥ (x9_3.length : Int))) = false) (True)) ((x9_4).toNat < x9_3.length)) (Lt (bif decide (x9_4 ≥ (x9_3.length : Int)) then true else (x9_3.getD (x9_4).toNat 0) != x9_5) fun x7 => Lt (!(((decide (x9_5 ≤ 4)) : Bool) == (decide (x9_1.way < 3)))) fun x8 => And (Imp ((bif x7 then true else x8) = true) (X (.inr (.ret, [.c (.bool false)], [])))) (Imp ((bif x7 then true else x8) = false) (Lt (wrap (x9_4 + 1)) fun x9 => Lt (wrap (x9_5 + 1)) fun x10 => X (.inl (x9_0, (x9_1, (x9_2, (x9_3, (x9, (x10, ()))))))))))))) (Imp (x6 = false) (Lt (wrap (x9_5 + 1)) fun x11 => X (.inl (x9_0, (x9_1, (x9_2, (x9_3, (x9_4, (x11, ()))))))))))) (Imp ((decide (x9_5 ≤ 8)) = false) (X (.inr (.exit 0, [.c (.own 0 1 3), .c (.int x9_4)], [.arr (.ints x9_3)]))))
def laws_FnWayNext_l9.d (S : laws_FnWayNext_l9.L.α → Nat × Bool × Int × Unit) : LDat := ldat 9 [2, 3, 4, 5, 6, 7] [] laws_FnWayNext_l9.L (fun s => laws_FnWayNext_l9.P s.1 s.2.1 s.2.2.1 s.2.2.2.1 s.2.2.2.2.1 s.2.2.2.2.2.1) (fun s => [(Nat.beq (S s).1 0, laws_FnWayNext_l9.o0 s.1 s.2.1 s.2.2.1 s.2.2.2.1 s.2.2.2.2.1 s.2.2.2.2.2.1 (S s))]) (fun s => laws_FnWayNext_l9.o1 s.1 s.2.1 s.2.2.1 s.2.2.2.1 s.2.2.2.2.1 s.2.2.2.2.2.1 (S s)) (fun s => laws_FnWayNext_l9.M s.1 s.2.1 s.2.2.1 s.2.2.2.1 s.2.2.2.2.1 s.2.2.2.2.2.1) 0 (fun e => match e with | .ret => [2] | _ => [5, 6]) (fun _ => [])
theorem laws_FnWayNext_l9.w (S : laws_FnWayNext_l9.L.α → Nat × Bool × Int × Unit) (x9_0 : Bool) (x9_1 : St) (x9_2 : St) (x9_3 : List Int) (x9_4 : Int) (x9_5 : Int) : evBody (envC [spec_DrawWayNext.c, impl_WayNext.c, spec_WayNext.c, laws_lwInts.c, spec_StateOk.c, impl_WayMay.c] [] []) [] (bodyAt Try.f13 0) (laws_FnWayNext_l9.d S) (x9_0, (x9_1, (x9_2, (x9_3, (x9_4, (x9_5, ())))))) = laws_FnWayNext_l9.f x9_0 x9_1 x9_2 x9_3 x9_4 x9_5 (lpx (laws_FnWayNext_l9.d S).pre (laws_FnWayNext_l9.d S).μ (laws_FnWayNext_l9.d S).out (x9_0, (x9_1, (x9_2, (x9_3, (x9_4, (x9_5, ()))))))) := by kernel_rfl
theorem laws_FnWayNext_l9.x (x9_0 : Bool) (x9_1 : St) (x9_2 : St) (x9_3 : List Int) (x9_4 : Int) (x9_5 : Int) (hp : laws_FnWayNext_l9.P x9_0 x9_1 x9_2 x9_3 x9_4 x9_5) : May (R := laws_FnWayNext_l9.L.α ⊕ (Nat × Bool × Int × Unit)) (lpq (fun s => laws_FnWayNext_l9.P s.1 s.2.1 s.2.2.1 s.2.2.2.1 s.2.2.2.2.1 s.2.2.2.2.2.1) (fun s => laws_FnWayNext_l9.M s.1 s.2.1 s.2.2.1 s.2.2.2.1 s.2.2.2.2.1 s.2.2.2.2.2.1) (fun s => laws_FnWayNext_l9.Q s.1 s.2.1 s.2.2.1 s.2.2.2.1 s.2.2.2.2.1 s.2.2.2.2.2.1) (fun s => laws_FnWayNext_l9.o s.1 s.2.1 s.2.2.1 s.2.2.2.1 s.2.2.2.2.1 s.2.2.2.2.2.1) (x9_0, (x9_1, (x9_2, (x9_3, (x9_4, (x9_5, ()))))))) (lpo (fun s => laws_FnWayNext_l9.o s.1 s.2.1 s.2.2.1 s.2.2.2.1 s.2.2.2.2.1 s.2.2.2.2.2.1) (x9_0, (x9_1, (x9_2, (x9_3, (x9_4, (x9_5, ()))))))) (laws_FnWayNext_l9.f x9_0 x9_1 x9_2 x9_3 x9_4 x9_5) := by
  obtain ⟨p0, p1, p2, p3, p4⟩ := hp
  delta laws_FnWayNext_l9.f
  refine May.iff (B.dec) (fun h1 => ?_) (fun h1 => ?_)
  refine May.lq (impl_WayMay.Q x9_1 x9_2 x9_5) (impl_WayMay.q x9_1 x9_2 x9_5) fun x6 q6 => May.iff (Iff.rfl) (fun h2 => ?_) (fun h2 => ?_)
  refine May.chk (fun hπ => have g1 := B.neg (B.dec) hπ.1; ?_) fun c1 => May.chk (fun hπ => have g1 := B.neg (B.dec) hπ.1; ?_) fun c2 => May.lp (B.or (B.dec) (B.ne)) fun x7 e7 => May.lp (B.not (B.beq)) fun x8 e8 => May.iff (B.or (e7) (e8)) (fun h3 => ?_) (fun h3 => ?_); rotate_left 2
  refine ⟨.inr (0, (false, (0, ()))), ⟨?_, ?_⟩, fun X h => h⟩; rotate_left 2
  refine May.lw ⟨?_, ?_⟩ fun x9 e9 => May.lw ⟨?_, ?_⟩ fun x10 e10 => ⟨.inl (x9_0, (x9_1, (x9_2, (x9_3, (x9, (x10, ())))))), ⟨⟨?_, ?_, ?_, ?_, ?_⟩, ?_, ?_, fun r => rfl⟩, fun X h => h⟩; rotate_left 11
  refine May.lw ⟨?_, ?_⟩ fun x11 e11 => ⟨.inl (x9_0, (x9_1, (x9_2, (x9_3, (x9_4, (x11, ())))))), ⟨⟨?_, ?_, ?_, ?_, ?_⟩, ?_, ?_, fun r => rfl⟩, fun X h => h⟩; rotate_left 9
  refine ⟨.inr (1, (false, (x9_4, ()))), ⟨?_, ?_⟩, fun X h => h⟩
  all_goals try dsimp only
  all_goals first | with_reducible assumption | omega | exact fun _ q => q | (unfold laws_FnWayNext_l9.M; omega) | (exact fun _ q => q; done) | (unfold laws_FnWayNext_l9.M; omega; done) | (exact (no_bad p2 p4 (q6.1 h2) h3).elim; done) | (rw [p4]; have := mays_len (s := x9_1) (o := x9_2) (x9_5 - 1).toNat; omega; done) | (rw [e9, p4, e10]; exact len_t (q6.1 h2); done) | (rw [p4, e11]; exact len_f p0 (fun h => h2 (q6.2 h)); done) | ((show x9_4 = (x9_3.length : Int)); rw [p4, p2, show (x9_5 - 1).toNat = 8 by omega]; exact len_8; done)
theorem laws_FnWayNext_l9.X : ∃ S : laws_FnWayNext_l9.L.α → Nat × Bool × Int × Unit, ∀ s, laws_FnWayNext_l9.P s.1 s.2.1 s.2.2.1 s.2.2.2.1 s.2.2.2.2.1 s.2.2.2.2.2.1 → laws_FnWayNext_l9.Q s.1 s.2.1 s.2.2.1 s.2.2.2.1 s.2.2.2.2.1 s.2.2.2.2.2.1 (S s) ∧ laws_FnWayNext_l9.f s.1 s.2.1 s.2.2.1 s.2.2.2.1 s.2.2.2.2.1 s.2.2.2.2.2.1 (lpx (fun s => laws_FnWayNext_l9.P s.1 s.2.1 s.2.2.1 s.2.2.2.1 s.2.2.2.2.1 s.2.2.2.2.2.1) (fun s => laws_FnWayNext_l9.M s.1 s.2.1 s.2.2.1 s.2.2.2.1 s.2.2.2.2.1 s.2.2.2.2.2.1) (fun s => laws_FnWayNext_l9.o s.1 s.2.1 s.2.2.1 s.2.2.2.1 s.2.2.2.2.1 s.2.2.2.2.2.1 (S s)) s) := loopS (0, (false, (0, ()))) fun s => laws_FnWayNext_l9.x s.1 s.2.1 s.2.2.1 s.2.2.2.1 s.2.2.2.2.1 s.2.2.2.2.2.1
noncomputable def laws_FnWayNext_l9.R (x9_0 : Bool) (x9_1 : St) (x9_2 : St) (x9_3 : List Int) (x9_4 : Int) (x9_5 : Int) : Nat × Bool × Int × Unit := Classical.choose laws_FnWayNext_l9.X (x9_0, (x9_1, (x9_2, (x9_3, (x9_4, (x9_5, ()))))))
theorem laws_FnWayNext_l9.q (x9_0 : Bool) (x9_1 : St) (x9_2 : St) (x9_3 : List Int) (x9_4 : Int) (x9_5 : Int) (hp : laws_FnWayNext_l9.P x9_0 x9_1 x9_2 x9_3 x9_4 x9_5) : laws_FnWayNext_l9.Q x9_0 x9_1 x9_2 x9_3 x9_4 x9_5 (laws_FnWayNext_l9.R x9_0 x9_1 x9_2 x9_3 x9_4 x9_5) := (Classical.choose_spec laws_FnWayNext_l9.X (x9_0, (x9_1, (x9_2, (x9_3, (x9_4, (x9_5, ())))))) hp).1
noncomputable def laws_FnWayNext_l9.k : LCtr := (laws_FnWayNext_l9.d (fun s => laws_FnWayNext_l9.R s.1 s.2.1 s.2.2.1 s.2.2.2.1 s.2.2.2.2.1 s.2.2.2.2.2.1)).ctr
theorem laws_FnWayNext_l9.g (hG : ∀ c ∈ [spec_DrawWayNext.c, impl_WayNext.c, spec_WayNext.c, laws_lwInts.c, spec_StateOk.c, impl_WayMay.c], Good Try.prog c) : LGood Try.prog Try.f13.ntmps laws_FnWayNext_l9.k (bodyAt Try.f13 0) := lgoodC (sp := []) (ct := []) (LL := []) hG (by kernel_rfl) (by rw [show loopsOf (bodyAt Try.f13 0) = [] from by kernel_rfl]; exact noL rfl) (consC' (bs := []) (by kernel_rfl) noC) fun s hp => Eq.mpr (laws_FnWayNext_l9.w (fun s => laws_FnWayNext_l9.R s.1 s.2.1 s.2.2.1 s.2.2.2.1 s.2.2.2.2.1 s.2.2.2.2.2.1) s.1 s.2.1 s.2.2.1 s.2.2.2.1 s.2.2.2.2.1 s.2.2.2.2.2.1) (Classical.choose_spec laws_FnWayNext_l9.X s hp).2
def laws_FnWayNext.enc (a0 : List Int) (r : Bool) : AV × List Blk := (.v (.c (.bool r)), [])
abbrev laws_FnWayNext.P (a0 : List Int) : Prop := (∀ k, 0 ≤ a0.getD k 0 ∧ a0.getD k 0 ≤ 255)
abbrev laws_FnWayNext.Q (a0 : List Int) (r : Bool) : Prop := (r = true)
def laws_FnWayNext.L : FL := fCons (fC (cArr true kU8s)) (fNil)
def laws_FnWayNext.f (a0 : List Int) (X : AV × List Blk → Prop) : Prop := And (Imp ((decide ((a0.length : Int) > 1048576)) = true) (X (.v (.c (.bool true)), []))) (Imp ((decide ((a0.length : Int) > 1048576)) = false) (And (spec_DrawWayNext.P a0) (Lt ((spec_DrawWayNext.S a0)) fun x1 => Lt ((impl_WayNext.S x1.1 x1.2)) fun x2 => Lt ((spec_WayNext.S x1.1 x1.2)) fun x3 => And (laws_lwInts.P x2 x3) (Lt ((laws_lwInts.S x2 x3)) fun x4 => Lt (bif bif !x4 then true else !(spec_StateOk.S x1.1) then true else !(spec_StateOk.S x1.2)) fun x5 => And (Imp (x5 = true) (And (laws_lwInts.P x2 x3) (X (.v (.c (.bool x4)), [])))) (Imp (x5 = false) (And (laws_FnWayNext_l9.P false x1.1 x1.2 x2 0 0) (Lt (laws_FnWayNext_l9.R false x1.1 x1.2 x2 0 0) fun x12 => And (Imp (Nat.beq x12.1 0 = true) (X (.v (.c (.bool x12.2.1)), []))) (Imp (Nat.beq x12.1 0 = false) (X (.v (.c (.bool (x12.2.2.1 == (x2.length : Int)))), []))))))))))
theorem laws_FnWayNext.w (a0 : List Int) (K : AV → List Blk → Prop) : evFn (envC [spec_DrawWayNext.c, impl_WayNext.c, spec_WayNext.c, laws_lwInts.c, spec_StateOk.c, impl_WayMay.c] [] []) [laws_FnWayNext_l9.k] [] [] Try.f13 (laws_FnWayNext.L.inp (a0, ())).1 (laws_FnWayNext.L.inp (a0, ())).2 K = laws_FnWayNext.f a0 (fun v => K v.1 v.2) := by kernel_rfl
theorem laws_FnWayNext.x (a0 : List Int) (hp : laws_FnWayNext.P a0) : May (laws_FnWayNext.Q a0) (laws_FnWayNext.enc a0) (laws_FnWayNext.f a0) := by
  have p0 := hp
  delta laws_FnWayNext.f
  refine May.iff (B.dec) (fun h1 => ?_) (fun h1 => ?_)
  refine ⟨(true), ?_, fun X h => h⟩; rotate_left 1
  refine May.chk ?_ fun c1 => May.lq (spec_DrawWayNext.Q a0) (spec_DrawWayNext.q a0 ?_) fun x1 q1 => have q1_0 := q1.1; have q1_1 := q1.2; May.lq (impl_WayNext.Q x1.1 x1.2) (impl_WayNext.q x1.1 x1.2) fun x2 q2 => May.lq (spec_WayNext.Q x1.1 x1.2) (spec_WayNext.q x1.1 x1.2) fun x3 q3 => have q3_0 := q3.1; have q3_1 := q3.2; May.chk ?_ fun c2 => May.lq (laws_lwInts.Q x2 x3) (laws_lwInts.q x2 x3 ?_) fun x4 q4 => May.lp (B.or (B.or (B.not (Iff.rfl)) (B.not (specSt))) (B.not (specSt))) fun x5 e5 => May.iff (e5) (fun h2 => ?_) (fun h2 => ?_); rotate_left 4
  refine May.chk ?_ fun c3 => ⟨(x4), ?_, fun X h => h⟩; rotate_left 2
  refine May.chk ⟨?_, ?_, ?_, ?_, ?_⟩ fun c4 => May.lq (laws_FnWayNext_l9.Q false x1.1 x1.2 x2 0 0) (laws_FnWayNext_l9.q false x1.1 x1.2 x2 0 0 c4) fun x12 q12 => have q12_0 := q12.1; have q12_1 := q12.2; May.iff B.nbeq (fun h3 => ?_) (fun h3 => ?_); rotate_left 5
  refine ⟨(x12.2.1), ?_, fun X h => h⟩; rotate_left 1
  refine ⟨(x12.2.2.1 == (x2.length : Int)), ?_, fun X h => h⟩
  all_goals try dsimp only
  all_goals first | with_reducible assumption | omega | (with_reducible rfl; done) | (exact B.eq.2 q12_1; done) | (rw [show x2 = mays _ _ 7 from q2]; exact Nat.le_trans (mays_len 7) (by decide); done) | (exact q4.2 ((show x2 = mays _ _ 7 from q2).trans q3_0.symm); done) | (exact ⟨Classical.byContradiction fun h => h2 (.inl (.inr h)), Classical.byContradiction fun h => h2 (.inr h)⟩; done) | (rfl; done)
theorem laws_FnWayNext.X : ∃ S : laws_FnWayNext.L.α → Bool, ∀ s, laws_FnWayNext.P s.1 → laws_FnWayNext.Q s.1 (S s) ∧ ∀ X, X (laws_FnWayNext.enc s.1 (S s)) → laws_FnWayNext.f s.1 X := mayS (false) fun s => laws_FnWayNext.x s.1
noncomputable def laws_FnWayNext.S (a0 : List Int) : Bool := Classical.choose laws_FnWayNext.X (a0, ())
theorem laws_FnWayNext.q (a0 : List Int) (hp : laws_FnWayNext.P a0) : laws_FnWayNext.Q a0 (laws_FnWayNext.S a0) := (Classical.choose_spec laws_FnWayNext.X (a0, ()) hp).1
noncomputable def laws_FnWayNext.c : Ctr := hctr 13 [false] laws_FnWayNext.L (some fun s => laws_FnWayNext.P s.1) (fun s => laws_FnWayNext.enc s.1 (laws_FnWayNext.S s.1))
theorem laws_FnWayNext.good : Good Try.prog laws_FnWayNext.c :=
  hgoodC (sh := []) (tk := []) (sp := []) (ct := []) (LL := [laws_FnWayNext_l9.k]) (consG spec_DrawWayNext.good (consG impl_WayNext.good (consG spec_WayNext.good (consG laws_lwInts.good (consG spec_StateOk.good (consG impl_WayMay.good noG)))))) (fn := Try.f13) (by kernel_rfl) (by kernel_rfl) (by rw [show loopsOf (bodyOf Try.f13) = [(bodyAt Try.f13 0)] from by kernel_rfl]; exact consL (l := laws_FnWayNext_l9.k) (by kernel_rfl) (laws_FnWayNext_l9.g (consG spec_DrawWayNext.good (consG impl_WayNext.good (consG spec_WayNext.good (consG laws_lwInts.good (consG spec_StateOk.good (consG impl_WayMay.good noG))))))) (noL rfl)) (consC' (bs := []) (by kernel_rfl) noC) fun s hp => Eq.mpr (laws_FnWayNext.w s.1 (fun r bs' => And (r = (laws_FnWayNext.c.out s).1) (bs' = (laws_FnWayNext.c.out s).2))) ((Classical.choose_spec laws_FnWayNext.X s (hp _ rfl)).2 _ ⟨rfl, rfl⟩)
end Hw
end Go.Proofs.Ytmhighcagpbmeaa
