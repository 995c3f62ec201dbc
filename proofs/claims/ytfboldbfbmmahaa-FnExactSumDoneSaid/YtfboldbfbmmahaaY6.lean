/- Equality: made by gen.py. -/
import Derived.Test.YtfboldbfbmmahaaY5
set_option linter.unusedVariables false
set_option linter.unusedSimpArgs false
set_option maxRecDepth 100000
set_option maxHeartbeats 4000000
namespace Go.Proofs.Ytfboldbfbmmahaa
namespace Hw
open Go
/-! ### laws.eqIntS -/
def laws_eqIntS_l4.S : Nat → (List Int) → (List Int) → Bool → Int → Nat × Bool × Int × Unit
  | 0, _, _, _, _ => (0, (false, (0, ())))
  | n + 1, x4_0, x4_1, x4_2, x4_3 => bif decide (x4_3 < (x4_0.length : Int)) then bif (x4_0.getD (x4_3).toNat 0) != (x4_1.getD (x4_3).toNat 0) then (0, (false, (x4_3, ()))) else laws_eqIntS_l4.S n x4_0 x4_1 x4_2 (wrap (x4_3 + 1)) else (1, (false, (x4_3, ())))
def laws_eqIntS_l4.M (x4_0 : List Int) (x4_1 : List Int) (x4_2 : Bool) (x4_3 : Int) : Nat := ((x4_0.length : Int) - x4_3).toNat
def laws_eqIntS_l4.R (x4_0 : List Int) (x4_1 : List Int) (x4_2 : Bool) (x4_3 : Int) : Nat × Bool × Int × Unit := laws_eqIntS_l4.S (laws_eqIntS_l4.M x4_0 x4_1 x4_2 x4_3 + 1) x4_0 x4_1 x4_2 x4_3
def laws_eqIntS_l4.P (x4_0 : List Int) (x4_1 : List Int) (x4_2 : Bool) (x4_3 : Int) : Prop := (0 ≤ x4_3) ∧ ((x4_0.length : Int) ≤ 9223372036854775807) ∧ (((x4_0.length : Int) != (x4_1.length : Int)) = false)
def laws_eqIntS_l4.L : FL := fCons (fC (cArr false kInts)) (fCons (fC (cArr false kInts)) (fCons (fC cBool) (fCons (fC cInt) (fNil))))
def laws_eqIntS_l4.o0 (x4_0 : List Int) (x4_1 : List Int) (x4_2 : Bool) (x4_3 : Int) (r : Nat × Bool × Int × Unit) : Ex × List FV × List Blk := (.ret, [.c (.arr false (.ints x4_0)), .c (.arr false (.ints x4_1)), .c (.bool r.2.1), .c (.int r.2.2.1)], [])
def laws_eqIntS_l4.o1 (x4_0 : List Int) (x4_1 : List Int) (x4_2 : Bool) (x4_3 : Int) (r : Nat × Bool × Int × Unit) : Ex × List FV × List Blk := (.exit 0, [.c (.arr false (.ints x4_0)), .c (.arr false (.ints x4_1)), .c (.bool x4_2), .c (.int r.2.2.1)], [])
def laws_eqIntS_l4.o (x4_0 : List Int) (x4_1 : List Int) (x4_2 : Bool) (x4_3 : Int) (r : Nat × Bool × Int × Unit) : Ex × List FV × List Blk := pickAlt [(Nat.beq r.1 0, laws_eqIntS_l4.o0 x4_0 x4_1 x4_2 x4_3 r)] (laws_eqIntS_l4.o1 x4_0 x4_1 x4_2 x4_3 r)
def laws_eqIntS_l4.d : LDat := ldat 4 [0, 1, 4, 5] [] laws_eqIntS_l4.L (fun s => laws_eqIntS_l4.P s.1 s.2.1 s.2.2.1 s.2.2.2.1) (fun s => [(Nat.beq (laws_eqIntS_l4.R s.1 s.2.1 s.2.2.1 s.2.2.2.1).1 0, laws_eqIntS_l4.o0 s.1 s.2.1 s.2.2.1 s.2.2.2.1 (laws_eqIntS_l4.R s.1 s.2.1 s.2.2.1 s.2.2.2.1))]) (fun s => laws_eqIntS_l4.o1 s.1 s.2.1 s.2.2.1 s.2.2.2.1 (laws_eqIntS_l4.R s.1 s.2.1 s.2.2.1 s.2.2.2.1)) (fun s => laws_eqIntS_l4.M s.1 s.2.1 s.2.2.1 s.2.2.2.1)
def laws_eqIntS.S (a0 : List Int) (a1 : List Int) : Bool := bif (a0.length : Int) != (a1.length : Int) then (false) else bif Nat.beq (laws_eqIntS_l4.R a0 a1 false 0).1 0 then ((laws_eqIntS_l4.R a0 a1 false 0).2.1) else (true)
def laws_eqIntS.enc (r : Bool) : AV × List Blk := (.v (.c (.bool r)), [])
def laws_eqIntS.L : ShL := sCons sInts (sCons sInts (sNil))
def laws_eqIntS.c : Ctr := vctr 23 laws_eqIntS.L none (fun s => laws_eqIntS.enc (laws_eqIntS.S s.1 s.2.1))
theorem laws_eqIntS_l4.w (x4_0 : List Int) (x4_1 : List Int) (x4_2 : Bool) (x4_3 : Int) : evBody (env []) [] (bodyAt Try.f23 0) laws_eqIntS_l4.d (x4_0, (x4_1, (x4_2, (x4_3, ())))) = (And (Imp ((decide (x4_3 < (x4_0.length : Int))) = true) (And ((0 : Int) ≤ x4_3 ∧ x4_3 < (x4_0.length : Int)) (And ((0 : Int) ≤ x4_3 ∧ x4_3 < (x4_1.length : Int)) (And (Imp (((x4_0.getD (x4_3).toNat 0) != (x4_1.getD (x4_3).toNat 0)) = true) (laws_eqIntS_l4.o x4_0 x4_1 x4_2 x4_3 (laws_eqIntS_l4.R x4_0 x4_1 x4_2 x4_3) = (.ret, [.c (.arr false (.ints x4_0)), .c (.arr false (.ints x4_1)), .c (.bool false), .c (.int x4_3)], []))) (Imp (((x4_0.getD (x4_3).toNat 0) != (x4_1.getD (x4_3).toNat 0)) = false) (And (laws_eqIntS_l4.P x4_0 x4_1 x4_2 (wrap (x4_3 + 1))) (And (laws_eqIntS_l4.M x4_0 x4_1 x4_2 (wrap (x4_3 + 1)) < laws_eqIntS_l4.M x4_0 x4_1 x4_2 x4_3) (laws_eqIntS_l4.o x4_0 x4_1 x4_2 (wrap (x4_3 + 1)) (laws_eqIntS_l4.R x4_0 x4_1 x4_2 (wrap (x4_3 + 1))) = laws_eqIntS_l4.o x4_0 x4_1 x4_2 x4_3 (laws_eqIntS_l4.R x4_0 x4_1 x4_2 x4_3))))))))) (Imp ((decide (x4_3 < (x4_0.length : Int))) = false) (laws_eqIntS_l4.o x4_0 x4_1 x4_2 x4_3 (laws_eqIntS_l4.R x4_0 x4_1 x4_2 x4_3) = (.exit 0, [.c (.arr false (.ints x4_0)), .c (.arr false (.ints x4_1)), .c (.bool x4_2), .c (.int x4_3)], [])))) := by kernel_rfl
theorem laws_eqIntS_l4.v (x4_0 : List Int) (x4_1 : List Int) (x4_2 : Bool) (x4_3 : Int) (hp : laws_eqIntS_l4.P x4_0 x4_1 x4_2 x4_3) : And (Imp ((decide (x4_3 < (x4_0.length : Int))) = true) (And ((0 : Int) ≤ x4_3 ∧ x4_3 < (x4_0.length : Int)) (And ((0 : Int) ≤ x4_3 ∧ x4_3 < (x4_1.length : Int)) (And (Imp (((x4_0.getD (x4_3).toNat 0) != (x4_1.getD (x4_3).toNat 0)) = true) (laws_eqIntS_l4.o x4_0 x4_1 x4_2 x4_3 (laws_eqIntS_l4.R x4_0 x4_1 x4_2 x4_3) = (.ret, [.c (.arr false (.ints x4_0)), .c (.arr false (.ints x4_1)), .c (.bool false), .c (.int x4_3)], []))) (Imp (((x4_0.getD (x4_3).toNat 0) != (x4_1.getD (x4_3).toNat 0)) = false) (And (laws_eqIntS_l4.P x4_0 x4_1 x4_2 (wrap (x4_3 + 1))) (And (laws_eqIntS_l4.M x4_0 x4_1 x4_2 (wrap (x4_3 + 1)) < laws_eqIntS_l4.M x4_0 x4_1 x4_2 x4_3) (laws_eqIntS_l4.o x4_0 x4_1 x4_2 (wrap (x4_3 + 1)) (laws_eqIntS_l4.R x4_0 x4_1 x4_2 (wrap (x4_3 + 1))) = laws_eqIntS_l4.o x4_0 x4_1 x4_2 x4_3 (laws_eqIntS_l4.R x4_0 x4_1 x4_2 x4_3))))))))) (Imp ((decide (x4_3 < (x4_0.length : Int))) = false) (laws_eqIntS_l4.o x4_0 x4_1 x4_2 x4_3 (laws_eqIntS_l4.R x4_0 x4_1 x4_2 x4_3) = (.exit 0, [.c (.arr false (.ints x4_0)), .c (.arr false (.ints x4_1)), .c (.bool x4_2), .c (.int x4_3)], []))) := by
  simp only [laws_eqIntS_l4.P] at hp
  obtain ⟨p0, p1, p2⟩ := hp
  refine ⟨fun h1 => ?_, fun h1 => ?_⟩
  · refine ⟨by first | assumption | omega | grind [wrap_id], ?_⟩
    refine ⟨by first | assumption | omega | grind [wrap_id], ?_⟩
    refine ⟨fun h2 => ?_, fun h2 => ?_⟩
    · have e : laws_eqIntS_l4.R x4_0 x4_1 x4_2 x4_3 = (0, (false, (x4_3, ()))) := by simp only [laws_eqIntS_l4.R, laws_eqIntS_l4.S, h1, h2, cond_true, cond_false]
      rw [e]
      rfl
    · have hμ : laws_eqIntS_l4.M x4_0 x4_1 x4_2 x4_3 = laws_eqIntS_l4.M x4_0 x4_1 x4_2 (wrap (x4_3 + 1)) + 1 := by simp only [laws_eqIntS_l4.M]; first | omega | grind [wrap_id]
      refine ⟨by simp only [laws_eqIntS_l4.P]; refine ⟨(by first | assumption | omega | grind [wrap_id]), (by first | assumption | omega | grind [wrap_id]), (by first | assumption | omega | grind [wrap_id])⟩, by omega, ?_⟩
      have e : laws_eqIntS_l4.R x4_0 x4_1 x4_2 x4_3 = laws_eqIntS_l4.R x4_0 x4_1 x4_2 (wrap (x4_3 + 1)) := by
        have e1 : laws_eqIntS_l4.R x4_0 x4_1 x4_2 x4_3 = laws_eqIntS_l4.S (laws_eqIntS_l4.M x4_0 x4_1 x4_2 x4_3) x4_0 x4_1 x4_2 (wrap (x4_3 + 1)) := by simp only [laws_eqIntS_l4.R, laws_eqIntS_l4.S, h1, h2, cond_true, cond_false]
        rw [e1, hμ]
        rfl
      rw [e]
      rfl
  · have e : laws_eqIntS_l4.R x4_0 x4_1 x4_2 x4_3 = (1, (false, (x4_3, ()))) := by simp only [laws_eqIntS_l4.R, laws_eqIntS_l4.S, h1, cond_true, cond_false]
    rw [e]
    rfl
theorem laws_eqIntS_l4.g (hG : ∀ c ∈ [], Good Try.prog c) : LGood Try.prog Try.f23.ntmps laws_eqIntS_l4.d.ctr (bodyAt Try.f23 0) := by
  refine lgood (LL := []) hG (by kernel_rfl) (by rw [show loopsOf (bodyAt Try.f23 0) = [] from by kernel_rfl]; exact noL rfl) fun s hp => ?_
  refine Eq.mpr (laws_eqIntS_l4.w s.1 s.2.1 s.2.2.1 s.2.2.2.1) ?_
  replace hp : laws_eqIntS_l4.P s.1 s.2.1 s.2.2.1 s.2.2.2.1 := hp
  exact laws_eqIntS_l4.v _ _ _ _ hp
def laws_eqIntS_l4.E (x4_0 : List Int) (x4_1 : List Int) (x4_2 : Bool) (k : Nat) (a : Unit) : Option (Nat × Bool × Int × Unit) := bif (x4_0.getD k 0) != (x4_1.getD k 0) then some (0, (false, ((k : Int), ()))) else none
def laws_eqIntS_l4.A (x4_0 : List Int) (x4_1 : List Int) (x4_2 : Bool) (k : Nat) (a : Unit) : Unit := bif (x4_0.getD k 0) != (x4_1.getD k 0) then a else ()
def laws_eqIntS_l4.fin (x4_0 : List Int) (x4_1 : List Int) (x4_2 : Bool) (k : Nat) (a : Unit) : Nat × Bool × Int × Unit := (1, (false, ((k : Int), ())))
def laws_eqIntS_l4.acc (x4_0 : List Int) (x4_1 : List Int) (x4_2 : Bool) (a : Unit) : Nat → Unit
  | 0 => a
  | k + 1 => laws_eqIntS_l4.A x4_0 x4_1 x4_2 k (laws_eqIntS_l4.acc x4_0 x4_1 x4_2 a k)
theorem laws_eqIntS_l4.law (x4_0 : List Int) (x4_1 : List Int) (x4_2 : Bool) (a : Unit) (n : Nat) (hT : (x4_0.length : Int) = (n : Int)) (hn : (n : Int) ≤ 9223372036854775807) :
    ((∀ k, k < n → laws_eqIntS_l4.E x4_0 x4_1 x4_2 k (laws_eqIntS_l4.acc x4_0 x4_1 x4_2 a k) = none) ∧ laws_eqIntS_l4.R x4_0 x4_1 x4_2 0 = laws_eqIntS_l4.fin x4_0 x4_1 x4_2 n (laws_eqIntS_l4.acc x4_0 x4_1 x4_2 a n)) ∨ (∃ k r, k < n ∧ laws_eqIntS_l4.E x4_0 x4_1 x4_2 k (laws_eqIntS_l4.acc x4_0 x4_1 x4_2 a k) = some r ∧ (∀ j, j < k → laws_eqIntS_l4.E x4_0 x4_1 x4_2 j (laws_eqIntS_l4.acc x4_0 x4_1 x4_2 a j) = none) ∧ laws_eqIntS_l4.R x4_0 x4_1 x4_2 0 = r) := by
  have hM : laws_eqIntS_l4.M x4_0 x4_1 x4_2 0 + 1 = n + 1 := by simp only [laws_eqIntS_l4.M]; omega
  unfold laws_eqIntS_l4.R
  rw [hM]
  refine loopE (fun m i b => laws_eqIntS_l4.S m x4_0 x4_1 x4_2 i) n hn (laws_eqIntS_l4.acc x4_0 x4_1 x4_2 a) (laws_eqIntS_l4.E x4_0 x4_1 x4_2 ) (laws_eqIntS_l4.fin x4_0 x4_1 x4_2 ) fun m k hk => ?_
  have ha : laws_eqIntS_l4.acc x4_0 x4_1 x4_2 a (k + 1) = laws_eqIntS_l4.A x4_0 x4_1 x4_2 k (laws_eqIntS_l4.acc x4_0 x4_1 x4_2 a k) := rfl
  rw [ha]
  generalize laws_eqIntS_l4.acc x4_0 x4_1 x4_2 a k = b
  simp only [laws_eqIntS_l4.S, laws_eqIntS_l4.E, laws_eqIntS_l4.A, laws_eqIntS_l4.fin, hT, Int.toNat_natCast]
  all_goals grind
theorem laws_eqIntS.w (a0 : List Int) (a1 : List Int) (K : AV → List Blk → Prop) : evFn (env []) [laws_eqIntS_l4.d.ctr] [] Try.f23 [] (laws_eqIntS.L.enc (a0, (a1, ()))) K = (And (Imp (((a0.length : Int) != (a1.length : Int)) = true) (K (.v (.c (.bool false))) ([]))) (Imp (((a0.length : Int) != (a1.length : Int)) = false) (And (laws_eqIntS_l4.P a0 a1 false 0) (And (Imp (Nat.beq (laws_eqIntS_l4.R a0 a1 false 0).1 0 = true) (K (.v (.c (.bool (laws_eqIntS_l4.R a0 a1 false 0).2.1))) ([]))) (Imp (Nat.beq (laws_eqIntS_l4.R a0 a1 false 0).1 0 = false) (K (.v (.c (.bool true))) ([]))))))) := by kernel_rfl
theorem laws_eqIntS.v (a0 : List Int) (a1 : List Int) (hf : (a0.length : Int) ≤ 9223372036854775807 ∧ (a1.length : Int) ≤ 9223372036854775807 ∧ True) (K : AV → List Blk → Prop) (hK : K (laws_eqIntS.enc (laws_eqIntS.S a0 a1)).1 (laws_eqIntS.enc (laws_eqIntS.S a0 a1)).2) : And (Imp (((a0.length : Int) != (a1.length : Int)) = true) (K (.v (.c (.bool false))) ([]))) (Imp (((a0.length : Int) != (a1.length : Int)) = false) (And (laws_eqIntS_l4.P a0 a1 false 0) (And (Imp (Nat.beq (laws_eqIntS_l4.R a0 a1 false 0).1 0 = true) (K (.v (.c (.bool (laws_eqIntS_l4.R a0 a1 false 0).2.1))) ([]))) (Imp (Nat.beq (laws_eqIntS_l4.R a0 a1 false 0).1 0 = false) (K (.v (.c (.bool true))) ([])))))) := by
  obtain ⟨f0, f1, -⟩ := hf
  try simp only [big] at *
  refine ⟨fun h1 => ?_, fun h1 => ?_⟩
  · have e : laws_eqIntS.S a0 a1 = (false) := by simp only [laws_eqIntS.S, h1, cond_true, cond_false]
    rw [e] at hK
    exact hK
  · refine ⟨by simp only [laws_eqIntS_l4.P]; refine ⟨(by first | assumption | omega | grind [wrap_id]), (by first | assumption | omega | grind [wrap_id]), (by first | assumption | omega | grind [wrap_id])⟩, ?_⟩
    refine ⟨fun h2 => ?_, fun h2 => ?_⟩
    · have e : laws_eqIntS.S a0 a1 = ((laws_eqIntS_l4.R a0 a1 false 0).2.1) := by simp only [laws_eqIntS.S, h1, h2, cond_true, cond_false]
      rw [e] at hK
      exact hK
    · have e : laws_eqIntS.S a0 a1 = (true) := by simp only [laws_eqIntS.S, h1, h2, cond_true, cond_false]
      rw [e] at hK
      exact hK
theorem laws_eqIntS.good : Good Try.prog laws_eqIntS.c :=
  vgood (sh := []) (LL := [laws_eqIntS_l4.d.ctr]) noG (fn := Try.f23) (by kernel_rfl) (by kernel_rfl) (by rw [show loopsOf (bodyOf Try.f23) = [(bodyAt Try.f23 0)] from by kernel_rfl]; exact consL (l := laws_eqIntS_l4.d.ctr) (by kernel_rfl) (laws_eqIntS_l4.g noG) (noL rfl)) fun s hp hf => by
    refine Eq.mpr (laws_eqIntS.w (s.1) (s.2.1) _) ?_
    exact laws_eqIntS.v _ _ hf (fun r bs' => And (r = (laws_eqIntS.c.out s).1) (bs' = (laws_eqIntS.c.out s).2)) ⟨rfl, rfl⟩
/-! ### laws.eqBank -/
def laws_eqBank.S (a0 : Bk) (a1 : Bk) : Bool := bif !(laws_eqIntS.S a0.own a1.own) then (false) else bif !(laws_eqIntS.S a0.notes a1.notes) then (false) else bif a0.locked != a1.locked then (false) else (true)
def laws_eqBank.enc (r : Bool) : AV × List Blk := (.v (.c (.bool r)), [])
def laws_eqBank.L : ShL := sCons sBk (sCons sBk (sNil))
def laws_eqBank.c : Ctr := vctr 88 laws_eqBank.L none (fun s => laws_eqBank.enc (laws_eqBank.S s.1 s.2.1))
theorem laws_eqBank.w (a0 : Bk) (a1 : Bk) (K : AV → List Blk → Prop) : evFn (env [laws_eqIntS.c]) [] [] Try.f88 [] (laws_eqBank.L.enc (a0, (a1, ()))) K = (And (Imp ((!(laws_eqIntS.S a0.own a1.own)) = true) (K (.v (.c (.bool false))) ([]))) (Imp ((!(laws_eqIntS.S a0.own a1.own)) = false) (And (Imp ((!(laws_eqIntS.S a0.notes a1.notes)) = true) (K (.v (.c (.bool false))) ([]))) (Imp ((!(laws_eqIntS.S a0.notes a1.notes)) = false) (And (Imp ((a0.locked != a1.locked) = true) (K (.v (.c (.bool false))) ([]))) (Imp ((a0.locked != a1.locked) = false) (K (.v (.c (.bool true))) ([])))))))) := by kernel_rfl
theorem laws_eqBank.v (a0 : Bk) (a1 : Bk) (hf : Bk.fact a0 ∧ Bk.fact a1 ∧ True) (K : AV → List Blk → Prop) (hK : K (laws_eqBank.enc (laws_eqBank.S a0 a1)).1 (laws_eqBank.enc (laws_eqBank.S a0 a1)).2) : And (Imp ((!(laws_eqIntS.S a0.own a1.own)) = true) (K (.v (.c (.bool false))) ([]))) (Imp ((!(laws_eqIntS.S a0.own a1.own)) = false) (And (Imp ((!(laws_eqIntS.S a0.notes a1.notes)) = true) (K (.v (.c (.bool false))) ([]))) (Imp ((!(laws_eqIntS.S a0.notes a1.notes)) = false) (And (Imp ((a0.locked != a1.locked) = true) (K (.v (.c (.bool false))) ([]))) (Imp ((a0.locked != a1.locked) = false) (K (.v (.c (.bool true))) ([]))))))) := by
  obtain ⟨f0, f1, -⟩ := hf
  obtain ⟨f0_0, f0_1⟩ := f0
  obtain ⟨f1_0, f1_1⟩ := f1
  try simp only [big] at *
  refine ⟨fun h1 => ?_, fun h1 => ?_⟩
  · have e : laws_eqBank.S a0 a1 = (false) := by simp only [laws_eqBank.S, h1, cond_true, cond_false]
    rw [e] at hK
    exact hK
  · refine ⟨fun h2 => ?_, fun h2 => ?_⟩
    · have e : laws_eqBank.S a0 a1 = (false) := by simp only [laws_eqBank.S, h1, h2, cond_true, cond_false]
      rw [e] at hK
      exact hK
    · refine ⟨fun h3 => ?_, fun h3 => ?_⟩
      · have e : laws_eqBank.S a0 a1 = (false) := by simp only [laws_eqBank.S, h1, h2, h3, cond_true, cond_false]
        rw [e] at hK
        exact hK
      · have e : laws_eqBank.S a0 a1 = (true) := by simp only [laws_eqBank.S, h1, h2, h3, cond_true, cond_false]
        rw [e] at hK
        exact hK
theorem laws_eqBank.good : Good Try.prog laws_eqBank.c :=
  vgood (sh := []) (LL := []) (consG laws_eqIntS.good noG) (fn := Try.f88) (by kernel_rfl) (by kernel_rfl) (by rw [show loopsOf (bodyOf Try.f88) = [] from by kernel_rfl]; exact noL rfl) fun s hp hf => by
    refine Eq.mpr (laws_eqBank.w (s.1) (s.2.1) _) ?_
    exact laws_eqBank.v _ _ hf (fun r bs' => And (r = (laws_eqBank.c.out s).1) (bs' = (laws_eqBank.c.out s).2)) ⟨rfl, rfl⟩
/-! ### laws.eqPacket -/
def laws_eqPacket.S (a0 : Pkt) (a1 : Pkt) : Bool := bif a0.seq != a1.seq then (false) else bif a0.kind != a1.kind then (false) else bif a0.frm != a1.frm then (false) else bif a0.to != a1.to then (false) else bif a0.sum != a1.sum then (false) else bif a0.til != a1.til then (false) else bif a0.ver != a1.ver then (false) else (true)
def laws_eqPacket.enc (r : Bool) : AV × List Blk := (.v (.c (.bool r)), [])
def laws_eqPacket.L : ShL := sCons sPkt (sCons sPkt (sNil))
def laws_eqPacket.c : Ctr := vctr 109 laws_eqPacket.L none (fun s => laws_eqPacket.enc (laws_eqPacket.S s.1 s.2.1))
theorem laws_eqPacket.w (a0 : Pkt) (a1 : Pkt) (K : AV → List Blk → Prop) : evFn (env []) [] [] Try.f109 [] (laws_eqPacket.L.enc (a0, (a1, ()))) K = (And (Imp ((a0.seq != a1.seq) = true) (K (.v (.c (.bool false))) ([]))) (Imp ((a0.seq != a1.seq) = false) (And (Imp ((a0.kind != a1.kind) = true) (K (.v (.c (.bool false))) ([]))) (Imp ((a0.kind != a1.kind) = false) (And (Imp ((a0.frm != a1.frm) = true) (K (.v (.c (.bool false))) ([]))) (Imp ((a0.frm != a1.frm) = false) (And (Imp ((a0.to != a1.to) = true) (K (.v (.c (.bool false))) ([]))) (Imp ((a0.to != a1.to) = false) (And (Imp ((a0.sum != a1.sum) = true) (K (.v (.c (.bool false))) ([]))) (Imp ((a0.sum != a1.sum) = false) (And (Imp ((a0.til != a1.til) = true) (K (.v (.c (.bool false))) ([]))) (Imp ((a0.til != a1.til) = false) (And (Imp ((a0.ver != a1.ver) = true) (K (.v (.c (.bool false))) ([]))) (Imp ((a0.ver != a1.ver) = false) (K (.v (.c (.bool true))) ([])))))))))))))))) := by kernel_rfl
theorem laws_eqPacket.v (a0 : Pkt) (a1 : Pkt) (hf : True ∧ True ∧ True) (K : AV → List Blk → Prop) (hK : K (laws_eqPacket.enc (laws_eqPacket.S a0 a1)).1 (laws_eqPacket.enc (laws_eqPacket.S a0 a1)).2) : And (Imp ((a0.seq != a1.seq) = true) (K (.v (.c (.bool false))) ([]))) (Imp ((a0.seq != a1.seq) = false) (And (Imp ((a0.kind != a1.kind) = true) (K (.v (.c (.bool false))) ([]))) (Imp ((a0.kind != a1.kind) = false) (And (Imp ((a0.frm != a1.frm) = true) (K (.v (.c (.bool false))) ([]))) (Imp ((a0.frm != a1.frm) = false) (And (Imp ((a0.to != a1.to) = true) (K (.v (.c (.bool false))) ([]))) (Imp ((a0.to != a1.to) = false) (And (Imp ((a0.sum != a1.sum) = true) (K (.v (.c (.bool false))) ([]))) (Imp ((a0.sum != a1.sum) = false) (And (Imp ((a0.til != a1.til) = true) (K (.v (.c (.bool false))) ([]))) (Imp ((a0.til != a1.til) = false) (And (Imp ((a0.ver != a1.ver) = true) (K (.v (.c (.bool false))) ([]))) (Imp ((a0.ver != a1.ver) = false) (K (.v (.c (.bool true))) ([]))))))))))))))) := by
  clear hf
  refine ⟨fun h1 => ?_, fun h1 => ?_⟩
  · have e : laws_eqPacket.S a0 a1 = (false) := by simp only [laws_eqPacket.S, h1, cond_true, cond_false]
    rw [e] at hK
    exact hK
  · refine ⟨fun h2 => ?_, fun h2 => ?_⟩
    · have e : laws_eqPacket.S a0 a1 = (false) := by simp only [laws_eqPacket.S, h1, h2, cond_true, cond_false]
      rw [e] at hK
      exact hK
    · refine ⟨fun h3 => ?_, fun h3 => ?_⟩
      · have e : laws_eqPacket.S a0 a1 = (false) := by simp only [laws_eqPacket.S, h1, h2, h3, cond_true, cond_false]
        rw [e] at hK
        exact hK
      · refine ⟨fun h4 => ?_, fun h4 => ?_⟩
        · have e : laws_eqPacket.S a0 a1 = (false) := by simp only [laws_eqPacket.S, h1, h2, h3, h4, cond_true, cond_false]
          rw [e] at hK
          exact hK
        · refine ⟨fun h5 => ?_, fun h5 => ?_⟩
          · have e : laws_eqPacket.S a0 a1 = (false) := by simp only [laws_eqPacket.S, h1, h2, h3, h4, h5, cond_true, cond_false]
            rw [e] at hK
            exact hK
          · refine ⟨fun h6 => ?_, fun h6 => ?_⟩
            · have e : laws_eqPacket.S a0 a1 = (false) := by simp only [laws_eqPacket.S, h1, h2, h3, h4, h5, h6, cond_true, cond_false]
              rw [e] at hK
              exact hK
            · refine ⟨fun h7 => ?_, fun h7 => ?_⟩
              · have e : laws_eqPacket.S a0 a1 = (false) := by simp only [laws_eqPacket.S, h1, h2, h3, h4, h5, h6, h7, cond_true, cond_false]
                rw [e] at hK
                exact hK
              · have e : laws_eqPacket.S a0 a1 = (true) := by simp only [laws_eqPacket.S, h1, h2, h3, h4, h5, h6, h7, cond_true, cond_false]
                rw [e] at hK
                exact hK
theorem laws_eqPacket.good : Good Try.prog laws_eqPacket.c :=
  vgood (sh := []) (LL := []) noG (fn := Try.f109) (by kernel_rfl) (by kernel_rfl) (by rw [show loopsOf (bodyOf Try.f109) = [] from by kernel_rfl]; exact noL rfl) fun s hp hf => by
    refine Eq.mpr (laws_eqPacket.w (s.1) (s.2.1) _) ?_
    exact laws_eqPacket.v _ _ hf (fun r bs' => And (r = (laws_eqPacket.c.out s).1) (bs' = (laws_eqPacket.c.out s).2)) ⟨rfl, rfl⟩
/-! ### laws.eqPacketS -/
def laws_eqPacketS_l4.S : Nat → (List Pkt) → (List Pkt) → Bool → Int → Nat × Bool × Int × Unit
  | 0, _, _, _, _ => (0, (false, (0, ())))
  | n + 1, x4_0, x4_1, x4_2, x4_3 => bif decide (x4_3 < (x4_0.length : Int)) then bif !(laws_eqPacket.S (x4_0.getD (x4_3).toNat zPkt) (x4_1.getD (x4_3).toNat zPkt)) then (0, (false, (x4_3, ()))) else laws_eqPacketS_l4.S n x4_0 x4_1 x4_2 (wrap (x4_3 + 1)) else (1, (false, (x4_3, ())))
def laws_eqPacketS_l4.M (x4_0 : List Pkt) (x4_1 : List Pkt) (x4_2 : Bool) (x4_3 : Int) : Nat := ((x4_0.length : Int) - x4_3).toNat
def laws_eqPacketS_l4.R (x4_0 : List Pkt) (x4_1 : List Pkt) (x4_2 : Bool) (x4_3 : Int) : Nat × Bool × Int × Unit := laws_eqPacketS_l4.S (laws_eqPacketS_l4.M x4_0 x4_1 x4_2 x4_3 + 1) x4_0 x4_1 x4_2 x4_3
def laws_eqPacketS_l4.P (x4_0 : List Pkt) (x4_1 : List Pkt) (x4_2 : Bool) (x4_3 : Int) : Prop := (0 ≤ x4_3) ∧ ((x4_0.length : Int) ≤ 9223372036854775807) ∧ (((x4_0.length : Int) != (x4_1.length : Int)) = false)
def laws_eqPacketS_l4.L : FL := fCons (fC (cArr false kPkts)) (fCons (fC (cArr false kPkts)) (fCons (fC cBool) (fCons (fC cInt) (fNil))))
def laws_eqPacketS_l4.o0 (x4_0 : List Pkt) (x4_1 : List Pkt) (x4_2 : Bool) (x4_3 : Int) (r : Nat × Bool × Int × Unit) : Ex × List FV × List Blk := (.ret, [.c (.arr false (.pkts x4_0)), .c (.arr false (.pkts x4_1)), .c (.bool r.2.1), .c (.int r.2.2.1)], [])
def laws_eqPacketS_l4.o1 (x4_0 : List Pkt) (x4_1 : List Pkt) (x4_2 : Bool) (x4_3 : Int) (r : Nat × Bool × Int × Unit) : Ex × List FV × List Blk := (.exit 0, [.c (.arr false (.pkts x4_0)), .c (.arr false (.pkts x4_1)), .c (.bool x4_2), .c (.int r.2.2.1)], [])
def laws_eqPacketS_l4.o (x4_0 : List Pkt) (x4_1 : List Pkt) (x4_2 : Bool) (x4_3 : Int) (r : Nat × Bool × Int × Unit) : Ex × List FV × List Blk := pickAlt [(Nat.beq r.1 0, laws_eqPacketS_l4.o0 x4_0 x4_1 x4_2 x4_3 r)] (laws_eqPacketS_l4.o1 x4_0 x4_1 x4_2 x4_3 r)
def laws_eqPacketS_l4.d : LDat := ldat 4 [0, 1, 4, 5] [] laws_eqPacketS_l4.L (fun s => laws_eqPacketS_l4.P s.1 s.2.1 s.2.2.1 s.2.2.2.1) (fun s => [(Nat.beq (laws_eqPacketS_l4.R s.1 s.2.1 s.2.2.1 s.2.2.2.1).1 0, laws_eqPacketS_l4.o0 s.1 s.2.1 s.2.2.1 s.2.2.2.1 (laws_eqPacketS_l4.R s.1 s.2.1 s.2.2.1 s.2.2.2.1))]) (fun s => laws_eqPacketS_l4.o1 s.1 s.2.1 s.2.2.1 s.2.2.2.1 (laws_eqPacketS_l4.R s.1 s.2.1 s.2.2.1 s.2.2.2.1)) (fun s => laws_eqPacketS_l4.M s.1 s.2.1 s.2.2.1 s.2.2.2.1)
def laws_eqPacketS.S (a0 : List Pkt) (a1 : List Pkt) : Bool := bif (a0.length : Int) != (a1.length : Int) then (false) else bif Nat.beq (laws_eqPacketS_l4.R a0 a1 false 0).1 0 then ((laws_eqPacketS_l4.R a0 a1 false 0).2.1) else (true)
def laws_eqPacketS.enc (r : Bool) : AV × List Blk := (.v (.c (.bool r)), [])
def laws_eqPacketS.L : ShL := sCons sPkts (sCons sPkts (sNil))
def laws_eqPacketS.c : Ctr := vctr 102 laws_eqPacketS.L none (fun s => laws_eqPacketS.enc (laws_eqPacketS.S s.1 s.2.1))
theorem laws_eqPacketS_l4.w (x4_0 : List Pkt) (x4_1 : List Pkt) (x4_2 : Bool) (x4_3 : Int) : evBody (env [laws_eqPacket.c]) [] (bodyAt Try.f102 0) laws_eqPacketS_l4.d (x4_0, (x4_1, (x4_2, (x4_3, ())))) = (And (Imp ((decide (x4_3 < (x4_0.length : Int))) = true) (And ((0 : Int) ≤ x4_3 ∧ x4_3 < (x4_0.length : Int)) (And ((0 : Int) ≤ x4_3 ∧ x4_3 < (x4_1.length : Int)) (And (Imp ((!(laws_eqPacket.S (x4_0.getD (x4_3).toNat zPkt) (x4_1.getD (x4_3).toNat zPkt))) = true) (laws_eqPacketS_l4.o x4_0 x4_1 x4_2 x4_3 (laws_eqPacketS_l4.R x4_0 x4_1 x4_2 x4_3) = (.ret, [.c (.arr false (.pkts x4_0)), .c (.arr false (.pkts x4_1)), .c (.bool false), .c (.int x4_3)], []))) (Imp ((!(laws_eqPacket.S (x4_0.getD (x4_3).toNat zPkt) (x4_1.getD (x4_3).toNat zPkt))) = false) (And (laws_eqPacketS_l4.P x4_0 x4_1 x4_2 (wrap (x4_3 + 1))) (And (laws_eqPacketS_l4.M x4_0 x4_1 x4_2 (wrap (x4_3 + 1)) < laws_eqPacketS_l4.M x4_0 x4_1 x4_2 x4_3) (laws_eqPacketS_l4.o x4_0 x4_1 x4_2 (wrap (x4_3 + 1)) (laws_eqPacketS_l4.R x4_0 x4_1 x4_2 (wrap (x4_3 + 1))) = laws_eqPacketS_l4.o x4_0 x4_1 x4_2 x4_3 (laws_eqPacketS_l4.R x4_0 x4_1 x4_2 x4_3))))))))) (Imp ((decide (x4_3 < (x4_0.length : Int))) = false) (laws_eqPacketS_l4.o x4_0 x4_1 x4_2 x4_3 (laws_eqPacketS_l4.R x4_0 x4_1 x4_2 x4_3) = (.exit 0, [.c (.arr false (.pkts x4_0)), .c (.arr false (.pkts x4_1)), .c (.bool x4_2), .c (.int x4_3)], [])))) := by kernel_rfl
theorem laws_eqPacketS_l4.v (x4_0 : List Pkt) (x4_1 : List Pkt) (x4_2 : Bool) (x4_3 : Int) (hp : laws_eqPacketS_l4.P x4_0 x4_1 x4_2 x4_3) : And (Imp ((decide (x4_3 < (x4_0.length : Int))) = true) (And ((0 : Int) ≤ x4_3 ∧ x4_3 < (x4_0.length : Int)) (And ((0 : Int) ≤ x4_3 ∧ x4_3 < (x4_1.length : Int)) (And (Imp ((!(laws_eqPacket.S (x4_0.getD (x4_3).toNat zPkt) (x4_1.getD (x4_3).toNat zPkt))) = true) (laws_eqPacketS_l4.o x4_0 x4_1 x4_2 x4_3 (laws_eqPacketS_l4.R x4_0 x4_1 x4_2 x4_3) = (.ret, [.c (.arr false (.pkts x4_0)), .c (.arr false (.pkts x4_1)), .c (.bool false), .c (.int x4_3)], []))) (Imp ((!(laws_eqPacket.S (x4_0.getD (x4_3).toNat zPkt) (x4_1.getD (x4_3).toNat zPkt))) = false) (And (laws_eqPacketS_l4.P x4_0 x4_1 x4_2 (wrap (x4_3 + 1))) (And (laws_eqPacketS_l4.M x4_0 x4_1 x4_2 (wrap (x4_3 + 1)) < laws_eqPacketS_l4.M x4_0 x4_1 x4_2 x4_3) (laws_eqPacketS_l4.o x4_0 x4_1 x4_2 (wrap (x4_3 + 1)) (laws_eqPacketS_l4.R x4_0 x4_1 x4_2 (wrap (x4_3 + 1))) = laws_eqPacketS_l4.o x4_0 x4_1 x4_2 x4_3 (laws_eqPacketS_l4.R x4_0 x4_1 x4_2 x4_3))))))))) (Imp ((decide (x4_3 < (x4_0.length : Int))) = false) (laws_eqPacketS_l4.o x4_0 x4_1 x4_2 x4_3 (laws_eqPacketS_l4.R x4_0 x4_1 x4_2 x4_3) = (.exit 0, [.c (.arr false (.pkts x4_0)), .c (.arr false (.pkts x4_1)), .c (.bool x4_2), .c (.int x4_3)], []))) := by
  simp only [laws_eqPacketS_l4.P] at hp
  obtain ⟨p0, p1, p2⟩ := hp
  refine ⟨fun h1 => ?_, fun h1 => ?_⟩
  · refine ⟨by first | assumption | omega | grind [wrap_id], ?_⟩
    refine ⟨by first | assumption | omega | grind [wrap_id], ?_⟩
    refine ⟨fun h2 => ?_, fun h2 => ?_⟩
    · have e : laws_eqPacketS_l4.R x4_0 x4_1 x4_2 x4_3 = (0, (false, (x4_3, ()))) := by simp only [laws_eqPacketS_l4.R, laws_eqPacketS_l4.S, h1, h2, cond_true, cond_false]
      rw [e]
      rfl
    · have hμ : laws_eqPacketS_l4.M x4_0 x4_1 x4_2 x4_3 = laws_eqPacketS_l4.M x4_0 x4_1 x4_2 (wrap (x4_3 + 1)) + 1 := by simp only [laws_eqPacketS_l4.M]; first | omega | grind [wrap_id]
      refine ⟨by simp only [laws_eqPacketS_l4.P]; refine ⟨(by first | assumption | omega | grind [wrap_id]), (by first | assumption | omega | grind [wrap_id]), (by first | assumption | omega | grind [wrap_id])⟩, by omega, ?_⟩
      have e : laws_eqPacketS_l4.R x4_0 x4_1 x4_2 x4_3 = laws_eqPacketS_l4.R x4_0 x4_1 x4_2 (wrap (x4_3 + 1)) := by
        have e1 : laws_eqPacketS_l4.R x4_0 x4_1 x4_2 x4_3 = laws_eqPacketS_l4.S (laws_eqPacketS_l4.M x4_0 x4_1 x4_2 x4_3) x4_0 x4_1 x4_2 (wrap (x4_3 + 1)) := by simp only [laws_eqPacketS_l4.R, laws_eqPacketS_l4.S, h1, h2, cond_true, cond_false]
        rw [e1, hμ]
        rfl
      rw [e]
      rfl
  · have e : laws_eqPacketS_l4.R x4_0 x4_1 x4_2 x4_3 = (1, (false, (x4_3, ()))) := by simp only [laws_eqPacketS_l4.R, laws_eqPacketS_l4.S, h1, cond_true, cond_false]
    rw [e]
    rfl
theorem laws_eqPacketS_l4.g (hG : ∀ c ∈ [laws_eqPacket.c], Good Try.prog c) : LGood Try.prog Try.f102.ntmps laws_eqPacketS_l4.d.ctr (bodyAt Try.f102 0) := by
  refine lgood (LL := []) hG (by kernel_rfl) (by rw [show loopsOf (bodyAt Try.f102 0) = [] from by kernel_rfl]; exact noL rfl) fun s hp => ?_
  refine Eq.mpr (laws_eqPacketS_l4.w s.1 s.2.1 s.2.2.1 s.2.2.2.1) ?_
  replace hp : laws_eqPacketS_l4.P s.1 s.2.1 s.2.2.1 s.2.2.2.1 := hp
  exact laws_eqPacketS_l4.v _ _ _ _ hp
def laws_eqPacketS_l4.E (x4_0 : List Pkt) (x4_1 : List Pkt) (x4_2 : Bool) (k : Nat) (a : Unit) : Option (Nat × Bool × Int × Unit) := bif !(laws_eqPacket.S (x4_0.getD k zPkt) (x4_1.getD k zPkt)) then some (0, (false, ((k : Int), ()))) else none
def laws_eqPacketS_l4.A (x4_0 : List Pkt) (x4_1 : List Pkt) (x4_2 : Bool) (k : Nat) (a : Unit) : Unit := bif !(laws_eqPacket.S (x4_0.getD k zPkt) (x4_1.getD k zPkt)) then a else ()
def laws_eqPacketS_l4.fin (x4_0 : List Pkt) (x4_1 : List Pkt) (x4_2 : Bool) (k : Nat) (a : Unit) : Nat × Bool × Int × Unit := (1, (false, ((k : Int), ())))
def laws_eqPacketS_l4.acc (x4_0 : List Pkt) (x4_1 : List Pkt) (x4_2 : Bool) (a : Unit) : Nat → Unit
  | 0 => a
  | k + 1 => laws_eqPacketS_l4.A x4_0 x4_1 x4_2 k (laws_eqPacketS_l4.acc x4_0 x4_1 x4_2 a k)
theorem laws_eqPacketS_l4.law (x4_0 : List Pkt) (x4_1 : List Pkt) (x4_2 : Bool) (a : Unit) (n : Nat) (hT : (x4_0.length : Int) = (n : Int)) (hn : (n : Int) ≤ 9223372036854775807) :
    ((∀ k, k < n → laws_eqPacketS_l4.E x4_0 x4_1 x4_2 k (laws_eqPacketS_l4.acc x4_0 x4_1 x4_2 a k) = none) ∧ laws_eqPacketS_l4.R x4_0 x4_1 x4_2 0 = laws_eqPacketS_l4.fin x4_0 x4_1 x4_2 n (laws_eqPacketS_l4.acc x4_0 x4_1 x4_2 a n)) ∨ (∃ k r, k < n ∧ laws_eqPacketS_l4.E x4_0 x4_1 x4_2 k (laws_eqPacketS_l4.acc x4_0 x4_1 x4_2 a k) = some r ∧ (∀ j, j < k → laws_eqPacketS_l4.E x4_0 x4_1 x4_2 j (laws_eqPacketS_l4.acc x4_0 x4_1 x4_2 a j) = none) ∧ laws_eqPacketS_l4.R x4_0 x4_1 x4_2 0 = r) := by
  have hM : laws_eqPacketS_l4.M x4_0 x4_1 x4_2 0 + 1 = n + 1 := by simp only [laws_eqPacketS_l4.M]; omega
  unfold laws_eqPacketS_l4.R
  rw [hM]
  refine loopE (fun m i b => laws_eqPacketS_l4.S m x4_0 x4_1 x4_2 i) n hn (laws_eqPacketS_l4.acc x4_0 x4_1 x4_2 a) (laws_eqPacketS_l4.E x4_0 x4_1 x4_2 ) (laws_eqPacketS_l4.fin x4_0 x4_1 x4_2 ) fun m k hk => ?_
  have ha : laws_eqPacketS_l4.acc x4_0 x4_1 x4_2 a (k + 1) = laws_eqPacketS_l4.A x4_0 x4_1 x4_2 k (laws_eqPacketS_l4.acc x4_0 x4_1 x4_2 a k) := rfl
  rw [ha]
  generalize laws_eqPacketS_l4.acc x4_0 x4_1 x4_2 a k = b
  simp only [laws_eqPacketS_l4.S, laws_eqPacketS_l4.E, laws_eqPacketS_l4.A, laws_eqPacketS_l4.fin, hT, Int.toNat_natCast]
  all_goals grind
theorem laws_eqPacketS.w (a0 : List Pkt) (a1 : List Pkt) (K : AV → List Blk → Prop) : evFn (env [laws_eqPacket.c]) [laws_eqPacketS_l4.d.ctr] [] Try.f102 [] (laws_eqPacketS.L.enc (a0, (a1, ()))) K = (And (Imp (((a0.length : Int) != (a1.length : Int)) = true) (K (.v (.c (.bool false))) ([]))) (Imp (((a0.length : Int) != (a1.length : Int)) = false) (And (laws_eqPacketS_l4.P a0 a1 false 0) (And (Imp (Nat.beq (laws_eqPacketS_l4.R a0 a1 false 0).1 0 = true) (K (.v (.c (.bool (laws_eqPacketS_l4.R a0 a1 false 0).2.1))) ([]))) (Imp (Nat.beq (laws_eqPacketS_l4.R a0 a1 false 0).1 0 = false) (K (.v (.c (.bool true))) ([]))))))) := by kernel_rfl
theorem laws_eqPacketS.v (a0 : List Pkt) (a1 : List Pkt) (hf : (a0.length : Int) ≤ 9223372036854775807 ∧ (a1.length : Int) ≤ 9223372036854775807 ∧ True) (K : AV → List Blk → Prop) (hK : K (laws_eqPacketS.enc (laws_eqPacketS.S a0 a1)).1 (laws_eqPacketS.enc (laws_eqPacketS.S a0 a1)).2) : And (Imp (((a0.length : Int) != (a1.length : Int)) = true) (K (.v (.c (.bool false))) ([]))) (Imp (((a0.length : Int) != (a1.length : Int)) = false) (And (laws_eqPacketS_l4.P a0 a1 false 0) (And (Imp (Nat.beq (laws_eqPacketS_l4.R a0 a1 false 0).1 0 = true) (K (.v (.c (.bool (laws_eqPacketS_l4.R a0 a1 false 0).2.1))) ([]))) (Imp (Nat.beq (laws_eqPacketS_l4.R a0 a1 false 0).1 0 = false) (K (.v (.c (.bool true))) ([])))))) := by
  obtain ⟨f0, f1, -⟩ := hf
  try simp only [big] at *
  refine ⟨fun h1 => ?_, fun h1 => ?_⟩
  · have e : laws_eqPacketS.S a0 a1 = (false) := by simp only [laws_eqPacketS.S, h1, cond_true, cond_false]
    rw [e] at hK
    exact hK
  · refine ⟨by simp only [laws_eqPacketS_l4.P]; refine ⟨(by first | assumption | omega | grind [wrap_id]), (by first | assumption | omega | grind [wrap_id]), (by first | assumption | omega | grind [wrap_id])⟩, ?_⟩
    refine ⟨fun h2 => ?_, fun h2 => ?_⟩
    · have e : laws_eqPacketS.S a0 a1 = ((laws_eqPacketS_l4.R a0 a1 false 0).2.1) := by simp only [laws_eqPacketS.S, h1, h2, cond_true, cond_false]
      rw [e] at hK
      exact hK
    · have e : laws_eqPacketS.S a0 a1 = (true) := by simp only [laws_eqPacketS.S, h1, h2, cond_true, cond_false]
      rw [e] at hK
      exact hK
theorem laws_eqPacketS.good : Good Try.prog laws_eqPacketS.c :=
  vgood (sh := []) (LL := [laws_eqPacketS_l4.d.ctr]) (consG laws_eqPacket.good noG) (fn := Try.f102) (by kernel_rfl) (by kernel_rfl) (by rw [show loopsOf (bodyOf Try.f102) = [(bodyAt Try.f102 0)] from by kernel_rfl]; exact consL (l := laws_eqPacketS_l4.d.ctr) (by kernel_rfl) (laws_eqPacketS_l4.g (consG laws_eqPacket.good noG)) (noL rfl)) fun s hp hf => by
    refine Eq.mpr (laws_eqPacketS.w (s.1) (s.2.1) _) ?_
    exact laws_eqPacketS.v _ _ hf (fun r bs' => And (r = (laws_eqPacketS.c.out s).1) (bs' = (laws_eqPacketS.c.out s).2)) ⟨rfl, rfl⟩
/-! ### laws.eqBoolS -/
def laws_eqBoolS_l4.S : Nat → (List Bool) → (List Bool) → Bool → Int → Nat × Bool × Int × Unit
  | 0, _, _, _, _ => (0, (false, (0, ())))
  | n + 1, x4_0, x4_1, x4_2, x4_3 => bif decide (x4_3 < (x4_0.length : Int)) then bif !((x4_0.getD (x4_3).toNat false) == (x4_1.getD (x4_3).toNat false)) then (0, (false, (x4_3, ()))) else laws_eqBoolS_l4.S n x4_0 x4_1 x4_2 (wrap (x4_3 + 1)) else (1, (false, (x4_3, ())))
def laws_eqBoolS_l4.M (x4_0 : List Bool) (x4_1 : List Bool) (x4_2 : Bool) (x4_3 : Int) : Nat := ((x4_0.length : Int) - x4_3).toNat
def laws_eqBoolS_l4.R (x4_0 : List Bool) (x4_1 : List Bool) (x4_2 : Bool) (x4_3 : Int) : Nat × Bool × Int × Unit := laws_eqBoolS_l4.S (laws_eqBoolS_l4.M x4_0 x4_1 x4_2 x4_3 + 1) x4_0 x4_1 x4_2 x4_3
def laws_eqBoolS_l4.P (x4_0 : List Bool) (x4_1 : List Bool) (x4_2 : Bool) (x4_3 : Int) : Prop := (0 ≤ x4_3) ∧ ((x4_0.length : Int) ≤ 9223372036854775807) ∧ (((x4_0.length : Int) != (x4_1.length : Int)) = false)
def laws_eqBoolS_l4.L : FL := fCons (fC (cArr false kBools)) (fCons (fC (cArr false kBools)) (fCons (fC cBool) (fCons (fC cInt) (fNil))))
def laws_eqBoolS_l4.o0 (x4_0 : List Bool) (x4_1 : List Bool) (x4_2 : Bool) (x4_3 : Int) (r : Nat × Bool × Int × Unit) : Ex × List FV × List Blk := (.ret, [.c (.arr false (.bools x4_0)), .c (.arr false (.bools x4_1)), .c (.bool r.2.1), .c (.int r.2.2.1)], [])
def laws_eqBoolS_l4.o1 (x4_0 : List Bool) (x4_1 : List Bool) (x4_2 : Bool) (x4_3 : Int) (r : Nat × Bool × Int × Unit) : Ex × List FV × List Blk := (.exit 0, [.c (.arr false (.bools x4_0)), .c (.arr false (.bools x4_1)), .c (.bool x4_2), .c (.int r.2.2.1)], [])
def laws_eqBoolS_l4.o (x4_0 : List Bool) (x4_1 : List Bool) (x4_2 : Bool) (x4_3 : Int) (r : Nat × Bool × Int × Unit) : Ex × List FV × List Blk := pickAlt [(Nat.beq r.1 0, laws_eqBoolS_l4.o0 x4_0 x4_1 x4_2 x4_3 r)] (laws_eqBoolS_l4.o1 x4_0 x4_1 x4_2 x4_3 r)
def laws_eqBoolS_l4.d : LDat := ldat 4 [0, 1, 4, 5] [] laws_eqBoolS_l4.L (fun s => laws_eqBoolS_l4.P s.1 s.2.1 s.2.2.1 s.2.2.2.1) (fun s => [(Nat.beq (laws_eqBoolS_l4.R s.1 s.2.1 s.2.2.1 s.2.2.2.1).1 0, laws_eqBoolS_l4.o0 s.1 s.2.1 s.2.2.1 s.2.2.2.1 (laws_eqBoolS_l4.R s.1 s.2.1 s.2.2.1 s.2.2.2.1))]) (fun s => laws_eqBoolS_l4.o1 s.1 s.2.1 s.2.2.1 s.2.2.2.1 (laws_eqBoolS_l4.R s.1 s.2.1 s.2.2.1 s.2.2.2.1)) (fun s => laws_eqBoolS_l4.M s.1 s.2.1 s.2.2.1 s.2.2.2.1)
def laws_eqBoolS.S (a0 : List Bool) (a1 : List Bool) : Bool := bif (a0.length : Int) != (a1.length : Int) then (false) else bif Nat.beq (laws_eqBoolS_l4.R a0 a1 false 0).1 0 then ((laws_eqBoolS_l4.R a0 a1 false 0).2.1) else (true)
def laws_eqBoolS.enc (r : Bool) : AV × List Blk := (.v (.c (.bool r)), [])
def laws_eqBoolS.L : ShL := sCons sBools (sCons sBools (sNil))
def laws_eqBoolS.c : Ctr := vctr 103 laws_eqBoolS.L none (fun s => laws_eqBoolS.enc (laws_eqBoolS.S s.1 s.2.1))
theorem laws_eqBoolS_l4.w (x4_0 : List Bool) (x4_1 : List Bool) (x4_2 : Bool) (x4_3 : Int) : evBody (env []) [] (bodyAt Try.f103 0) laws_eqBoolS_l4.d (x4_0, (x4_1, (x4_2, (x4_3, ())))) = (And (Imp ((decide (x4_3 < (x4_0.length : Int))) = true) (And ((0 : Int) ≤ x4_3 ∧ x4_3 < (x4_0.length : Int)) (And ((0 : Int) ≤ x4_3 ∧ x4_3 < (x4_1.length : Int)) (And (Imp ((!((x4_0.getD (x4_3).toNat false) == (x4_1.getD (x4_3).toNat false))) = true) (laws_eqBoolS_l4.o x4_0 x4_1 x4_2 x4_3 (laws_eqBoolS_l4.R x4_0 x4_1 x4_2 x4_3) = (.ret, [.c (.arr false (.bools x4_0)), .c (.arr false (.bools x4_1)), .c (.bool false), .c (.int x4_3)], []))) (Imp ((!((x4_0.getD (x4_3).toNat false) == (x4_1.getD (x4_3).toNat false))) = false) (And (laws_eqBoolS_l4.P x4_0 x4_1 x4_2 (wrap (x4_3 + 1))) (And (laws_eqBoolS_l4.M x4_0 x4_1 x4_2 (wrap (x4_3 + 1)) < laws_eqBoolS_l4.M x4_0 x4_1 x4_2 x4_3) (laws_eqBoolS_l4.o x4_0 x4_1 x4_2 (wrap (x4_3 + 1)) (laws_eqBoolS_l4.R x4_0 x4_1 x4_2 (wrap (x4_3 + 1))) = laws_eqBoolS_l4.o x4_0 x4_1 x4_2 x4_3 (laws_eqBoolS_l4.R x4_0 x4_1 x4_2 x4_3))))))))) (Imp ((decide (x4_3 < (x4_0.length : Int))) = false) (laws_eqBoolS_l4.o x4_0 x4_1 x4_2 x4_3 (laws_eqBoolS_l4.R x4_0 x4_1 x4_2 x4_3) = (.exit 0, [.c (.arr false (.bools x4_0)), .c (.arr false (.bools x4_1)), .c (.bool x4_2), .c (.int x4_3)], [])))) := by kernel_rfl
theorem laws_eqBoolS_l4.v (x4_0 : List Bool) (x4_1 : List Bool) (x4_2 : Bool) (x4_3 : Int) (hp : laws_eqBoolS_l4.P x4_0 x4_1 x4_2 x4_3) : And (Imp ((decide (x4_3 < (x4_0.length : Int))) = true) (And ((0 : Int) ≤ x4_3 ∧ x4_3 < (x4_0.length : Int)) (And ((0 : Int) ≤ x4_3 ∧ x4_3 < (x4_1.length : Int)) (And (Imp ((!((x4_0.getD (x4_3).toNat false) == (x4_1.getD (x4_3).toNat false))) = true) (laws_eqBoolS_l4.o x4_0 x4_1 x4_2 x4_3 (laws_eqBoolS_l4.R x4_0 x4_1 x4_2 x4_3) = (.ret, [.c (.arr false (.bools x4_0)), .c (.arr false (.bools x4_1)), .c (.bool false), .c (.int x4_3)], []))) (Imp ((!((x4_0.getD (x4_3).toNat false) == (x4_1.getD (x4_3).toNat false))) = false) (And (laws_eqBoolS_l4.P x4_0 x4_1 x4_2 (wrap (x4_3 + 1))) (And (laws_eqBoolS_l4.M x4_0 x4_1 x4_2 (wrap (x4_3 + 1)) < laws_eqBoolS_l4.M x4_0 x4_1 x4_2 x4_3) (laws_eqBoolS_l4.o x4_0 x4_1 x4_2 (wrap (x4_3 + 1)) (laws_eqBoolS_l4.R x4_0 x4_1 x4_2 (wrap (x4_3 + 1))) = laws_eqBoolS_l4.o x4_0 x4_1 x4_2 x4_3 (laws_eqBoolS_l4.R x4_0 x4_1 x4_2 x4_3))))))))) (Imp ((decide (x4_3 < (x4_0.length : Int))) = false) (laws_eqBoolS_l4.o x4_0 x4_1 x4_2 x4_3 (laws_eqBoolS_l4.R x4_0 x4_1 x4_2 x4_3) = (.exit 0, [.c (.arr false (.bools x4_0)), .c (.arr false (.bools x4_1)), .c (.bool x4_2), .c (.int x4_3)], []))) := by
  simp only [laws_eqBoolS_l4.P] at hp
  obtain ⟨p0, p1, p2⟩ := hp
  refine ⟨fun h1 => ?_, fun h1 => ?_⟩
  · refine ⟨by first | assumption | omega | grind [wrap_id], ?_⟩
    refine ⟨by first | assumption | omega | grind [wrap_id], ?_⟩
    refine ⟨fun h2 => ?_, fun h2 => ?_⟩
    · have e : laws_eqBoolS_l4.R x4_0 x4_1 x4_2 x4_3 = (0, (false, (x4_3, ()))) := by simp only [laws_eqBoolS_l4.R, laws_eqBoolS_l4.S, h1, h2, cond_true, cond_false]
      rw [e]
      rfl
    · have hμ : laws_eqBoolS_l4.M x4_0 x4_1 x4_2 x4_3 = laws_eqBoolS_l4.M x4_0 x4_1 x4_2 (wrap (x4_3 + 1)) + 1 := by simp only [laws_eqBoolS_l4.M]; first | omega | grind [wrap_id]
      refine ⟨by simp only [laws_eqBoolS_l4.P]; refine ⟨(by first | assumption | omega | grind [wrap_id]), (by first | assumption | omega | grind [wrap_id]), (by first | assumption | omega | grind [wrap_id])⟩, by omega, ?_⟩
      have e : laws_eqBoolS_l4.R x4_0 x4_1 x4_2 x4_3 = laws_eqBoolS_l4.R x4_0 x4_1 x4_2 (wrap (x4_3 + 1)) := by
        have e1 : laws_eqBoolS_l4.R x4_0 x4_1 x4_2 x4_3 = laws_eqBoolS_l4.S (laws_eqBoolS_l4.M x4_0 x4_1 x4_2 x4_3) x4_0 x4_1 x4_2 (wrap (x4_3 + 1)) := by simp only [laws_eqBoolS_l4.R, laws_eqBoolS_l4.S, h1, h2, cond_true, cond_false]
        rw [e1, hμ]
        rfl
      rw [e]
      rfl
  · have e : laws_eqBoolS_l4.R x4_0 x4_1 x4_2 x4_3 = (1, (false, (x4_3, ()))) := by simp only [laws_eqBoolS_l4.R, laws_eqBoolS_l4.S, h1, cond_true, cond_false]
    rw [e]
    rfl
theorem laws_eqBoolS_l4.g (hG : ∀ c ∈ [], Good Try.prog c) : LGood Try.prog Try.f103.ntmps laws_eqBoolS_l4.d.ctr (bodyAt Try.f103 0) := by
  refine lgood (LL := []) hG (by kernel_rfl) (by rw [show loopsOf (bodyAt Try.f103 0) = [] from by kernel_rfl]; exact noL rfl) fun s hp => ?_
  refine Eq.mpr (laws_eqBoolS_l4.w s.1 s.2.1 s.2.2.1 s.2.2.2.1) ?_
  replace hp : laws_eqBoolS_l4.P s.1 s.2.1 s.2.2.1 s.2.2.2.1 := hp
  exact laws_eqBoolS_l4.v _ _ _ _ hp
def laws_eqBoolS_l4.E (x4_0 : List Bool) (x4_1 : List Bool) (x4_2 : Bool) (k : Nat) (a : Unit) : Option (Nat × Bool × Int × Unit) := bif !((x4_0.getD k false) == (x4_1.getD k false)) then some (0, (false, ((k : Int), ()))) else none
def laws_eqBoolS_l4.A (x4_0 : List Bool) (x4_1 : List Bool) (x4_2 : Bool) (k : Nat) (a : Unit) : Unit := bif !((x4_0.getD k false) == (x4_1.getD k false)) then a else ()
def laws_eqBoolS_l4.fin (x4_0 : List Bool) (x4_1 : List Bool) (x4_2 : Bool) (k : Nat) (a : Unit) : Nat × Bool × Int × Unit := (1, (false, ((k : Int), ())))
def laws_eqBoolS_l4.acc (x4_0 : List Bool) (x4_1 : List Bool) (x4_2 : Bool) (a : Unit) : Nat → Unit
  | 0 => a
  | k + 1 => laws_eqBoolS_l4.A x4_0 x4_1 x4_2 k (laws_eqBoolS_l4.acc x4_0 x4_1 x4_2 a k)
theorem laws_eqBoolS_l4.law (x4_0 : List Bool) (x4_1 : List Bool) (x4_2 : Bool) (a : Unit) (n : Nat) (hT : (x4_0.length : Int) = (n : Int)) (hn : (n : Int) ≤ 9223372036854775807) :
    ((∀ k, k < n → laws_eqBoolS_l4.E x4_0 x4_1 x4_2 k (laws_eqBoolS_l4.acc x4_0 x4_1 x4_2 a k) = none) ∧ laws_eqBoolS_l4.R x4_0 x4_1 x4_2 0 = laws_eqBoolS_l4.fin x4_0 x4_1 x4_2 n (laws_eqBoolS_l4.acc x4_0 x4_1 x4_2 a n)) ∨ (∃ k r, k < n ∧ laws_eqBoolS_l4.E x4_0 x4_1 x4_2 k (laws_eqBoolS_l4.acc x4_0 x4_1 x4_2 a k) = some r ∧ (∀ j, j < k → laws_eqBoolS_l4.E x4_0 x4_1 x4_2 j (laws_eqBoolS_l4.acc x4_0 x4_1 x4_2 a j) = none) ∧ laws_eqBoolS_l4.R x4_0 x4_1 x4_2 0 = r) := by
  have hM : laws_eqBoolS_l4.M x4_0 x4_1 x4_2 0 + 1 = n + 1 := by simp only [laws_eqBoolS_l4.M]; omega
  unfold laws_eqBoolS_l4.R
  rw [hM]
  refine loopE (fun m i b => laws_eqBoolS_l4.S m x4_0 x4_1 x4_2 i) n hn (laws_eqBoolS_l4.acc x4_0 x4_1 x4_2 a) (laws_eqBoolS_l4.E x4_0 x4_1 x4_2 ) (laws_eqBoolS_l4.fin x4_0 x4_1 x4_2 ) fun m k hk => ?_
  have ha : laws_eqBoolS_l4.acc x4_0 x4_1 x4_2 a (k + 1) = laws_eqBoolS_l4.A x4_0 x4_1 x4_2 k (laws_eqBoolS_l4.acc x4_0 x4_1 x4_2 a k) := rfl
  rw [ha]
  generalize laws_eqBoolS_l4.acc x4_0 x4_1 x4_2 a k = b
  simp only [laws_eqBoolS_l4.S, laws_eqBoolS_l4.E, laws_eqBoolS_l4.A, laws_eqBoolS_l4.fin, hT, Int.toNat_natCast]
  all_goals grind
theorem laws_eqBoolS.w (a0 : List Bool) (a1 : List Bool) (K : AV → List Blk → Prop) : evFn (env []) [laws_eqBoolS_l4.d.ctr] [] Try.f103 [] (laws_eqBoolS.L.enc (a0, (a1, ()))) K = (And (Imp (((a0.length : Int) != (a1.length : Int)) = true) (K (.v (.c (.bool false))) ([]))) (Imp (((a0.length : Int) != (a1.length : Int)) = false) (And (laws_eqBoolS_l4.P a0 a1 false 0) (And (Imp (Nat.beq (laws_eqBoolS_l4.R a0 a1 false 0).1 0 = true) (K (.v (.c (.bool (laws_eqBoolS_l4.R a0 a1 false 0).2.1))) ([]))) (Imp (Nat.beq (laws_eqBoolS_l4.R a0 a1 false 0).1 0 = false) (K (.v (.c (.bool true))) ([]))))))) := by kernel_rfl
theorem laws_eqBoolS.v (a0 : List Bool) (a1 : List Bool) (hf : (a0.length : Int) ≤ 9223372036854775807 ∧ (a1.length : Int) ≤ 9223372036854775807 ∧ True) (K : AV → List Blk → Prop) (hK : K (laws_eqBoolS.enc (laws_eqBoolS.S a0 a1)).1 (laws_eqBoolS.enc (laws_eqBoolS.S a0 a1)).2) : And (Imp (((a0.length : Int) != (a1.length : Int)) = true) (K (.v (.c (.bool false))) ([]))) (Imp (((a0.length : Int) != (a1.length : Int)) = false) (And (laws_eqBoolS_l4.P a0 a1 false 0) (And (Imp (Nat.beq (laws_eqBoolS_l4.R a0 a1 false 0).1 0 = true) (K (.v (.c (.bool (laws_eqBoolS_l4.R a0 a1 false 0).2.1))) ([]))) (Imp (Nat.beq (laws_eqBoolS_l4.R a0 a1 false 0).1 0 = false) (K (.v (.c (.bool true))) ([])))))) := by
  obtain ⟨f0, f1, -⟩ := hf
  try simp only [big] at *
  refine ⟨fun h1 => ?_, fun h1 => ?_⟩
  · have e : laws_eqBoolS.S a0 a1 = (false) := by simp only [laws_eqBoolS.S, h1, cond_true, cond_false]
    rw [e] at hK
    exact hK
  · refine ⟨by simp only [laws_eqBoolS_l4.P]; refine ⟨(by first | assumption | omega | grind [wrap_id]), (by first | assumption | omega | grind [wrap_id]), (by first | assumption | omega | grind [wrap_id])⟩, ?_⟩
    refine ⟨fun h2 => ?_, fun h2 => ?_⟩
    · have e : laws_eqBoolS.S a0 a1 = ((laws_eqBoolS_l4.R a0 a1 false 0).2.1) := by simp only [laws_eqBoolS.S, h1, h2, cond_true, cond_false]
      rw [e] at hK
      exact hK
    · have e : laws_eqBoolS.S a0 a1 = (true) := by simp only [laws_eqBoolS.S, h1, h2, cond_true, cond_false]
      rw [e] at hK
      exact hK
theorem laws_eqBoolS.good : Good Try.prog laws_eqBoolS.c :=
  vgood (sh := []) (LL := [laws_eqBoolS_l4.d.ctr]) noG (fn := Try.f103) (by kernel_rfl) (by kernel_rfl) (by rw [show loopsOf (bodyOf Try.f103) = [(bodyAt Try.f103 0)] from by kernel_rfl]; exact consL (l := laws_eqBoolS_l4.d.ctr) (by kernel_rfl) (laws_eqBoolS_l4.g noG) (noL rfl)) fun s hp hf => by
    refine Eq.mpr (laws_eqBoolS.w (s.1) (s.2.1) _) ?_
    exact laws_eqBoolS.v _ _ hf (fun r bs' => And (r = (laws_eqBoolS.c.out s).1) (bs' = (laws_eqBoolS.c.out s).2)) ⟨rfl, rfl⟩
/-! ### laws.eqState -/
def laws_eqState.S (a0 : St) (a1 : St) : Bool := bif a0.way != a1.way then (false) else bif a0.ver != a1.ver then (false) else bif a0.want != a1.want then (false) else bif !(laws_eqPacketS.S a0.sent a1.sent) then (false) else bif !(laws_eqBoolS.S a0.live a1.live) then (false) else bif !(laws_eqBoolS.S a0.back a1.back) then (false) else bif !(laws_eqIntS.S a0.got a1.got) then (false) else (true)
def laws_eqState.enc (r : Bool) : AV × List Blk := (.v (.c (.bool r)), [])
def laws_eqState.L : ShL := sCons sSt (sCons sSt (sNil))
def laws_eqState.c : Ctr := vctr 89 laws_eqState.L none (fun s => laws_eqState.enc (laws_eqState.S s.1 s.2.1))
theorem laws_eqState.w (a0 : St) (a1 : St) (K : AV → List Blk → Prop) : evFn (env [laws_eqPacketS.c, laws_eqBoolS.c, laws_eqIntS.c]) [] [] Try.f89 [] (laws_eqState.L.enc (a0, (a1, ()))) K = (And (Imp ((a0.way != a1.way) = true) (K (.v (.c (.bool false))) ([]))) (Imp ((a0.way != a1.way) = false) (And (Imp ((a0.ver != a1.ver) = true) (K (.v (.c (.bool false))) ([]))) (Imp ((a0.ver != a1.ver) = false) (And (Imp ((a0.want != a1.want) = true) (K (.v (.c (.bool false))) ([]))) (Imp ((a0.want != a1.want) = false) (And (Imp ((!(laws_eqPacketS.S a0.sent a1.sent)) = true) (K (.v (.c (.bool false))) ([]))) (Imp ((!(laws_eqPacketS.S a0.sent a1.sent)) = false) (And (Imp ((!(laws_eqBoolS.S a0.live a1.live)) = true) (K (.v (.c (.bool false))) ([]))) (Imp ((!(laws_eqBoolS.S a0.live a1.live)) = false) (And (Imp ((!(laws_eqBoolS.S a0.back a1.back)) = true) (K (.v (.c (.bool false))) ([]))) (Imp ((!(laws_eqBoolS.S a0.back a1.back)) = false) (And (Imp ((!(laws_eqIntS.S a0.got a1.got)) = true) (K (.v (.c (.bool false))) ([]))) (Imp ((!(laws_eqIntS.S a0.got a1.got)) = false) (K (.v (.c (.bool true))) ([])))))))))))))))) := by kernel_rfl
theorem laws_eqState.v (a0 : St) (a1 : St) (hf : St.fact a0 ∧ St.fact a1 ∧ True) (K : AV → List Blk → Prop) (hK : K (laws_eqState.enc (laws_eqState.S a0 a1)).1 (laws_eqState.enc (laws_eqState.S a0 a1)).2) : And (Imp ((a0.way != a1.way) = true) (K (.v (.c (.bool false))) ([]))) (Imp ((a0.way != a1.way) = false) (And (Imp ((a0.ver != a1.ver) = true) (K (.v (.c (.bool false))) ([]))) (Imp ((a0.ver != a1.ver) = false) (And (Imp ((a0.want != a1.want) = true) (K (.v (.c (.bool false))) ([]))) (Imp ((a0.want != a1.want) = false) (And (Imp ((!(laws_eqPacketS.S a0.sent a1.sent)) = true) (K (.v (.c (.bool false))) ([]))) (Imp ((!(laws_eqPacketS.S a0.sent a1.sent)) = false) (And (Imp ((!(laws_eqBoolS.S a0.live a1.live)) = true) (K (.v (.c (.bool false))) ([]))) (Imp ((!(laws_eqBoolS.S a0.live a1.live)) = false) (And (Imp ((!(laws_eqBoolS.S a0.back a1.back)) = true) (K (.v (.c (.bool false))) ([]))) (Imp ((!(laws_eqBoolS.S a0.back a1.back)) = false) (And (Imp ((!(laws_eqIntS.S a0.got a1.got)) = true) (K (.v (.c (.bool false))) ([]))) (Imp ((!(laws_eqIntS.S a0.got a1.got)) = false) (K (.v (.c (.bool true))) ([]))))))))))))))) := by
  obtain ⟨f0, f1, -⟩ := hf
  obtain ⟨f0_0, f0_1, f0_2, f0_3⟩ := f0
  obtain ⟨f1_0, f1_1, f1_2, f1_3⟩ := f1
  try simp only [big] at *
  refine ⟨fun h1 => ?_, fun h1 => ?_⟩
  · have e : laws_eqState.S a0 a1 = (false) := by simp only [laws_eqState.S, h1, cond_true, cond_false]
    rw [e] at hK
    exact hK
  · refine ⟨fun h2 => ?_, fun h2 => ?_⟩
    · have e : laws_eqState.S a0 a1 = (false) := by simp only [laws_eqState.S, h1, h2, cond_true, cond_false]
      rw [e] at hK
      exact hK
    · refine ⟨fun h3 => ?_, fun h3 => ?_⟩
      · have e : laws_eqState.S a0 a1 = (false) := by simp only [laws_eqState.S, h1, h2, h3, cond_true, cond_false]
        rw [e] at hK
        exact hK
      · refine ⟨fun h4 => ?_, fun h4 => ?_⟩
        · have e : laws_eqState.S a0 a1 = (false) := by simp only [laws_eqState.S, h1, h2, h3, h4, cond_true, cond_false]
          rw [e] at hK
          exact hK
        · refine ⟨fun h5 => ?_, fun h5 => ?_⟩
          · have e : laws_eqState.S a0 a1 = (false) := by simp only [laws_eqState.S, h1, h2, h3, h4, h5, cond_true, cond_false]
            rw [e] at hK
            exact hK
          · refine ⟨fun h6 => ?_, fun h6 => ?_⟩
            · have e : laws_eqState.S a0 a1 = (false) := by simp only [laws_eqState.S, h1, h2, h3, h4, h5, h6, cond_true, cond_false]
              rw [e] at hK
              exact hK
            · refine ⟨fun h7 => ?_, fun h7 => ?_⟩
              · have e : laws_eqState.S a0 a1 = (false) := by simp only [laws_eqState.S, h1, h2, h3, h4, h5, h6, h7, cond_true, cond_false]
                rw [e] at hK
                exact hK
              · have e : laws_eqState.S a0 a1 = (true) := by simp only [laws_eqState.S, h1, h2, h3, h4, h5, h6, h7, cond_true, cond_false]
                rw [e] at hK
                exact hK
theorem laws_eqState.good : Good Try.prog laws_eqState.c :=
  vgood (sh := []) (LL := []) (consG laws_eqPacketS.good (consG laws_eqBoolS.good (consG laws_eqIntS.good noG))) (fn := Try.f89) (by kernel_rfl) (by kernel_rfl) (by rw [show loopsOf (bodyOf Try.f89) = [] from by kernel_rfl]; exact noL rfl) fun s hp hf => by
    refine Eq.mpr (laws_eqState.w (s.1) (s.2.1) _) ?_
    exact laws_eqState.v _ _ hf (fun r bs' => And (r = (laws_eqState.c.out s).1) (bs' = (laws_eqState.c.out s).2)) ⟨rfl, rfl⟩
/-! ### laws.eqStateS -/
def laws_eqStateS_l4.S : Nat → (List St) → (List St) → Bool → Int → Nat × Bool × Int × Unit
  | 0, _, _, _, _ => (0, (false, (0, ())))
  | n + 1, x4_0, x4_1, x4_2, x4_3 => bif decide (x4_3 < (x4_0.length : Int)) then bif !(laws_eqState.S (x4_0.getD (x4_3).toNat zSt) (x4_1.getD (x4_3).toNat zSt)) then (0, (false, (x4_3, ()))) else laws_eqStateS_l4.S n x4_0 x4_1 x4_2 (wrap (x4_3 + 1)) else (1, (false, (x4_3, ())))
def laws_eqStateS_l4.M (x4_0 : List St) (x4_1 : List St) (x4_2 : Bool) (x4_3 : Int) : Nat := ((x4_0.length : Int) - x4_3).toNat
def laws_eqStateS_l4.R (x4_0 : List St) (x4_1 : List St) (x4_2 : Bool) (x4_3 : Int) : Nat × Bool × Int × Unit := laws_eqStateS_l4.S (laws_eqStateS_l4.M x4_0 x4_1 x4_2 x4_3 + 1) x4_0 x4_1 x4_2 x4_3
def laws_eqStateS_l4.P (x4_0 : List St) (x4_1 : List St) (x4_2 : Bool) (x4_3 : Int) : Prop := (0 ≤ x4_3) ∧ ((x4_0.length : Int) ≤ 9223372036854775807) ∧ (stsFact x4_0) ∧ (stsFact x4_1) ∧ (((x4_0.length : Int) != (x4_1.length : Int)) = false)
def laws_eqStateS_l4.L : FL := fCons (fC (cArr false kSts)) (fCons (fC (cArr false kSts)) (fCons (fC cBool) (fCons (fC cInt) (fNil))))
def laws_eqStateS_l4.o0 (x4_0 : List St) (x4_1 : List St) (x4_2 : Bool) (x4_3 : Int) (r : Nat × Bool × Int × Unit) : Ex × List FV × List Blk := (.ret, [.c (.arr false (.sts x4_0)), .c (.arr false (.sts x4_1)), .c (.bool r.2.1), .c (.int r.2.2.1)], [])
def laws_eqStateS_l4.o1 (x4_0 : List St) (x4_1 : List St) (x4_2 : Bool) (x4_3 : Int) (r : Nat × Bool × Int × Unit) : Ex × List FV × List Blk := (.exit 0, [.c (.arr false (.sts x4_0)), .c (.arr false (.sts x4_1)), .c (.bool x4_2), .c (.int r.2.2.1)], [])
def laws_eqStateS_l4.o (x4_0 : List St) (x4_1 : List St) (x4_2 : Bool) (x4_3 : Int) (r : Nat × Bool × Int × Unit) : Ex × List FV × List Blk := pickAlt [(Nat.beq r.1 0, laws_eqStateS_l4.o0 x4_0 x4_1 x4_2 x4_3 r)] (laws_eqStateS_l4.o1 x4_0 x4_1 x4_2 x4_3 r)
def laws_eqStateS_l4.d : LDat := ldat 4 [0, 1, 4, 5] [] laws_eqStateS_l4.L (fun s => laws_eqStateS_l4.P s.1 s.2.1 s.2.2.1 s.2.2.2.1) (fun s => [(Nat.beq (laws_eqStateS_l4.R s.1 s.2.1 s.2.2.1 s.2.2.2.1).1 0, laws_eqStateS_l4.o0 s.1 s.2.1 s.2.2.1 s.2.2.2.1 (laws_eqStateS_l4.R s.1 s.2.1 s.2.2.1 s.2.2.2.1))]) (fun s => laws_eqStateS_l4.o1 s.1 s.2.1 s.2.2.1 s.2.2.2.1 (laws_eqStateS_l4.R s.1 s.2.1 s.2.2.1 s.2.2.2.1)) (fun s => laws_eqStateS_l4.M s.1 s.2.1 s.2.2.1 s.2.2.2.1)
def laws_eqStateS.S (a0 : List St) (a1 : List St) : Bool := bif (a0.length : Int) != (a1.length : Int) then (false) else bif Nat.beq (laws_eqStateS_l4.R a0 a1 false 0).1 0 then ((laws_eqStateS_l4.R a0 a1 false 0).2.1) else (true)
def laws_eqStateS.enc (r : Bool) : AV × List Blk := (.v (.c (.bool r)), [])
def laws_eqStateS.L : ShL := sCons sSts (sCons sSts (sNil))
def laws_eqStateS.c : Ctr := vctr 90 laws_eqStateS.L none (fun s => laws_eqStateS.enc (laws_eqStateS.S s.1 s.2.1))
theorem laws_eqStateS_l4.w (x4_0 : List St) (x4_1 : List St) (x4_2 : Bool) (x4_3 : Int) : evBody (env [laws_eqState.c]) [] (bodyAt Try.f90 0) laws_eqStateS_l4.d (x4_0, (x4_1, (x4_2, (x4_3, ())))) = (And (Imp ((decide (x4_3 < (x4_0.length : Int))) = true) (And ((0 : Int) ≤ x4_3 ∧ x4_3 < (x4_0.length : Int)) (And ((0 : Int) ≤ x4_3 ∧ x4_3 < (x4_1.length : Int)) (And (Imp ((!(laws_eqState.S (x4_0.getD (x4_3).toNat zSt) (x4_1.getD (x4_3).toNat zSt))) = true) (laws_eqStateS_l4.o x4_0 x4_1 x4_2 x4_3 (laws_eqStateS_l4.R x4_0 x4_1 x4_2 x4_3) = (.ret, [.c (.arr false (.sts x4_0)), .c (.arr false (.sts x4_1)), .c (.bool false), .c (.int x4_3)], []))) (Imp ((!(laws_eqState.S (x4_0.getD (x4_3).toNat zSt) (x4_1.getD (x4_3).toNat zSt))) = false) (And (laws_eqStateS_l4.P x4_0 x4_1 x4_2 (wrap (x4_3 + 1))) (And (laws_eqStateS_l4.M x4_0 x4_1 x4_2 (wrap (x4_3 + 1)) < laws_eqStateS_l4.M x4_0 x4_1 x4_2 x4_3) (laws_eqStateS_l4.o x4_0 x4_1 x4_2 (wrap (x4_3 + 1)) (laws_eqStateS_l4.R x4_0 x4_1 x4_2 (wrap (x4_3 + 1))) = laws_eqStateS_l4.o x4_0 x4_1 x4_2 x4_3 (laws_eqStateS_l4.R x4_0 x4_1 x4_2 x4_3))))))))) (Imp ((decide (x4_3 < (x4_0.length : Int))) = false) (laws_eqStateS_l4.o x4_0 x4_1 x4_2 x4_3 (laws_eqStateS_l4.R x4_0 x4_1 x4_2 x4_3) = (.exit 0, [.c (.arr false (.sts x4_0)), .c (.arr false (.sts x4_1)), .c (.bool x4_2), .c (.int x4_3)], [])))) := by kernel_rfl
theorem laws_eqStateS_l4.v (x4_0 : List St) (x4_1 : List St) (x4_2 : Bool) (x4_3 : Int) (hp : laws_eqStateS_l4.P x4_0 x4_1 x4_2 x4_3) : And (Imp ((decide (x4_3 < (x4_0.length : Int))) = true) (And ((0 : Int) ≤ x4_3 ∧ x4_3 < (x4_0.length : Int)) (And ((0 : Int) ≤ x4_3 ∧ x4_3 < (x4_1.length : Int)) (And (Imp ((!(laws_eqState.S (x4_0.getD (x4_3).toNat zSt) (x4_1.getD (x4_3).toNat zSt))) = true) (laws_eqStateS_l4.o x4_0 x4_1 x4_2 x4_3 (laws_eqStateS_l4.R x4_0 x4_1 x4_2 x4_3) = (.ret, [.c (.arr false (.sts x4_0)), .c (.arr false (.sts x4_1)), .c (.bool false), .c (.int x4_3)], []))) (Imp ((!(laws_eqState.S (x4_0.getD (x4_3).toNat zSt) (x4_1.getD (x4_3).toNat zSt))) = false) (And (laws_eqStateS_l4.P x4_0 x4_1 x4_2 (wrap (x4_3 + 1))) (And (laws_eqStateS_l4.M x4_0 x4_1 x4_2 (wrap (x4_3 + 1)) < laws_eqStateS_l4.M x4_0 x4_1 x4_2 x4_3) (laws_eqStateS_l4.o x4_0 x4_1 x4_2 (wrap (x4_3 + 1)) (laws_eqStateS_l4.R x4_0 x4_1 x4_2 (wrap (x4_3 + 1))) = laws_eqStateS_l4.o x4_0 x4_1 x4_2 x4_3 (laws_eqStateS_l4.R x4_0 x4_1 x4_2 x4_3))))))))) (Imp ((decide (x4_3 < (x4_0.length : Int))) = false) (laws_eqStateS_l4.o x4_0 x4_1 x4_2 x4_3 (laws_eqStateS_l4.R x4_0 x4_1 x4_2 x4_3) = (.exit 0, [.c (.arr false (.sts x4_0)), .c (.arr false (.sts x4_1)), .c (.bool x4_2), .c (.int x4_3)], []))) := by
  simp only [laws_eqStateS_l4.P] at hp
  obtain ⟨p0, p1, p2, p3, p4⟩ := hp
  refine ⟨fun h1 => ?_, fun h1 => ?_⟩
  · refine ⟨by first | assumption | omega | grind [wrap_id, sts_1, sts_2], ?_⟩
    refine ⟨by first | assumption | omega | grind [wrap_id, sts_1, sts_2], ?_⟩
    refine ⟨fun h2 => ?_, fun h2 => ?_⟩
    · have e : laws_eqStateS_l4.R x4_0 x4_1 x4_2 x4_3 = (0, (false, (x4_3, ()))) := by simp only [laws_eqStateS_l4.R, laws_eqStateS_l4.S, h1, h2, cond_true, cond_false]
      rw [e]
      rfl
    · have hμ : laws_eqStateS_l4.M x4_0 x4_1 x4_2 x4_3 = laws_eqStateS_l4.M x4_0 x4_1 x4_2 (wrap (x4_3 + 1)) + 1 := by simp only [laws_eqStateS_l4.M]; first | omega | grind [wrap_id]
      refine ⟨by simp only [laws_eqStateS_l4.P]; refine ⟨(by first | assumption | omega | grind [wrap_id, sts_1, sts_2]), (by first | assumption | omega | grind [wrap_id, sts_1, sts_2]), (by first | assumption | omega | grind [wrap_id, sts_1, sts_2]), (by first | assumption | omega | grind [wrap_id, sts_1, sts_2]), (by first | assumption | omega | grind [wrap_id, sts_1, sts_2])⟩, by omega, ?_⟩
      have e : laws_eqStateS_l4.R x4_0 x4_1 x4_2 x4_3 = laws_eqStateS_l4.R x4_0 x4_1 x4_2 (wrap (x4_3 + 1)) := by
        have e1 : laws_eqStateS_l4.R x4_0 x4_1 x4_2 x4_3 = laws_eqStateS_l4.S (laws_eqStateS_l4.M x4_0 x4_1 x4_2 x4_3) x4_0 x4_1 x4_2 (wrap (x4_3 + 1)) := by simp only [laws_eqStateS_l4.R, laws_eqStateS_l4.S, h1, h2, cond_true, cond_false]
        rw [e1, hμ]
        rfl
      rw [e]
      rfl
  · have e : laws_eqStateS_l4.R x4_0 x4_1 x4_2 x4_3 = (1, (false, (x4_3, ()))) := by simp only [laws_eqStateS_l4.R, laws_eqStateS_l4.S, h1, cond_true, cond_false]
    rw [e]
    rfl
theorem laws_eqStateS_l4.g (hG : ∀ c ∈ [laws_eqState.c], Good Try.prog c) : LGood Try.prog Try.f90.ntmps laws_eqStateS_l4.d.ctr (bodyAt Try.f90 0) := by
  refine lgood (LL := []) hG (by kernel_rfl) (by rw [show loopsOf (bodyAt Try.f90 0) = [] from by kernel_rfl]; exact noL rfl) fun s hp => ?_
  refine Eq.mpr (laws_eqStateS_l4.w s.1 s.2.1 s.2.2.1 s.2.2.2.1) ?_
  replace hp : laws_eqStateS_l4.P s.1 s.2.1 s.2.2.1 s.2.2.2.1 := hp
  exact laws_eqStateS_l4.v _ _ _ _ hp
def laws_eqStateS_l4.E (x4_0 : List St) (x4_1 : List St) (x4_2 : Bool) (k : Nat) (a : Unit) : Option (Nat × Bool × Int × Unit) := bif !(laws_eqState.S (x4_0.getD k zSt) (x4_1.getD k zSt)) then some (0, (false, ((k : Int), ()))) else none
def laws_eqStateS_l4.A (x4_0 : List St) (x4_1 : List St) (x4_2 : Bool) (k : Nat) (a : Unit) : Unit := bif !(laws_eqState.S (x4_0.getD k zSt) (x4_1.getD k zSt)) then a else ()
def laws_eqStateS_l4.fin (x4_0 : List St) (x4_1 : List St) (x4_2 : Bool) (k : Nat) (a : Unit) : Nat × Bool × Int × Unit := (1, (false, ((k : Int), ())))
def laws_eqStateS_l4.acc (x4_0 : List St) (x4_1 : List St) (x4_2 : Bool) (a : Unit) : Nat → Unit
  | 0 => a
  | k + 1 => laws_eqStateS_l4.A x4_0 x4_1 x4_2 k (laws_eqStateS_l4.acc x4_0 x4_1 x4_2 a k)
theorem laws_eqStateS_l4.law (x4_0 : List St) (x4_1 : List St) (x4_2 : Bool) (a : Unit) (n : Nat) (hT : (x4_0.length : Int) = (n : Int)) (hn : (n : Int) ≤ 9223372036854775807) :
    ((∀ k, k < n → laws_eqStateS_l4.E x4_0 x4_1 x4_2 k (laws_eqStateS_l4.acc x4_0 x4_1 x4_2 a k) = none) ∧ laws_eqStateS_l4.R x4_0 x4_1 x4_2 0 = laws_eqStateS_l4.fin x4_0 x4_1 x4_2 n (laws_eqStateS_l4.acc x4_0 x4_1 x4_2 a n)) ∨ (∃ k r, k < n ∧ laws_eqStateS_l4.E x4_0 x4_1 x4_2 k (laws_eqStateS_l4.acc x4_0 x4_1 x4_2 a k) = some r ∧ (∀ j, j < k → laws_eqStateS_l4.E x4_0 x4_1 x4_2 j (laws_eqStateS_l4.acc x4_0 x4_1 x4_2 a j) = none) ∧ laws_eqStateS_l4.R x4_0 x4_1 x4_2 0 = r) := by
  have hM : laws_eqStateS_l4.M x4_0 x4_1 x4_2 0 + 1 = n + 1 := by simp only [laws_eqStateS_l4.M]; omega
  unfold laws_eqStateS_l4.R
  rw [hM]
  refine loopE (fun m i b => laws_eqStateS_l4.S m x4_0 x4_1 x4_2 i) n hn (laws_eqStateS_l4.acc x4_0 x4_1 x4_2 a) (laws_eqStateS_l4.E x4_0 x4_1 x4_2 ) (laws_eqStateS_l4.fin x4_0 x4_1 x4_2 ) fun m k hk => ?_
  have ha : laws_eqStateS_l4.acc x4_0 x4_1 x4_2 a (k + 1) = laws_eqStateS_l4.A x4_0 x4_1 x4_2 k (laws_eqStateS_l4.acc x4_0 x4_1 x4_2 a k) := rfl
  rw [ha]
  generalize laws_eqStateS_l4.acc x4_0 x4_1 x4_2 a k = b
  simp only [laws_eqStateS_l4.S, laws_eqStateS_l4.E, laws_eqStateS_l4.A, laws_eqStateS_l4.fin, hT, Int.toNat_natCast]
  all_goals grind
theorem laws_eqStateS.w (a0 : List St) (a1 : List St) (K : AV → List Blk → Prop) : evFn (env [laws_eqState.c]) [laws_eqStateS_l4.d.ctr] [] Try.f90 [] (laws_eqStateS.L.enc (a0, (a1, ()))) K = (And (Imp (((a0.length : Int) != (a1.length : Int)) = true) (K (.v (.c (.bool false))) ([]))) (Imp (((a0.length : Int) != (a1.length : Int)) = false) (And (laws_eqStateS_l4.P a0 a1 false 0) (And (Imp (Nat.beq (laws_eqStateS_l4.R a0 a1 false 0).1 0 = true) (K (.v (.c (.bool (laws_eqStateS_l4.R a0 a1 false 0).2.1))) ([]))) (Imp (Nat.beq (laws_eqStateS_l4.R a0 a1 false 0).1 0 = false) (K (.v (.c (.bool true))) ([]))))))) := by kernel_rfl
theorem laws_eqStateS.v (a0 : List St) (a1 : List St) (hf : stsFact a0 ∧ stsFact a1 ∧ True) (K : AV → List Blk → Prop) (hK : K (laws_eqStateS.enc (laws_eqStateS.S a0 a1)).1 (laws_eqStateS.enc (laws_eqStateS.S a0 a1)).2) : And (Imp (((a0.length : Int) != (a1.length : Int)) = true) (K (.v (.c (.bool false))) ([]))) (Imp (((a0.length : Int) != (a1.length : Int)) = false) (And (laws_eqStateS_l4.P a0 a1 false 0) (And (Imp (Nat.beq (laws_eqStateS_l4.R a0 a1 false 0).1 0 = true) (K (.v (.c (.bool (laws_eqStateS_l4.R a0 a1 false 0).2.1))) ([]))) (Imp (Nat.beq (laws_eqStateS_l4.R a0 a1 false 0).1 0 = false) (K (.v (.c (.bool true))) ([])))))) := by
  obtain ⟨f0, f1, -⟩ := hf
  try simp only [big] at *
  refine ⟨fun h1 => ?_, fun h1 => ?_⟩
  · have e : laws_eqStateS.S a0 a1 = (false) := by simp only [laws_eqStateS.S, h1, cond_true, cond_false]
    rw [e] at hK
    exact hK
  · refine ⟨by simp only [laws_eqStateS_l4.P]; refine ⟨(by first | assumption | omega | grind [wrap_id, sts_1, sts_2]), (by first | assumption | omega | grind [wrap_id, sts_1, sts_2]), (by first | assumption | omega | grind [wrap_id, sts_1, sts_2]), (by first | assumption | omega | grind [wrap_id, sts_1, sts_2]), (by first | assumption | omega | grind [wrap_id, sts_1, sts_2])⟩, ?_⟩
    refine ⟨fun h2 => ?_, fun h2 => ?_⟩
    · have e : laws_eqStateS.S a0 a1 = ((laws_eqStateS_l4.R a0 a1 false 0).2.1) := by simp only [laws_eqStateS.S, h1, h2, cond_true, cond_false]
      rw [e] at hK
      exact hK
    · have e : laws_eqStateS.S a0 a1 = (true) := by simp only [laws_eqStateS.S, h1, h2, cond_true, cond_false]
      rw [e] at hK
      exact hK
theorem laws_eqStateS.good : Good Try.prog laws_eqStateS.c :=
  vgood (sh := []) (LL := [laws_eqStateS_l4.d.ctr]) (consG laws_eqState.good noG) (fn := Try.f90) (by kernel_rfl) (by kernel_rfl) (by rw [show loopsOf (bodyOf Try.f90) = [(bodyAt Try.f90 0)] from by kernel_rfl]; exact consL (l := laws_eqStateS_l4.d.ctr) (by kernel_rfl) (laws_eqStateS_l4.g (consG laws_eqState.good noG)) (noL rfl)) fun s hp hf => by
    refine Eq.mpr (laws_eqStateS.w (s.1) (s.2.1) _) ?_
    exact laws_eqStateS.v _ _ hf (fun r bs' => And (r = (laws_eqStateS.c.out s).1) (bs' = (laws_eqStateS.c.out s).2)) ⟨rfl, rfl⟩
/-! ### laws.eqChain -/
def laws_eqChain.S (a0 : Ch) (a1 : Ch) : Bool := bif a0.id != a1.id then (false) else bif !(laws_eqBank.S a0.bank a1.bank) then (false) else bif !(laws_eqState.S a0.st a1.st) then (false) else bif !(laws_eqStateS.S a0.past a1.past) then (false) else bif !(laws_eqIntS.S a0.knows a1.knows) then (false) else (true)
def laws_eqChain.enc (r : Bool) : AV × List Blk := (.v (.c (.bool r)), [])
def laws_eqChain.L : ShL := sCons sCh (sCons sCh (sNil))
def laws_eqChain.c : Ctr := vctr 71 laws_eqChain.L none (fun s => laws_eqChain.enc (laws_eqChain.S s.1 s.2.1))
theorem laws_eqChain.w (a0 : Ch) (a1 : Ch) (K : AV → List Blk → Prop) : evFn (env [laws_eqBank.c, laws_eqState.c, laws_eqStateS.c, laws_eqIntS.c]) [] [] Try.f71 [] (laws_eqChain.L.enc (a0, (a1, ()))) K = (And (Imp ((a0.id != a1.id) = true) (K (.v (.c (.bool false))) ([]))) (Imp ((a0.id != a1.id) = false) (And (Imp ((!(laws_eqBank.S a0.bank a1.bank)) = true) (K (.v (.c (.bool false))) ([]))) (Imp ((!(laws_eqBank.S a0.bank a1.bank)) = false) (And (Imp ((!(laws_eqState.S a0.st a1.st)) = true) (K (.v (.c (.bool false))) ([]))) (Imp ((!(laws_eqState.S a0.st a1.st)) = false) (And (Imp ((!(laws_eqStateS.S a0.past a1.past)) = true) (K (.v (.c (.bool false))) ([]))) (Imp ((!(laws_eqStateS.S a0.past a1.past)) = false) (And (Imp ((!(laws_eqIntS.S a0.knows a1.knows)) = true) (K (.v (.c (.bool false))) ([]))) (Imp ((!(laws_eqIntS.S a0.knows a1.knows)) = false) (K (.v (.c (.bool true))) ([])))))))))))) := by kernel_rfl
theorem laws_eqChain.v (a0 : Ch) (a1 : Ch) (hf : Ch.fact a0 ∧ Ch.fact a1 ∧ True) (K : AV → List Blk → Prop) (hK : K (laws_eqChain.enc (laws_eqChain.S a0 a1)).1 (laws_eqChain.enc (laws_eqChain.S a0 a1)).2) : And (Imp ((a0.id != a1.id) = true) (K (.v (.c (.bool false))) ([]))) (Imp ((a0.id != a1.id) = false) (And (Imp ((!(laws_eqBank.S a0.bank a1.bank)) = true) (K (.v (.c (.bool false))) ([]))) (Imp ((!(laws_eqBank.S a0.bank a1.bank)) = false) (And (Imp ((!(laws_eqState.S a0.st a1.st)) = true) (K (.v (.c (.bool false))) ([]))) (Imp ((!(laws_eqState.S a0.st a1.st)) = false) (And (Imp ((!(laws_eqStateS.S a0.past a1.past)) = true) (K (.v (.c (.bool false))) ([]))) (Imp ((!(laws_eqStateS.S a0.past a1.past)) = false) (And (Imp ((!(laws_eqIntS.S a0.knows a1.knows)) = true) (K (.v (.c (.bool false))) ([]))) (Imp ((!(laws_eqIntS.S a0.knows a1.knows)) = false) (K (.v (.c (.bool true))) ([]))))))))))) := by
  obtain ⟨f0, f1, -⟩ := hf
  obtain ⟨⟨f0_0, f0_1⟩, ⟨f0_2, f0_3, f0_4, f0_5⟩, f0_6, f0_7⟩ := f0
  obtain ⟨⟨f1_0, f1_1⟩, ⟨f1_2, f1_3, f1_4, f1_5⟩, f1_6, f1_7⟩ := f1
  try simp only [big] at *
  refine ⟨fun h1 => ?_, fun h1 => ?_⟩
  · have e : laws_eqChain.S a0 a1 = (false) := by simp only [laws_eqChain.S, h1, cond_true, cond_false]
    rw [e] at hK
    exact hK
  · refine ⟨fun h2 => ?_, fun h2 => ?_⟩
    · have e : laws_eqChain.S a0 a1 = (false) := by simp only [laws_eqChain.S, h1, h2, cond_true, cond_false]
      rw [e] at hK
      exact hK
    · refine ⟨fun h3 => ?_, fun h3 => ?_⟩
      · have e : laws_eqChain.S a0 a1 = (false) := by simp only [laws_eqChain.S, h1, h2, h3, cond_true, cond_false]
        rw [e] at hK
        exact hK
      · refine ⟨fun h4 => ?_, fun h4 => ?_⟩
        · have e : laws_eqChain.S a0 a1 = (false) := by simp only [laws_eqChain.S, h1, h2, h3, h4, cond_true, cond_false]
          rw [e] at hK
          exact hK
        · refine ⟨fun h5 => ?_, fun h5 => ?_⟩
          · have e : laws_eqChain.S a0 a1 = (false) := by simp only [laws_eqChain.S, h1, h2, h3, h4, h5, cond_true, cond_false]
            rw [e] at hK
            exact hK
          · have e : laws_eqChain.S a0 a1 = (true) := by simp only [laws_eqChain.S, h1, h2, h3, h4, h5, cond_true, cond_false]
            rw [e] at hK
            exact hK
theorem laws_eqChain.good : Good Try.prog laws_eqChain.c :=
  vgood (sh := []) (LL := []) (consG laws_eqBank.good (consG laws_eqState.good (consG laws_eqStateS.good (consG laws_eqIntS.good noG)))) (fn := Try.f71) (by kernel_rfl) (by kernel_rfl) (by rw [show loopsOf (bodyOf Try.f71) = [] from by kernel_rfl]; exact noL rfl) fun s hp hf => by
    refine Eq.mpr (laws_eqChain.w (s.1) (s.2.1) _) ?_
    exact laws_eqChain.v _ _ hf (fun r bs' => And (r = (laws_eqChain.c.out s).1) (bs' = (laws_eqChain.c.out s).2)) ⟨rfl, rfl⟩
/-! ### laws.eqChainS -/
def laws_eqChainS_l4.S : Nat → (List Ch) → (List Ch) → Bool → Int → Nat × Bool × Int × Unit
  | 0, _, _, _, _ => (0, (false, (0, ())))
  | n + 1, x4_0, x4_1, x4_2, x4_3 => bif decide (x4_3 < (x4_0.length : Int)) then bif !(laws_eqChain.S (x4_0.getD (x4_3).toNat zCh) (x4_1.getD (x4_3).toNat zCh)) then (0, (false, (x4_3, ()))) else laws_eqChainS_l4.S n x4_0 x4_1 x4_2 (wrap (x4_3 + 1)) else (1, (false, (x4_3, ())))
def laws_eqChainS_l4.M (x4_0 : List Ch) (x4_1 : List Ch) (x4_2 : Bool) (x4_3 : Int) : Nat := ((x4_0.length : Int) - x4_3).toNat
def laws_eqChainS_l4.R (x4_0 : List Ch) (x4_1 : List Ch) (x4_2 : Bool) (x4_3 : Int) : Nat × Bool × Int × Unit := laws_eqChainS_l4.S (laws_eqChainS_l4.M x4_0 x4_1 x4_2 x4_3 + 1) x4_0 x4_1 x4_2 x4_3
def laws_eqChainS_l4.P (x4_0 : List Ch) (x4_1 : List Ch) (x4_2 : Bool) (x4_3 : Int) : Prop := (0 ≤ x4_3) ∧ ((x4_0.length : Int) ≤ 9223372036854775807) ∧ (chsFact x4_0) ∧ (chsFact x4_1) ∧ (((x4_0.length : Int) != (x4_1.length : Int)) = false)
def laws_eqChainS_l4.L : FL := fCons (fC (cArr false kChs)) (fCons (fC (cArr false kChs)) (fCons (fC cBool) (fCons (fC cInt) (fNil))))
def laws_eqChainS_l4.o0 (x4_0 : List Ch) (x4_1 : List Ch) (x4_2 : Bool) (x4_3 : Int) (r : Nat × Bool × Int × Unit) : Ex × List FV × List Blk := (.ret, [.c (.arr false (.chs x4_0)), .c (.arr false (.chs x4_1)), .c (.bool r.2.1), .c (.int r.2.2.1)], [])
def laws_eqChainS_l4.o1 (x4_0 : List Ch) (x4_1 : List Ch) (x4_2 : Bool) (x4_3 : Int) (r : Nat × Bool × Int × Unit) : Ex × List FV × List Blk := (.exit 0, [.c (.arr false (.chs x4_0)), .c (.arr false (.chs x4_1)), .c (.bool x4_2), .c (.int r.2.2.1)], [])
def laws_eqChainS_l4.o (x4_0 : List Ch) (x4_1 : List Ch) (x4_2 : Bool) (x4_3 : Int) (r : Nat × Bool × Int × Unit) : Ex × List FV × List Blk := pickAlt [(Nat.beq r.1 0, laws_eqChainS_l4.o0 x4_0 x4_1 x4_2 x4_3 r)] (laws_eqChainS_l4.o1 x4_0 x4_1 x4_2 x4_3 r)
def laws_eqChainS_l4.d : LDat := ldat 4 [0, 1, 4, 5] [] laws_eqChainS_l4.L (fun s => laws_eqChainS_l4.P s.1 s.2.1 s.2.2.1 s.2.2.2.1) (fun s => [(Nat.beq (laws_eqChainS_l4.R s.1 s.2.1 s.2.2.1 s.2.2.2.1).1 0, laws_eqChainS_l4.o0 s.1 s.2.1 s.2.2.1 s.2.2.2.1 (laws_eqChainS_l4.R s.1 s.2.1 s.2.2.1 s.2.2.2.1))]) (fun s => laws_eqChainS_l4.o1 s.1 s.2.1 s.2.2.1 s.2.2.2.1 (laws_eqChainS_l4.R s.1 s.2.1 s.2.2.1 s.2.2.2.1)) (fun s => laws_eqChainS_l4.M s.1 s.2.1 s.2.2.1 s.2.2.2.1)
def laws_eqChainS.S (a0 : List Ch) (a1 : List Ch) : Bool := bif (a0.length : Int) != (a1.length : Int) then (false) else bif Nat.beq (laws_eqChainS_l4.R a0 a1 false 0).1 0 then ((laws_eqChainS_l4.R a0 a1 false 0).2.1) else (true)
def laws_eqChainS.enc (r : Bool) : AV × List Blk := (.v (.c (.bool r)), [])
def laws_eqChainS.L : ShL := sCons sChs (sCons sChs (sNil))
def laws_eqChainS.c : Ctr := vctr 46 laws_eqChainS.L none (fun s => laws_eqChainS.enc (laws_eqChainS.S s.1 s.2.1))
theorem laws_eqChainS_l4.w (x4_0 : List Ch) (x4_1 : List Ch) (x4_2 : Bool) (x4_3 : Int) : evBody (env [laws_eqChain.c]) [] (bodyAt Try.f46 0) laws_eqChainS_l4.d (x4_0, (x4_1, (x4_2, (x4_3, ())))) = (And (Imp ((decide (x4_3 < (x4_0.length : Int))) = true) (And ((0 : Int) ≤ x4_3 ∧ x4_3 < (x4_0.length : Int)) (And ((0 : Int) ≤ x4_3 ∧ x4_3 < (x4_1.length : Int)) (And (Imp ((!(laws_eqChain.S (x4_0.getD (x4_3).toNat zCh) (x4_1.getD (x4_3).toNat zCh))) = true) (laws_eqChainS_l4.o x4_0 x4_1 x4_2 x4_3 (laws_eqChainS_l4.R x4_0 x4_1 x4_2 x4_3) = (.ret, [.c (.arr false (.chs x4_0)), .c (.arr false (.chs x4_1)), .c (.bool false), .c (.int x4_3)], []))) (Imp ((!(laws_eqChain.S (x4_0.getD (x4_3).toNat zCh) (x4_1.getD (x4_3).toNat zCh))) = false) (And (laws_eqChainS_l4.P x4_0 x4_1 x4_2 (wrap (x4_3 + 1))) (And (laws_eqChainS_l4.M x4_0 x4_1 x4_2 (wrap (x4_3 + 1)) < laws_eqChainS_l4.M x4_0 x4_1 x4_2 x4_3) (laws_eqChainS_l4.o x4_0 x4_1 x4_2 (wrap (x4_3 + 1)) (laws_eqChainS_l4.R x4_0 x4_1 x4_2 (wrap (x4_3 + 1))) = laws_eqChainS_l4.o x4_0 x4_1 x4_2 x4_3 (laws_eqChainS_l4.R x4_0 x4_1 x4_2 x4_3))))))))) (Imp ((decide (x4_3 < (x4_0.length : Int))) = false) (laws_eqChainS_l4.o x4_0 x4_1 x4_2 x4_3 (laws_eqChainS_l4.R x4_0 x4_1 x4_2 x4_3) = (.exit 0, [.c (.arr false (.chs x4_0)), .c (.arr false (.chs x4_1)), .c (.bool x4_2), .c (.int x4_3)], [])))) := by kernel_rfl
theorem laws_eqChainS_l4.v (x4_0 : List Ch) (x4_1 : List Ch) (x4_2 : Bool) (x4_3 : Int) (hp : laws_eqChainS_l4.P x4_0 x4_1 x4_2 x4_3) : And (Imp ((decide (x4_3 < (x4_0.length : Int))) = true) (And ((0 : Int) ≤ x4_3 ∧ x4_3 < (x4_0.length : Int)) (And ((0 : Int) ≤ x4_3 ∧ x4_3 < (x4_1.length : Int)) (And (Imp ((!(laws_eqChain.S (x4_0.getD (x4_3).toNat zCh) (x4_1.getD (x4_3).toNat zCh))) = true) (laws_eqChainS_l4.o x4_0 x4_1 x4_2 x4_3 (laws_eqChainS_l4.R x4_0 x4_1 x4_2 x4_3) = (.ret, [.c (.arr false (.chs x4_0)), .c (.arr false (.chs x4_1)), .c (.bool false), .c (.int x4_3)], []))) (Imp ((!(laws_eqChain.S (x4_0.getD (x4_3).toNat zCh) (x4_1.getD (x4_3).toNat zCh))) = false) (And (laws_eqChainS_l4.P x4_0 x4_1 x4_2 (wrap (x4_3 + 1))) (And (laws_eqChainS_l4.M x4_0 x4_1 x4_2 (wrap (x4_3 + 1)) < laws_eqChainS_l4.M x4_0 x4_1 x4_2 x4_3) (laws_eqChainS_l4.o x4_0 x4_1 x4_2 (wrap (x4_3 + 1)) (laws_eqChainS_l4.R x4_0 x4_1 x4_2 (wrap (x4_3 + 1))) = laws_eqChainS_l4.o x4_0 x4_1 x4_2 x4_3 (laws_eqChainS_l4.R x4_0 x4_1 x4_2 x4_3))))))))) (Imp ((decide (x4_3 < (x4_0.length : Int))) = false) (laws_eqChainS_l4.o x4_0 x4_1 x4_2 x4_3 (laws_eqChainS_l4.R x4_0 x4_1 x4_2 x4_3) = (.exit 0, [.c (.arr false (.chs x4_0)), .c (.arr false (.chs x4_1)), .c (.bool x4_2), .c (.int x4_3)], []))) := by
  simp only [laws_eqChainS_l4.P] at hp
  obtain ⟨p0, p1, p2, p3, p4⟩ := hp
  refine ⟨fun h1 => ?_, fun h1 => ?_⟩
  · refine ⟨by first | assumption | omega | grind [wrap_id, chs_1, chs_2, chs_3, chs_4, chs_5], ?_⟩
    refine ⟨by first | assumption | omega | grind [wrap_id, chs_1, chs_2, chs_3, chs_4, chs_5], ?_⟩
    refine ⟨fun h2 => ?_, fun h2 => ?_⟩
    · have e : laws_eqChainS_l4.R x4_0 x4_1 x4_2 x4_3 = (0, (false, (x4_3, ()))) := by simp only [laws_eqChainS_l4.R, laws_eqChainS_l4.S, h1, h2, cond_true, cond_false]
      rw [e]
      rfl
    · have hμ : laws_eqChainS_l4.M x4_0 x4_1 x4_2 x4_3 = laws_eqChainS_l4.M x4_0 x4_1 x4_2 (wrap (x4_3 + 1)) + 1 := by simp only [laws_eqChainS_l4.M]; first | omega | grind [wrap_id]
      refine ⟨by simp only [laws_eqChainS_l4.P]; refine ⟨(by first | assumption | omega | grind [wrap_id, chs_1, chs_2, chs_3, chs_4, chs_5]), (by first | assumption | omega | grind [wrap_id, chs_1, chs_2, chs_3, chs_4, chs_5]), (by first | assumption | omega | grind [wrap_id, chs_1, chs_2, chs_3, chs_4, chs_5]), (by first | assumption | omega | grind [wrap_id, chs_1, chs_2, chs_3, chs_4, chs_5]), (by first | assumption | omega | grind [wrap_id, chs_1, chs_2, chs_3, chs_4, chs_5])⟩, by omega, ?_⟩
      have e : laws_eqChainS_l4.R x4_0 x4_1 x4_2 x4_3 = laws_eqChainS_l4.R x4_0 x4_1 x4_2 (wrap (x4_3 + 1)) := by
        have e1 : laws_eqChainS_l4.R x4_0 x4_1 x4_2 x4_3 = laws_eqChainS_l4.S (laws_eqChainS_l4.M x4_0 x4_1 x4_2 x4_3) x4_0 x4_1 x4_2 (wrap (x4_3 + 1)) := by simp only [laws_eqChainS_l4.R, laws_eqChainS_l4.S, h1, h2, cond_true, cond_false]
        rw [e1, hμ]
        rfl
      rw [e]
      rfl
  · have e : laws_eqChainS_l4.R x4_0 x4_1 x4_2 x4_3 = (1, (false, (x4_3, ()))) := by simp only [laws_eqChainS_l4.R, laws_eqChainS_l4.S, h1, cond_true, cond_false]
    rw [e]
    rfl
theorem laws_eqChainS_l4.g (hG : ∀ c ∈ [laws_eqChain.c], Good Try.prog c) : LGood Try.prog Try.f46.ntmps laws_eqChainS_l4.d.ctr (bodyAt Try.f46 0) := by
  refine lgood (LL := []) hG (by kernel_rfl) (by rw [show loopsOf (bodyAt Try.f46 0) = [] from by kernel_rfl]; exact noL rfl) fun s hp => ?_
  refine Eq.mpr (laws_eqChainS_l4.w s.1 s.2.1 s.2.2.1 s.2.2.2.1) ?_
  replace hp : laws_eqChainS_l4.P s.1 s.2.1 s.2.2.1 s.2.2.2.1 := hp
  exact laws_eqChainS_l4.v _ _ _ _ hp
def laws_eqChainS_l4.E (x4_0 : List Ch) (x4_1 : List Ch) (x4_2 : Bool) (k : Nat) (a : Unit) : Option (Nat × Bool × Int × Unit) := bif !(laws_eqChain.S (x4_0.getD k zCh) (x4_1.getD k zCh)) then some (0, (false, ((k : Int), ()))) else none
def laws_eqChainS_l4.A (x4_0 : List Ch) (x4_1 : List Ch) (x4_2 : Bool) (k : Nat) (a : Unit) : Unit := bif !(laws_eqChain.S (x4_0.getD k zCh) (x4_1.getD k zCh)) then a else ()
def laws_eqChainS_l4.fin (x4_0 : List Ch) (x4_1 : List Ch) (x4_2 : Bool) (k : Nat) (a : Unit) : Nat × Bool × Int × Unit := (1, (false, ((k : Int), ())))
def laws_eqChainS_l4.acc (x4_0 : List Ch) (x4_1 : List Ch) (x4_2 : Bool) (a : Unit) : Nat → Unit
  | 0 => a
  | k + 1 => laws_eqChainS_l4.A x4_0 x4_1 x4_2 k (laws_eqChainS_l4.acc x4_0 x4_1 x4_2 a k)
theorem laws_eqChainS_l4.law (x4_0 : List Ch) (x4_1 : List Ch) (x4_2 : Bool) (a : Unit) (n : Nat) (hT : (x4_0.length : Int) = (n : Int)) (hn : (n : Int) ≤ 9223372036854775807) :
    ((∀ k, k < n → laws_eqChainS_l4.E x4_0 x4_1 x4_2 k (laws_eqChainS_l4.acc x4_0 x4_1 x4_2 a k) = none) ∧ laws_eqChainS_l4.R x4_0 x4_1 x4_2 0 = laws_eqChainS_l4.fin x4_0 x4_1 x4_2 n (laws_eqChainS_l4.acc x4_0 x4_1 x4_2 a n)) ∨ (∃ k r, k < n ∧ laws_eqChainS_l4.E x4_0 x4_1 x4_2 k (laws_eqChainS_l4.acc x4_0 x4_1 x4_2 a k) = some r ∧ (∀ j, j < k → laws_eqChainS_l4.E x4_0 x4_1 x4_2 j (laws_eqChainS_l4.acc x4_0 x4_1 x4_2 a j) = none) ∧ laws_eqChainS_l4.R x4_0 x4_1 x4_2 0 = r) := by
  have hM : laws_eqChainS_l4.M x4_0 x4_1 x4_2 0 + 1 = n + 1 := by simp only [laws_eqChainS_l4.M]; omega
  unfold laws_eqChainS_l4.R
  rw [hM]
  refine loopE (fun m i b => laws_eqChainS_l4.S m x4_0 x4_1 x4_2 i) n hn (laws_eqChainS_l4.acc x4_0 x4_1 x4_2 a) (laws_eqChainS_l4.E x4_0 x4_1 x4_2 ) (laws_eqChainS_l4.fin x4_0 x4_1 x4_2 ) fun m k hk => ?_
  have ha : laws_eqChainS_l4.acc x4_0 x4_1 x4_2 a (k + 1) = laws_eqChainS_l4.A x4_0 x4_1 x4_2 k (laws_eqChainS_l4.acc x4_0 x4_1 x4_2 a k) := rfl
  rw [ha]
  generalize laws_eqChainS_l4.acc x4_0 x4_1 x4_2 a k = b
  simp only [laws_eqChainS_l4.S, laws_eqChainS_l4.E, laws_eqChainS_l4.A, laws_eqChainS_l4.fin, hT, Int.toNat_natCast]
  all_goals grind
theorem laws_eqChainS.w (a0 : List Ch) (a1 : List Ch) (K : AV → List Blk → Prop) : evFn (env [laws_eqChain.c]) [laws_eqChainS_l4.d.ctr] [] Try.f46 [] (laws_eqChainS.L.enc (a0, (a1, ()))) K = (And (Imp (((a0.length : Int) != (a1.length : Int)) = true) (K (.v (.c (.bool false))) ([]))) (Imp (((a0.length : Int) != (a1.length : Int)) = false) (And (laws_eqChainS_l4.P a0 a1 false 0) (And (Imp (Nat.beq (laws_eqChainS_l4.R a0 a1 false 0).1 0 = true) (K (.v (.c (.bool (laws_eqChainS_l4.R a0 a1 false 0).2.1))) ([]))) (Imp (Nat.beq (laws_eqChainS_l4.R a0 a1 false 0).1 0 = false) (K (.v (.c (.bool true))) ([]))))))) := by kernel_rfl
theorem laws_eqChainS.v (a0 : List Ch) (a1 : List Ch) (hf : chsFact a0 ∧ chsFact a1 ∧ True) (K : AV → List Blk → Prop) (hK : K (laws_eqChainS.enc (laws_eqChainS.S a0 a1)).1 (laws_eqChainS.enc (laws_eqChainS.S a0 a1)).2) : And (Imp (((a0.length : Int) != (a1.length : Int)) = true) (K (.v (.c (.bool false))) ([]))) (Imp (((a0.length : Int) != (a1.length : Int)) = false) (And (laws_eqChainS_l4.P a0 a1 false 0) (And (Imp (Nat.beq (laws_eqChainS_l4.R a0 a1 false 0).1 0 = true) (K (.v (.c (.bool (laws_eqChainS_l4.R a0 a1 false 0).2.1))) ([]))) (Imp (Nat.beq (laws_eqChainS_l4.R a0 a1 false 0).1 0 = false) (K (.v (.c (.bool true))) ([])))))) := by
  obtain ⟨f0, f1, -⟩ := hf
  try simp only [big] at *
  refine ⟨fun h1 => ?_, fun h1 => ?_⟩
  · have e : laws_eqChainS.S a0 a1 = (false) := by simp only [laws_eqChainS.S, h1, cond_true, cond_false]
    rw [e] at hK
    exact hK
  · refine ⟨by simp only [laws_eqChainS_l4.P]; refine ⟨(by first | assumption | omega | grind [wrap_id, chs_1, chs_2, chs_3, chs_4, chs_5]), (by first | assumption | omega | grind [wrap_id, chs_1, chs_2, chs_3, chs_4, chs_5]), (by first | assumption | omega | grind [wrap_id, chs_1, chs_2, chs_3, chs_4, chs_5]), (by first | assumption | omega | grind [wrap_id, chs_1, chs_2, chs_3, chs_4, chs_5]), (by first | assumption | omega | grind [wrap_id, chs_1, chs_2, chs_3, chs_4, chs_5])⟩, ?_⟩
    refine ⟨fun h2 => ?_, fun h2 => ?_⟩
    · have e : laws_eqChainS.S a0 a1 = ((laws_eqChainS_l4.R a0 a1 false 0).2.1) := by simp only [laws_eqChainS.S, h1, h2, cond_true, cond_false]
      rw [e] at hK
      exact hK
    · have e : laws_eqChainS.S a0 a1 = (true) := by simp only [laws_eqChainS.S, h1, h2, cond_true, cond_false]
      rw [e] at hK
      exact hK
theorem laws_eqChainS.good : Good Try.prog laws_eqChainS.c :=
  vgood (sh := []) (LL := [laws_eqChainS_l4.d.ctr]) (consG laws_eqChain.good noG) (fn := Try.f46) (by kernel_rfl) (by kernel_rfl) (by rw [show loopsOf (bodyOf Try.f46) = [(bodyAt Try.f46 0)] from by kernel_rfl]; exact consL (l := laws_eqChainS_l4.d.ctr) (by kernel_rfl) (laws_eqChainS_l4.g (consG laws_eqChain.good noG)) (noL rfl)) fun s hp hf => by
    refine Eq.mpr (laws_eqChainS.w (s.1) (s.2.1) _) ?_
    exact laws_eqChainS.v _ _ hf (fun r bs' => And (r = (laws_eqChainS.c.out s).1) (bs' = (laws_eqChainS.c.out s).2)) ⟨rfl, rfl⟩
/-! ### laws.eqWorld -/
def laws_eqWorld.S (a0 : List Ch) (a1 : List Ch) : Bool := bif !(laws_eqChainS.S a0 a1) then (false) else (true)
def laws_eqWorld.enc (r : Bool) : AV × List Blk := (.v (.c (.bool r)), [])
def laws_eqWorld.L : ShL := sCons sW (sCons sW (sNil))
def laws_eqWorld.c : Ctr := vctr 16 laws_eqWorld.L none (fun s => laws_eqWorld.enc (laws_eqWorld.S s.1 s.2.1))
theorem laws_eqWorld.w (a0 : List Ch) (a1 : List Ch) (K : AV → List Blk → Prop) : evFn (env [laws_eqChainS.c]) [] [] Try.f16 [] (laws_eqWorld.L.enc (a0, (a1, ()))) K = (And (Imp ((!(laws_eqChainS.S a0 a1)) = true) (K (.v (.c (.bool false))) ([]))) (Imp ((!(laws_eqChainS.S a0 a1)) = false) (K (.v (.c (.bool true))) ([])))) := by kernel_rfl
theorem laws_eqWorld.v (a0 : List Ch) (a1 : List Ch) (hf : chsFact a0 ∧ chsFact a1 ∧ True) (K : AV → List Blk → Prop) (hK : K (laws_eqWorld.enc (laws_eqWorld.S a0 a1)).1 (laws_eqWorld.enc (laws_eqWorld.S a0 a1)).2) : And (Imp ((!(laws_eqChainS.S a0 a1)) = true) (K (.v (.c (.bool false))) ([]))) (Imp ((!(laws_eqChainS.S a0 a1)) = false) (K (.v (.c (.bool true))) ([]))) := by
  obtain ⟨f0, f1, -⟩ := hf
  try simp only [big] at *
  refine ⟨fun h1 => ?_, fun h1 => ?_⟩
  · have e : laws_eqWorld.S a0 a1 = (false) := by simp only [laws_eqWorld.S, h1, cond_true, cond_false]
    rw [e] at hK
    exact hK
  · have e : laws_eqWorld.S a0 a1 = (true) := by simp only [laws_eqWorld.S, h1, cond_true, cond_false]
    rw [e] at hK
    exact hK
theorem laws_eqWorld.good : Good Try.prog laws_eqWorld.c :=
  vgood (sh := []) (LL := []) (consG laws_eqChainS.good noG) (fn := Try.f16) (by kernel_rfl) (by kernel_rfl) (by rw [show loopsOf (bodyOf Try.f16) = [] from by kernel_rfl]; exact noL rfl) fun s hp hf => by
    refine Eq.mpr (laws_eqWorld.w (s.1) (s.2.1) _) ?_
    exact laws_eqWorld.v _ _ hf (fun r bs' => And (r = (laws_eqWorld.c.out s).1) (bs' = (laws_eqWorld.c.out s).2)) ⟨rfl, rfl⟩
end Hw
end Go.Proofs.Ytfboldbfbmmahaa
