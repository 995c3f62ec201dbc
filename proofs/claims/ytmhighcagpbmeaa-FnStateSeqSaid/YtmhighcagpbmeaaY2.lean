/- Functions that only read, 3: made by gen.py. -/
import Derived.Test.YtmhighcagpbmeaaY1
set_option linter.unusedVariables false
set_option linter.unusedSimpArgs false
set_option maxRecDepth 100000
set_option maxHeartbeats 400000
namespace Go.Proofs.Ytmhighcagpbmeaa
namespace Hw
open Go
attribute [local irreducible] evFn evBody wrap wxor
/-! ### spec.ChainOk -/
def spec_ChainOk_l4.S : Nat → Ch → Bool → Int → Nat × Bool × Int × Unit
  | 0, _, _, _ => (0, (false, (0, ())))
  | n + 1, x4_0, x4_1, x4_2 => bif decide (x4_2 < (x4_0.past.length : Int)) then bif !(spec_StateOk.S (x4_0.past.getD (x4_2).toNat zSt)) then (0, (false, (x4_2, ()))) else spec_ChainOk_l4.S n x4_0 x4_1 (wrap (x4_2 + 1)) else (1, (false, (x4_2, ())))
def spec_ChainOk_l4.M (x4_0 : Ch) (x4_1 : Bool) (x4_2 : Int) : Nat := ((x4_0.past.length : Int) - x4_2).toNat
def spec_ChainOk_l4.R (x4_0 : Ch) (x4_1 : Bool) (x4_2 : Int) : Nat × Bool × Int × Unit := spec_ChainOk_l4.S (spec_ChainOk_l4.M x4_0 x4_1 x4_2 + 1) x4_0 x4_1 x4_2
def spec_ChainOk_l4.P (x4_0 : Ch) (x4_1 : Bool) (x4_2 : Int) : Prop := (0 ≤ x4_2) ∧ ((x4_0.past.length : Int) ≤ 9223372036854775807) ∧ (stsFact x4_0.past) ∧ ((bif bif bif !(spec_l6In.S x4_0.id 1 2) then true else !(spec_BankOk.S x4_0.bank) then true else !(spec_StateOk.S x4_0.st) then true else decide ((x4_0.past.length : Int) > 90)) = false)
def spec_ChainOk_l4.L : FL := fCons (fC (cPtr 1 (cChE false) rfl)) (fCons (fC cBool) (fCons (fC cInt) (fNil)))
def spec_ChainOk_l4.o0 (x4_0 : Ch) (x4_1 : Bool) (x4_2 : Int) (r : Nat × Bool × Int × Unit) : Ex × List FV × List Blk := (.ret, [.c (.ptr 0 0), .c (.bool r.2.1), .c (.int r.2.2.1)], [.raw 1 [.int x4_0.id, .arr false (.ints x4_0.bank.own), .arr false (.ints x4_0.bank.notes), .int x4_0.bank.locked, .int x4_0.st.way, .int x4_0.st.ver, .int x4_0.st.want, .arr false (.pkts x4_0.st.sent), .arr false (.bools x4_0.st.live), .arr false (.bools x4_0.st.back), .arr false (.ints x4_0.st.got), .arr false (.sts x4_0.past), .arr false (.ints x4_0.knows)]])
def spec_ChainOk_l4.o1 (x4_0 : Ch) (x4_1 : Bool) (x4_2 : Int) (r : Nat × Bool × Int × Unit) : Ex × List FV × List Blk := (.exit 0, [.c (.ptr 0 0), .c (.bool x4_1), .c (.int r.2.2.1)], [.raw 1 [.int x4_0.id, .arr false (.ints x4_0.bank.own), .arr false (.ints x4_0.bank.notes), .int x4_0.bank.locked, .int x4_0.st.way, .int x4_0.st.ver, .int x4_0.st.want, .arr false (.pkts x4_0.st.sent), .arr false (.bools x4_0.st.live), .arr false (.bools x4_0.st.back), .arr false (.ints x4_0.st.got), .arr false (.sts x4_0.past), .arr false (.ints x4_0.knows)]])
def spec_ChainOk_l4.o (x4_0 : Ch) (x4_1 : Bool) (x4_2 : Int) (r : Nat × Bool × Int × Unit) : Ex × List FV × List Blk := pickAlt [(Nat.beq r.1 0, spec_ChainOk_l4.o0 x4_0 x4_1 x4_2 r)] (spec_ChainOk_l4.o1 x4_0 x4_1 x4_2 r)
def spec_ChainOk_l4.d : LDat := ldat 4 [1, 2, 3] [] spec_ChainOk_l4.L (fun s => spec_ChainOk_l4.P s.1 s.2.1 s.2.2.1) (fun s => [(Nat.beq (spec_ChainOk_l4.R s.1 s.2.1 s.2.2.1).1 0, spec_ChainOk_l4.o0 s.1 s.2.1 s.2.2.1 (spec_ChainOk_l4.R s.1 s.2.1 s.2.2.1))]) (fun s => spec_ChainOk_l4.o1 s.1 s.2.1 s.2.2.1 (spec_ChainOk_l4.R s.1 s.2.1 s.2.2.1)) (fun s => spec_ChainOk_l4.M s.1 s.2.1 s.2.2.1)
def spec_ChainOk_l9.S : Nat → Ch → Bool → Int → Nat × Bool × Int × Unit
  | 0, _, _, _ => (0, (false, (0, ())))
  | n + 1, x9_0, x9_1, x9_2 => bif decide (x9_2 < (x9_0.knows.length : Int)) then bif bif !(spec_l6In.S (x9_0.knows.getD (x9_2).toNat 0) 1 90) then true else bif decide (x9_2 > 0) then decide ((x9_0.knows.getD (wrap (x9_2 - 1)).toNat 0) ≥ (x9_0.knows.getD (x9_2).toNat 0)) else false then (0, (false, (x9_2, ()))) else spec_ChainOk_l9.S n x9_0 x9_1 (wrap (x9_2 + 1)) else (1, (false, (x9_2, ())))
def spec_ChainOk_l9.M (x9_0 : Ch) (x9_1 : Bool) (x9_2 : Int) : Nat := ((x9_0.knows.length : Int) - x9_2).toNat
def spec_ChainOk_l9.R (x9_0 : Ch) (x9_1 : Bool) (x9_2 : Int) : Nat × Bool × Int × Unit := spec_ChainOk_l9.S (spec_ChainOk_l9.M x9_0 x9_1 x9_2 + 1) x9_0 x9_1 x9_2
def spec_ChainOk_l9.P (x9_0 : Ch) (x9_1 : Bool) (x9_2 : Int) : Prop := (0 ≤ x9_2) ∧ ((x9_0.knows.length : Int) ≤ 9223372036854775807) ∧ (stsFact x9_0.past) ∧ ((bif bif bif !(spec_l6In.S x9_0.id 1 2) then true else !(spec_BankOk.S x9_0.bank) then true else !(spec_StateOk.S x9_0.st) then true else decide ((x9_0.past.length : Int) > 90)) = false)
def spec_ChainOk_l9.L : FL := fCons (fC (cPtr 1 (cChE false) rfl)) (fCons (fC cBool) (fCons (fC cInt) (fNil)))
def spec_ChainOk_l9.o0 (x9_0 : Ch) (x9_1 : Bool) (x9_2 : Int) (r : Nat × Bool × Int × Unit) : Ex × List FV × List Blk := (.ret, [.c (.ptr 0 0), .c (.bool r.2.1), .c (.int r.2.2.1)], [.raw 1 [.int x9_0.id, .arr false (.ints x9_0.bank.own), .arr false (.ints x9_0.bank.notes), .int x9_0.bank.locked, .int x9_0.st.way, .int x9_0.st.ver, .int x9_0.st.want, .arr false (.pkts x9_0.st.sent), .arr false (.bools x9_0.st.live), .arr false (.bools x9_0.st.back), .arr false (.ints x9_0.st.got), .arr false (.sts x9_0.past), .arr false (.ints x9_0.knows)]])
def spec_ChainOk_l9.o1 (x9_0 : Ch) (x9_1 : Bool) (x9_2 : Int) (r : Nat × Bool × Int × Unit) : Ex × List FV × List Blk := (.exit 2, [.c (.ptr 0 0), .c (.bool x9_1), .c (.int r.2.2.1)], [.raw 1 [.int x9_0.id, .arr false (.ints x9_0.bank.own), .arr false (.ints x9_0.bank.notes), .int x9_0.bank.locked, .int x9_0.st.way, .int x9_0.st.ver, .int x9_0.st.want, .arr false (.pkts x9_0.st.sent), .arr false (.bools x9_0.st.live), .arr false (.bools x9_0.st.back), .arr false (.ints x9_0.st.got), .arr false (.sts x9_0.past), .arr false (.ints x9_0.knows)]])
def spec_ChainOk_l9.o (x9_0 : Ch) (x9_1 : Bool) (x9_2 : Int) (r : Nat × Bool × Int × Unit) : Ex × List FV × List Blk := pickAlt [(Nat.beq r.1 0, spec_ChainOk_l9.o0 x9_0 x9_1 x9_2 r)] (spec_ChainOk_l9.o1 x9_0 x9_1 x9_2 r)
def spec_ChainOk_l9.d : LDat := ldat 9 [1, 2, 4] [] spec_ChainOk_l9.L (fun s => spec_ChainOk_l9.P s.1 s.2.1 s.2.2.1) (fun s => [(Nat.beq (spec_ChainOk_l9.R s.1 s.2.1 s.2.2.1).1 0, spec_ChainOk_l9.o0 s.1 s.2.1 s.2.2.1 (spec_ChainOk_l9.R s.1 s.2.1 s.2.2.1))]) (fun s => spec_ChainOk_l9.o1 s.1 s.2.1 s.2.2.1 (spec_ChainOk_l9.R s.1 s.2.1 s.2.2.1)) (fun s => spec_ChainOk_l9.M s.1 s.2.1 s.2.2.1)
def spec_ChainOk.S (a0 : Ch) : Bool := bif bif bif bif !(spec_l6In.S a0.id 1 2) then true else !(spec_BankOk.S a0.bank) then true else !(spec_StateOk.S a0.st) then true else decide ((a0.past.length : Int) > 90) then (false) else bif Nat.beq (spec_ChainOk_l4.R a0 false 0).1 0 then ((spec_ChainOk_l4.R a0 false 0).2.1) else bif Nat.beq (spec_ChainOk_l9.R a0 false 0).1 0 then ((spec_ChainOk_l9.R a0 false 0).2.1) else (true)
def spec_ChainOk.enc (r : Bool) : AV × List Blk := (.v (.c (.bool r)), [])
def spec_ChainOk.L : ShL := sCons sCh (sNil)
def spec_ChainOk.c : Ctr := vctr 17 spec_ChainOk.L none (fun s => spec_ChainOk.enc (spec_ChainOk.S s.1))
theorem spec_ChainOk_l4.w (x4_0 : Ch) (x4_1 : Bool) (x4_2 : Int) : evBody (envS [spec_l6In.c, spec_BankOk.c, spec_StateOk.c] []) [] (bodyAt Try.f17 0) spec_ChainOk_l4.d (x4_0, (x4_1, (x4_2, ()))) = (And (Imp ((decide (x4_2 < (x4_0.past.length : Int))) = true) (And ((0 : Int) ≤ x4_2 ∧ x4_2 < (x4_0.past.length : Int)) (And (Imp ((!(spec_StateOk.S (x4_0.past.getD (x4_2).toNat zSt))) = true) (spec_ChainOk_l4.o x4_0 x4_1 x4_2 (spec_ChainOk_l4.R x4_0 x4_1 x4_2) = (.ret, [.c (.ptr 0 0), .c (.bool false), .c (.int x4_2)], [.raw 1 [.int x4_0.id, .arr false (.ints x4_0.bank.own), .arr false (.ints x4_0.bank.notes), .int x4_0.bank.locked, .int x4_0.st.way, .int x4_0.st.ver, .int x4_0.st.want, .arr false (.pkts x4_0.st.sent), .arr false (.bools x4_0.st.live), .arr false (.bools x4_0.st.back), .arr false (.ints x4_0.st.got), .arr false (.sts x4_0.past), .arr false (.ints x4_0.knows)]]))) (Imp ((!(spec_StateOk.S (x4_0.past.getD (x4_2).toNat zSt))) = false) (And (spec_ChainOk_l4.P x4_0 x4_1 (wrap (x4_2 + 1))) (And (spec_ChainOk_l4.M x4_0 x4_1 (wrap (x4_2 + 1)) < spec_ChainOk_l4.M x4_0 x4_1 x4_2) (spec_ChainOk_l4.o x4_0 x4_1 (wrap (x4_2 + 1)) (spec_ChainOk_l4.R x4_0 x4_1 (wrap (x4_2 + 1))) = spec_ChainOk_l4.o x4_0 x4_1 x4_2 (spec_ChainOk_l4.R x4_0 x4_1 x4_2)))))))) (Imp ((decide (x4_2 < (x4_0.past.length : Int))) = false) (spec_ChainOk_l4.o x4_0 x4_1 x4_2 (spec_ChainOk_l4.R x4_0 x4_1 x4_2) = (.exit 0, [.c (.ptr 0 0), .c (.bool x4_1), .c (.int x4_2)], [.raw 1 [.int x4_0.id, .arr false (.ints x4_0.bank.own), .arr false (.ints x4_0.bank.notes), .int x4_0.bank.locked, .int x4_0.st.way, .int x4_0.st.ver, .int x4_0.st.want, .arr false (.pkts x4_0.st.sent), .arr false (.bools x4_0.st.live), .arr false (.bools x4_0.st.back), .arr false (.ints x4_0.st.got), .arr false (.sts x4_0.past), .arr false (.ints x4_0.knows)]])))) := by kernel_rfl
theorem spec_ChainOk_l4.v (x4_0 : Ch) (x4_1 : Bool) (x4_2 : Int) (hp : spec_ChainOk_l4.P x4_0 x4_1 x4_2) : And (Imp ((decide (x4_2 < (x4_0.past.length : Int))) = true) (And ((0 : Int) ≤ x4_2 ∧ x4_2 < (x4_0.past.length : Int)) (And (Imp ((!(spec_StateOk.S (x4_0.past.getD (x4_2).toNat zSt))) = true) (spec_ChainOk_l4.o x4_0 x4_1 x4_2 (spec_ChainOk_l4.R x4_0 x4_1 x4_2) = (.ret, [.c (.ptr 0 0), .c (.bool false), .c (.int x4_2)], [.raw 1 [.int x4_0.id, .arr false (.ints x4_0.bank.own), .arr false (.ints x4_0.bank.notes), .int x4_0.bank.locked, .int x4_0.st.way, .int x4_0.st.ver, .int x4_0.st.want, .arr false (.pkts x4_0.st.sent), .arr false (.bools x4_0.st.live), .arr false (.bools x4_0.st.back), .arr false (.ints x4_0.st.got), .arr false (.sts x4_0.past), .arr false (.ints x4_0.knows)]]))) (Imp ((!(spec_StateOk.S (x4_0.past.getD (x4_2).toNat zSt))) = false) (And (spec_ChainOk_l4.P x4_0 x4_1 (wrap (x4_2 + 1))) (And (spec_ChainOk_l4.M x4_0 x4_1 (wrap (x4_2 + 1)) < spec_ChainOk_l4.M x4_0 x4_1 x4_2) (spec_ChainOk_l4.o x4_0 x4_1 (wrap (x4_2 + 1)) (spec_ChainOk_l4.R x4_0 x4_1 (wrap (x4_2 + 1))) = spec_ChainOk_l4.o x4_0 x4_1 x4_2 (spec_ChainOk_l4.R x4_0 x4_1 x4_2)))))))) (Imp ((decide (x4_2 < (x4_0.past.length : Int))) = false) (spec_ChainOk_l4.o x4_0 x4_1 x4_2 (spec_ChainOk_l4.R x4_0 x4_1 x4_2) = (.exit 0, [.c (.ptr 0 0), .c (.bool x4_1), .c (.int x4_2)], [.raw 1 [.int x4_0.id, .arr false (.ints x4_0.bank.own), .arr false (.ints x4_0.bank.notes), .int x4_0.bank.locked, .int x4_0.st.way, .int x4_0.st.ver, .int x4_0.st.want, .arr false (.pkts x4_0.st.sent), .arr false (.bools x4_0.st.live), .arr false (.bools x4_0.st.back), .arr false (.ints x4_0.st.got), .arr false (.sts x4_0.past), .arr false (.ints x4_0.knows)]]))) := by
  simp only [spec_ChainOk_l4.P] at hp
  obtain ⟨p0, p1, p2, p3⟩ := hp
  refine ⟨fun h1 => ?_, fun h1 => ?_⟩
  · refine ⟨by first | assumption | omega | grind [wrap_id, sts_1, sts_2], ?_⟩
    refine ⟨fun h2 => ?_, fun h2 => ?_⟩
    · have e : spec_ChainOk_l4.R x4_0 x4_1 x4_2 = (0, (false, (x4_2, ()))) := by unfold spec_ChainOk_l4.R; rw [spec_ChainOk_l4.S]; exact (cond_t h1).trans <| (cond_t h2).trans <| rfl
      rw [e]
      rfl
    · have hμ : spec_ChainOk_l4.M x4_0 x4_1 x4_2 = spec_ChainOk_l4.M x4_0 x4_1 (wrap (x4_2 + 1)) + 1 := by simp only [spec_ChainOk_l4.M]; first | omega | grind [wrap_id]
      refine ⟨by simp only [spec_ChainOk_l4.P]; refine ⟨(by first | assumption | omega | grind [wrap_id, sts_1, sts_2]), (by first | assumption | omega | grind [wrap_id, sts_1, sts_2]), (by first | assumption | omega | grind [wrap_id, sts_1, sts_2]), (by first | assumption | omega | grind [wrap_id, sts_1, sts_2])⟩, by omega, ?_⟩
      have e : spec_ChainOk_l4.R x4_0 x4_1 x4_2 = spec_ChainOk_l4.R x4_0 x4_1 (wrap (x4_2 + 1)) := by
        have e1 : spec_ChainOk_l4.R x4_0 x4_1 x4_2 = spec_ChainOk_l4.S (spec_ChainOk_l4.M x4_0 x4_1 x4_2) x4_0 x4_1 (wrap (x4_2 + 1)) := by unfold spec_ChainOk_l4.R; rw [spec_ChainOk_l4.S]; exact (cond_t h1).trans <| (cond_f h2).trans <| rfl
        rw [e1, hμ]
        rfl
      rw [e]
      rfl
  · have e : spec_ChainOk_l4.R x4_0 x4_1 x4_2 = (1, (false, (x4_2, ()))) := by unfold spec_ChainOk_l4.R; rw [spec_ChainOk_l4.S]; exact (cond_f h1).trans <| rfl
    rw [e]
    rfl
theorem spec_ChainOk_l4.g (hG : ∀ c ∈ [spec_l6In.c, spec_BankOk.c, spec_StateOk.c], Good Try.prog c) : LGood Try.prog Try.f17.ntmps spec_ChainOk_l4.d.ctr (bodyAt Try.f17 0) := by
  refine lgoodS (sp := []) (LL := []) hG (by kernel_rfl) (by rw [show loopsOf (bodyAt Try.f17 0) = [] from by kernel_rfl]; exact noL rfl) fun s hp => ?_
  refine Eq.mpr (spec_ChainOk_l4.w s.1 s.2.1 s.2.2.1) ?_
  replace hp : spec_ChainOk_l4.P s.1 s.2.1 s.2.2.1 := hp
  exact spec_ChainOk_l4.v _ _ _ hp
def spec_ChainOk_l4.E (x4_0 : Ch) (x4_1 : Bool) (k : Nat) (a : Unit) : Option (Nat × Bool × Int × Unit) := bif !(spec_StateOk.S (x4_0.past.getD k zSt)) then some (0, (false, ((k : Int), ()))) else none
def spec_ChainOk_l4.A (x4_0 : Ch) (x4_1 : Bool) (k : Nat) (a : Unit) : Unit := bif !(spec_StateOk.S (x4_0.past.getD k zSt)) then a else ()
def spec_ChainOk_l4.fin (x4_0 : Ch) (x4_1 : Bool) (k : Nat) (a : Unit) : Nat × Bool × Int × Unit := (1, (false, ((k : Int), ())))
def spec_ChainOk_l4.acc (x4_0 : Ch) (x4_1 : Bool) (a : Unit) : Nat → Unit
  | 0 => a
  | k + 1 => spec_ChainOk_l4.A x4_0 x4_1 k (spec_ChainOk_l4.acc x4_0 x4_1 a k)
theorem spec_ChainOk_l4.law (x4_0 : Ch) (x4_1 : Bool) (a : Unit) (n : Nat) (hT : (x4_0.past.length : Int) = (n : Int)) (hn : (n : Int) ≤ 9223372036854775807) :
    ((∀ k, k < n → spec_ChainOk_l4.E x4_0 x4_1 k (spec_ChainOk_l4.acc x4_0 x4_1 a k) = none) ∧ spec_ChainOk_l4.R x4_0 x4_1 0 = spec_ChainOk_l4.fin x4_0 x4_1 n (spec_ChainOk_l4.acc x4_0 x4_1 a n)) ∨ (∃ k r, k < n ∧ spec_ChainOk_l4.E x4_0 x4_1 k (spec_ChainOk_l4.acc x4_0 x4_1 a k) = some r ∧ (∀ j, j < k → spec_ChainOk_l4.E x4_0 x4_1 j (spec_ChainOk_l4.acc x4_0 x4_1 a j) = none) ∧ spec_ChainOk_l4.R x4_0 x4_1 0 = r) := by
  have hM : spec_ChainOk_l4.M x4_0 x4_1 0 + 1 = n + 1 := by simp only [spec_ChainOk_l4.M]; omega
  unfold spec_ChainOk_l4.R
  rw [hM]
  refine loopE (fun m i b => spec_ChainOk_l4.S m x4_0 x4_1 i) n hn (spec_ChainOk_l4.acc x4_0 x4_1 a) (spec_ChainOk_l4.E x4_0 x4_1 ) (spec_ChainOk_l4.fin x4_0 x4_1 ) fun m k hk => ?_
  have ha : spec_ChainOk_l4.acc x4_0 x4_1 a (k + 1) = spec_ChainOk_l4.A x4_0 x4_1 k (spec_ChainOk_l4.acc x4_0 x4_1 a k) := rfl
  rw [ha]
  generalize spec_ChainOk_l4.acc x4_0 x4_1 a k = b
  simp only [spec_ChainOk_l4.S, spec_ChainOk_l4.E, spec_ChainOk_l4.A, spec_ChainOk_l4.fin, hT, Int.toNat_natCast]
  all_goals grind
theorem spec_ChainOk_l9.w (x9_0 : Ch) (x9_1 : Bool) (x9_2 : Int) : evBody (envS [spec_l6In.c, spec_BankOk.c, spec_StateOk.c] []) [] (bodyAt Try.f17 1) spec_ChainOk_l9.d (x9_0, (x9_1, (x9_2, ()))) = (And (Imp ((decide (x9_2 < (x9_0.knows.length : Int))) = true) (And ((0 : Int) ≤ x9_2 ∧ x9_2 < (x9_0.knows.length : Int)) (And (Imp (And ((decide (x9_2 > 0)) = true) (And ((!(spec_l6In.S (x9_0.knows.getD (x9_2).toNat 0) 1 90)) = false) (True))) ((0 : Int) ≤ (wrap (x9_2 - 1)) ∧ (wrap (x9_2 - 1)) < (x9_0.knows.length : Int))) (And (Imp (And ((decide (x9_2 > 0)) = true) (And ((!(spec_l6In.S (x9_0.knows.getD (x9_2).toNat 0) 1 90)) = false) (True))) ((0 : Int) ≤ x9_2 ∧ x9_2 < (x9_0.knows.length : Int))) (And (Imp ((bif !(spec_l6In.S (x9_0.knows.getD (x9_2).toNat 0) 1 90) then true else bif decide (x9_2 > 0) then decide ((x9_0.knows.getD (wrap (x9_2 - 1)).toNat 0) ≥ (x9_0.knows.getD (x9_2).toNat 0)) else false) = true) (spec_ChainOk_l9.o x9_0 x9_1 x9_2 (spec_ChainOk_l9.R x9_0 x9_1 x9_2) = (.ret, [.c (.ptr 0 0), .c (.bool false), .c (.int x9_2)], [.raw 1 [.int x9_0.id, .arr false (.ints x9_0.bank.own), .arr false (.ints x9_0.bank.notes), .int x9_0.bank.locked, .int x9_0.st.way, .int x9_0.st.ver, .int x9_0.st.want, .arr false (.pkts x9_0.st.sent), .arr false (.bools x9_0.st.live), .arr false (.bools x9_0.st.back), .arr false (.ints x9_0.st.got), .arr false (.sts x9_0.past), .arr false (.ints x9_0.knows)]]))) (Imp ((bif !(spec_l6In.S (x9_0.knows.getD (x9_2).toNat 0) 1 90) then true else bif decide (x9_2 > 0) then decide ((x9_0.knows.getD (wrap (x9_2 - 1)).toNat 0) ≥ (x9_0.knows.getD (x9_2).toNat 0)) else false) = false) (And (spec_ChainOk_l9.P x9_0 x9_1 (wrap (x9_2 + 1))) (And (spec_ChainOk_l9.M x9_0 x9_1 (wrap (x9_2 + 1)) < spec_ChainOk_l9.M x9_0 x9_1 x9_2) (spec_ChainOk_l9.o x9_0 x9_1 (wrap (x9_2 + 1)) (spec_ChainOk_l9.R x9_0 x9_1 (wrap (x9_2 + 1))) = spec_ChainOk_l9.o x9_0 x9_1 x9_2 (spec_ChainOk_l9.R x9_0 x9_1 x9_2)))))))))) (Imp ((decide (x9_2 < (x9_0.knows.length : Int))) = false) (spec_ChainOk_l9.o x9_0 x9_1 x9_2 (spec_ChainOk_l9.R x9_0 x9_1 x9_2) = (.exit 2, [.c (.ptr 0 0), .c (.bool x9_1), .c (.int x9_2)], [.raw 1 [.int x9_0.id, .arr false (.ints x9_0.bank.own), .arr false (.ints x9_0.bank.notes), .int x9_0.bank.locked, .int x9_0.st.way, .int x9_0.st.ver, .int x9_0.st.want, .arr false (.pkts x9_0.st.sent), .arr false (.bools x9_0.st.live), .arr false (.bools x9_0.st.back), .arr false (.ints x9_0.st.got), .arr false (.sts x9_0.past), .arr false (.ints x9_0.knows)]])))) := by kernel_rfl
theorem spec_ChainOk_l9.v (x9_0 : Ch) (x9_1 : Bool) (x9_2 : Int) (hp : spec_ChainOk_l9.P x9_0 x9_1 x9_2) : And (Imp ((decide (x9_2 < (x9_0.knows.length : Int))) = true) (And ((0 : Int) ≤ x9_2 ∧ x9_2 < (x9_0.knows.length : Int)) (And (Imp (And ((decide (x9_2 > 0)) = true) (And ((!(spec_l6In.S (x9_0.knows.getD (x9_2).toNat 0) 1 90)) = false) (True))) ((0 : Int) ≤ (wrap (x9_2 - 1)) ∧ (wrap (x9_2 - 1)) < (x9_0.knows.length : Int))) (And (Imp (And ((decide (x9_2 > 0)) = true) (And ((!(spec_l6In.S (x9_0.knows.getD (x9_2).toNat 0) 1 90)) = false) (True))) ((0 : Int) ≤ x9_2 ∧ x9_2 < (x9_0.knows.length : Int))) (And (Imp ((bif !(spec_l6In.S (x9_0.knows.getD (x9_2).toNat 0) 1 90) then true else bif decide (x9_2 > 0) then decide ((x9_0.knows.getD (wrap (x9_2 - 1)).toNat 0) ≥ (x9_0.knows.getD (x9_2).toNat 0)) else false) = true) (spec_ChainOk_l9.o x9_0 x9_1 x9_2 (spec_ChainOk_l9.R x9_0 x9_1 x9_2) = (.ret, [.c (.ptr 0 0), .c (.bool false), .c (.int x9_2)], [.raw 1 [.int x9_0.id, .arr false (.ints x9_0.bank.own), .arr false (.ints x9_0.bank.notes), .int x9_0.bank.locked, .int x9_0.st.way, .int x9_0.st.ver, .int x9_0.st.want, .arr false (.pkts x9_0.st.sent), .arr false (.bools x9_0.st.live), .arr false (.bools x9_0.st.back), .arr false (.ints x9_0.st.got), .arr false (.sts x9_0.past), .arr false (.ints x9_0.knows)]]))) (Imp ((bif !(spec_l6In.S (x9_0.knows.getD (x9_2).toNat 0) 1 90) then true else bif decide (x9_2 > 0) then decide ((x9_0.knows.getD (wrap (x9_2 - 1)).toNat 0) ≥ (x9_0.knows.getD (x9_2).toNat 0)) else false) = false) (And (spec_ChainOk_l9.P x9_0 x9_1 (wrap (x9_2 + 1))) (And (spec_ChainOk_l9.M x9_0 x9_1 (wrap (x9_2 + 1)) < spec_ChainOk_l9.M x9_0 x9_1 x9_2) (spec_ChainOk_l9.o x9_0 x9_1 (wrap (x9_2 + 1)) (spec_ChainOk_l9.R x9_0 x9_1 (wrap (x9_2 + 1))) = spec_ChainOk_l9.o x9_0 x9_1 x9_2 (spec_ChainOk_l9.R x9_0 x9_1 x9_2)))))))))) (Imp ((decide (x9_2 < (x9_0.knows.length : Int))) = false) (spec_ChainOk_l9.o x9_0 x9_1 x9_2 (spec_ChainOk_l9.R x9_0 x9_1 x9_2) = (.exit 2, [.c (.ptr 0 0), .c (.bool x9_1), .c (.int x9_2)], [.raw 1 [.int x9_0.id, .arr false (.ints x9_0.bank.own), .arr false (.ints x9_0.bank.notes), .int x9_0.bank.locked, .int x9_0.st.way, .int x9_0.st.ver, .int x9_0.st.want, .arr false (.pkts x9_0.st.sent), .arr false (.bools x9_0.st.live), .arr false (.bools x9_0.st.back), .arr false (.ints x9_0.st.got), .arr false (.sts x9_0.past), .arr false (.ints x9_0.knows)]]))) := by
  simp only [spec_ChainOk_l9.P] at hp
  obtain ⟨p0, p1, p2, p3⟩ := hp
  refine ⟨fun h1 => ?_, fun h1 => ?_⟩
  · refine ⟨by first | assumption | omega | grind [wrap_id, sts_1, sts_2], ?_⟩
    refine ⟨by intro hπ; first | assumption | omega | grind [wrap_id, sts_1, sts_2], ?_⟩
    refine ⟨by intro hπ; first | assumption | omega | grind [wrap_id, sts_1, sts_2], ?_⟩
    refine ⟨fun h2 => ?_, fun h2 => ?_⟩
    · have e : spec_ChainOk_l9.R x9_0 x9_1 x9_2 = (0, (false, (x9_2, ()))) := by unfold spec_ChainOk_l9.R; rw [spec_ChainOk_l9.S]; exact (cond_t h1).trans <| (cond_t h2).trans <| rfl
      rw [e]
      rfl
    · have hμ : spec_ChainOk_l9.M x9_0 x9_1 x9_2 = spec_ChainOk_l9.M x9_0 x9_1 (wrap (x9_2 + 1)) + 1 := by simp only [spec_ChainOk_l9.M]; first | omega | grind [wrap_id]
      refine ⟨by simp only [spec_ChainOk_l9.P]; refine ⟨(by first | assumption | omega | grind [wrap_id, sts_1, sts_2]), (by first | assumption | omega | grind [wrap_id, sts_1, sts_2]), (by first | assumption | omega | grind [wrap_id, sts_1, sts_2]), (by first | assumption | omega | grind [wrap_id, sts_1, sts_2])⟩, by omega, ?_⟩
      have e : spec_ChainOk_l9.R x9_0 x9_1 x9_2 = spec_ChainOk_l9.R x9_0 x9_1 (wrap (x9_2 + 1)) := by
        have e1 : spec_ChainOk_l9.R x9_0 x9_1 x9_2 = spec_ChainOk_l9.S (spec_ChainOk_l9.M x9_0 x9_1 x9_2) x9_0 x9_1 (wrap (x9_2 + 1)) := by unfold spec_ChainOk_l9.R; rw [spec_ChainOk_l9.S]; exact (cond_t h1).trans <| (cond_f h2).trans <| rfl
        rw [e1, hμ]
        rfl
      rw [e]
      rfl
  · have e : spec_ChainOk_l9.R x9_0 x9_1 x9_2 = (1, (false, (x9_2, ()))) := by unfold spec_ChainOk_l9.R; rw [spec_ChainOk_l9.S]; exact (cond_f h1).trans <| rfl
    rw [e]
    rfl
theorem spec_ChainOk_l9.g (hG : ∀ c ∈ [spec_l6In.c, spec_BankOk.c, spec_StateOk.c], Good Try.prog c) : LGood Try.prog Try.f17.ntmps spec_ChainOk_l9.d.ctr (bodyAt Try.f17 1) := by
  refine lgoodS (sp := []) (LL := []) hG (by kernel_rfl) (by rw [show loopsOf (bodyAt Try.f17 1) = [] from by kernel_rfl]; exact noL rfl) fun s hp => ?_
  refine Eq.mpr (spec_ChainOk_l9.w s.1 s.2.1 s.2.2.1) ?_
  replace hp : spec_ChainOk_l9.P s.1 s.2.1 s.2.2.1 := hp
  exact spec_ChainOk_l9.v _ _ _ hp
def spec_ChainOk_l9.E (x9_0 : Ch) (x9_1 : Bool) (k : Nat) (a : Unit) : Option (Nat × Bool × Int × Unit) := bif bif !(spec_l6In.S (x9_0.knows.getD k 0) 1 90) then true else bif decide ((k : Int) > 0) then decide ((x9_0.knows.getD (wrap ((k : Int) - 1)).toNat 0) ≥ (x9_0.knows.getD k 0)) else false then some (0, (false, ((k : Int), ()))) else none
def spec_ChainOk_l9.A (x9_0 : Ch) (x9_1 : Bool) (k : Nat) (a : Unit) : Unit := bif bif !(spec_l6In.S (x9_0.knows.getD k 0) 1 90) then true else bif decide ((k : Int) > 0) then decide ((x9_0.knows.getD (wrap ((k : Int) - 1)).toNat 0) ≥ (x9_0.knows.getD k 0)) else false then a else ()
def spec_ChainOk_l9.fin (x9_0 : Ch) (x9_1 : Bool) (k : Nat) (a : Unit) : Nat × Bool × Int × Unit := (1, (false, ((k : Int), ())))
def spec_ChainOk_l9.acc (x9_0 : Ch) (x9_1 : Bool) (a : Unit) : Nat → Unit
  | 0 => a
  | k + 1 => spec_ChainOk_l9.A x9_0 x9_1 k (spec_ChainOk_l9.acc x9_0 x9_1 a k)
theorem spec_ChainOk_l9.law (x9_0 : Ch) (x9_1 : Bool) (a : Unit) (n : Nat) (hT : (x9_0.knows.length : Int) = (n : Int)) (hn : (n : Int) ≤ 9223372036854775807) :
    ((∀ k, k < n → spec_ChainOk_l9.E x9_0 x9_1 k (spec_ChainOk_l9.acc x9_0 x9_1 a k) = none) ∧ spec_ChainOk_l9.R x9_0 x9_1 0 = spec_ChainOk_l9.fin x9_0 x9_1 n (spec_ChainOk_l9.acc x9_0 x9_1 a n)) ∨ (∃ k r, k < n ∧ spec_ChainOk_l9.E x9_0 x9_1 k (spec_ChainOk_l9.acc x9_0 x9_1 a k) = some r ∧ (∀ j, j < k → spec_ChainOk_l9.E x9_0 x9_1 j (spec_ChainOk_l9.acc x9_0 x9_1 a j) = none) ∧ spec_ChainOk_l9.R x9_0 x9_1 0 = r) := by
  have hM : spec_ChainOk_l9.M x9_0 x9_1 0 + 1 = n + 1 := by simp only [spec_ChainOk_l9.M]; omega
  unfold spec_ChainOk_l9.R
  rw [hM]
  refine loopE (fun m i b => spec_ChainOk_l9.S m x9_0 x9_1 i) n hn (spec_ChainOk_l9.acc x9_0 x9_1 a) (spec_ChainOk_l9.E x9_0 x9_1 ) (spec_ChainOk_l9.fin x9_0 x9_1 ) fun m k hk => ?_
  have ha : spec_ChainOk_l9.acc x9_0 x9_1 a (k + 1) = spec_ChainOk_l9.A x9_0 x9_1 k (spec_ChainOk_l9.acc x9_0 x9_1 a k) := rfl
  rw [ha]
  generalize spec_ChainOk_l9.acc x9_0 x9_1 a k = b
  simp only [spec_ChainOk_l9.S, spec_ChainOk_l9.E, spec_ChainOk_l9.A, spec_ChainOk_l9.fin, hT, Int.toNat_natCast]
  all_goals grind
theorem spec_ChainOk.w (a0 : Ch) (K : AV → List Blk → Prop) : evFn (envS [spec_l6In.c, spec_BankOk.c, spec_StateOk.c] []) [spec_ChainOk_l4.d.ctr, spec_ChainOk_l9.d.ctr] [] [] Try.f17 [] (spec_ChainOk.L.enc (a0, ())) K = (And (Imp ((bif bif bif !(spec_l6In.S a0.id 1 2) then true else !(spec_BankOk.S a0.bank) then true else !(spec_StateOk.S a0.st) then true else decide ((a0.past.length : Int) > 90)) = true) (K (.v (.c (.bool false))) ([]))) (Imp ((bif bif bif !(spec_l6In.S a0.id 1 2) then true else !(spec_BankOk.S a0.bank) then true else !(spec_StateOk.S a0.st) then true else decide ((a0.past.length : Int) > 90)) = false) (And (spec_ChainOk_l4.P a0 false 0) (And (Imp (Nat.beq (spec_ChainOk_l4.R a0 false 0).1 0 = true) (K (.v (.c (.bool (spec_ChainOk_l4.R a0 false 0).2.1))) ([]))) (Imp (Nat.beq (spec_ChainOk_l4.R a0 false 0).1 0 = false) (And (spec_ChainOk_l9.P a0 false 0) (And (Imp (Nat.beq (spec_ChainOk_l9.R a0 false 0).1 0 = true) (K (.v (.c (.bool (spec_ChainOk_l9.R a0 false 0).2.1))) ([]))) (Imp (Nat.beq (spec_ChainOk_l9.R a0 false 0).1 0 = false) (K (.v (.c (.bool true))) ([])))))))))) := by kernel_rfl
theorem spec_ChainOk.v (a0 : Ch) (hf : Ch.fact a0 ∧ True) (K : AV → List Blk → Prop) (hK : K (spec_ChainOk.enc (spec_ChainOk.S a0)).1 (spec_ChainOk.enc (spec_ChainOk.S a0)).2) : And (Imp ((bif bif bif !(spec_l6In.S a0.id 1 2) then true else !(spec_BankOk.S a0.bank) then true else !(spec_StateOk.S a0.st) then true else decide ((a0.past.length : Int) > 90)) = true) (K (.v (.c (.bool false))) ([]))) (Imp ((bif bif bif !(spec_l6In.S a0.id 1 2) then true else !(spec_BankOk.S a0.bank) then true else !(spec_StateOk.S a0.st) then true else decide ((a0.past.length : Int) > 90)) = false) (And (spec_ChainOk_l4.P a0 false 0) (And (Imp (Nat.beq (spec_ChainOk_l4.R a0 false 0).1 0 = true) (K (.v (.c (.bool (spec_ChainOk_l4.R a0 false 0).2.1))) ([]))) (Imp (Nat.beq (spec_ChainOk_l4.R a0 false 0).1 0 = false) (And (spec_ChainOk_l9.P a0 false 0) (And (Imp (Nat.beq (spec_ChainOk_l9.R a0 false 0).1 0 = true) (K (.v (.c (.bool (spec_ChainOk_l9.R a0 false 0).2.1))) ([]))) (Imp (Nat.beq (spec_ChainOk_l9.R a0 false 0).1 0 = false) (K (.v (.c (.bool true))) ([]))))))))) := by
  obtain ⟨f0, -⟩ := hf
  obtain ⟨⟨f0_0, f0_1⟩, ⟨f0_2, f0_3, f0_4, f0_5⟩, f0_6, f0_7⟩ := f0
  try simp only [big] at *
  refine ⟨fun h1 => ?_, fun h1 => ?_⟩
  · have e : spec_ChainOk.S a0 = (false) := by unfold spec_ChainOk.S; exact (cond_t h1).trans <| rfl
    rw [e] at hK
    exact hK
  · refine ⟨by simp only [spec_ChainOk_l4.P]; refine ⟨(by first | assumption | omega | grind [wrap_id, sts_1, sts_2]), (by first | assumption | omega | grind [wrap_id, sts_1, sts_2]), (by first | assumption | omega | grind [wrap_id, sts_1, sts_2]), (by first | assumption | omega | grind [wrap_id, sts_1, sts_2])⟩, ?_⟩
    refine ⟨fun h2 => ?_, fun h2 => ?_⟩
    · have e : spec_ChainOk.S a0 = ((spec_ChainOk_l4.R a0 false 0).2.1) := by unfold spec_ChainOk.S; exact (cond_f h1).trans <| (cond_t h2).trans <| rfl
      rw [e] at hK
      exact hK
    · refine ⟨by simp only [spec_ChainOk_l9.P]; refine ⟨(by first | assumption | omega | grind [wrap_id, sts_1, sts_2]), (by first | assumption | omega | grind [wrap_id, sts_1, sts_2]), (by first | assumption | omega | grind [wrap_id, sts_1, sts_2]), (by first | assumption | omega | grind [wrap_id, sts_1, sts_2])⟩, ?_⟩
      refine ⟨fun h3 => ?_, fun h3 => ?_⟩
      · have e : spec_ChainOk.S a0 = ((spec_ChainOk_l9.R a0 false 0).2.1) := by unfold spec_ChainOk.S; exact (cond_f h1).trans <| (cond_f h2).trans <| (cond_t h3).trans <| rfl
        rw [e] at hK
        exact hK
      · have e : spec_ChainOk.S a0 = (true) := by unfold spec_ChainOk.S; exact (cond_f h1).trans <| (cond_f h2).trans <| (cond_f h3).trans <| rfl
        rw [e] at hK
        exact hK
theorem spec_ChainOk.good : Good Try.prog spec_ChainOk.c :=
  vgood (sh := []) (sp := []) (LL := [spec_ChainOk_l4.d.ctr, spec_ChainOk_l9.d.ctr]) (consG spec_l6In.good (consG spec_BankOk.good (consG spec_StateOk.good noG))) (fn := Try.f17) (by kernel_rfl) (by kernel_rfl) (by rw [show loopsOf (bodyOf Try.f17) = [(bodyAt Try.f17 0), (bodyAt Try.f17 1)] from by kernel_rfl]; exact consL (l := spec_ChainOk_l4.d.ctr) (by kernel_rfl) (spec_ChainOk_l4.g (consG spec_l6In.good (consG spec_BankOk.good (consG spec_StateOk.good noG)))) (consL (l := spec_ChainOk_l9.d.ctr) (by kernel_rfl) (spec_ChainOk_l9.g (consG spec_l6In.good (consG spec_BankOk.good (consG spec_StateOk.good noG)))) (noL rfl))) fun s hp hf => by
    exact Eq.mpr (spec_ChainOk.w (s.1) (fun r bs' => And (r = (spec_ChainOk.c.out s).1) (bs' = (spec_ChainOk.c.out s).2))) (spec_ChainOk.v (s.1) hf (fun r bs' => And (r = (spec_ChainOk.c.out s).1) (bs' = (spec_ChainOk.c.out s).2)) ⟨rfl, rfl⟩)
/-! ### impl.ChainOk -/
def impl_ChainOk_l4.S : Nat → Ch → Bool → (List St) → Int → Int → Nat × Bool × Int × Unit
  | 0, _, _, _, _, _ => (0, (false, (0, ())))
  | n + 1, x4_0, x4_1, x4_2, x4_3, x4_4 => bif decide (x4_4 < x4_3) then bif !(impl_StateOk.S (x4_2.getD (x4_4).toNat zSt)) then (0, (false, (x4_4, ()))) else impl_ChainOk_l4.S n x4_0 x4_1 x4_2 x4_3 (wrap (x4_4 + 1)) else (1, (false, (x4_4, ())))
def impl_ChainOk_l4.M (x4_0 : Ch) (x4_1 : Bool) (x4_2 : List St) (x4_3 : Int) (x4_4 : Int) : Nat := (x4_3 - x4_4).toNat
def impl_ChainOk_l4.R (x4_0 : Ch) (x4_1 : Bool) (x4_2 : List St) (x4_3 : Int) (x4_4 : Int) : Nat × Bool × Int × Unit := impl_ChainOk_l4.S (impl_ChainOk_l4.M x4_0 x4_1 x4_2 x4_3 x4_4 + 1) x4_0 x4_1 x4_2 x4_3 x4_4
def impl_ChainOk_l4.P (x4_0 : Ch) (x4_1 : Bool) (x4_2 : List St) (x4_3 : Int) (x4_4 : Int) : Prop := (0 ≤ x4_4) ∧ (x4_3 ≤ 9223372036854775807) ∧ (x4_2 = x4_0.past) ∧ (x4_3 = (x4_0.past.length : Int)) ∧ (stsFact x4_0.past) ∧ (stsFact x4_2) ∧ ((bif bif bif bif x4_0.id != 1 then x4_0.id != 2 else false then true else !(impl_BankOk.S x4_0.bank) then true else !(impl_StateOk.S x4_0.st) then true else decide (x4_3 > 90)) = false)
def impl_ChainOk_l4.L : FL := fCons (fC (cPtr 1 (cChE false) rfl)) (fCons (fC cBool) (fCons (fC (cArr false kSts)) (fCons (fC cInt) (fCons (fC cInt) (fNil)))))
def impl_ChainOk_l4.o0 (x4_0 : Ch) (x4_1 : Bool) (x4_2 : List St) (x4_3 : Int) (x4_4 : Int) (r : Nat × Bool × Int × Unit) : Ex × List FV × List Blk := (.ret, [.c (.ptr 0 0), .c (.bool r.2.1), .c (.arr false (.sts x4_2)), .c (.int x4_3), .c (.int r.2.2.1)], [.raw 1 [.int x4_0.id, .arr false (.ints x4_0.bank.own), .arr false (.ints x4_0.bank.notes), .int x4_0.bank.locked, .int x4_0.st.way, .int x4_0.st.ver, .int x4_0.st.want, .arr false (.pkts x4_0.st.sent), .arr false (.bools x4_0.st.live), .arr false (.bools x4_0.st.back), .arr false (.ints x4_0.st.got), .arr false (.sts x4_0.past), .arr false (.ints x4_0.knows)]])
def impl_ChainOk_l4.o1 (x4_0 : Ch) (x4_1 : Bool) (x4_2 : List St) (x4_3 : Int) (x4_4 : Int) (r : Nat × Bool × Int × Unit) : Ex × List FV × List Blk := (.exit 0, [.c (.ptr 0 0), .c (.bool x4_1), .c (.arr false (.sts x4_2)), .c (.int x4_3), .c (.int r.2.2.1)], [.raw 1 [.int x4_0.id, .arr false (.ints x4_0.bank.own), .arr false (.ints x4_0.bank.notes), .int x4_0.bank.locked, .int x4_0.st.way, .int x4_0.st.ver, .int x4_0.st.want, .arr false (.pkts x4_0.st.sent), .arr false (.bools x4_0.st.live), .arr false (.bools x4_0.st.back), .arr false (.ints x4_0.st.got), .arr false (.sts x4_0.past), .arr false (.ints x4_0.knows)]])
def impl_ChainOk_l4.o (x4_0 : Ch) (x4_1 : Bool) (x4_2 : List St) (x4_3 : Int) (x4_4 : Int) (r : Nat × Bool × Int × Unit) : Ex × List FV × List Blk := pickAlt [(Nat.beq r.1 0, impl_ChainOk_l4.o0 x4_0 x4_1 x4_2 x4_3 x4_4 r)] (impl_ChainOk_l4.o1 x4_0 x4_1 x4_2 x4_3 x4_4 r)
def impl_ChainOk_l4.d : LDat := ldat 4 [1, 2, 35, 36, 37] [] impl_ChainOk_l4.L (fun s => impl_ChainOk_l4.P s.1 s.2.1 s.2.2.1 s.2.2.2.1 s.2.2.2.2.1) (fun s => [(Nat.beq (impl_ChainOk_l4.R s.1 s.2.1 s.2.2.1 s.2.2.2.1 s.2.2.2.2.1).1 0, impl_ChainOk_l4.o0 s.1 s.2.1 s.2.2.1 s.2.2.2.1 s.2.2.2.2.1 (impl_ChainOk_l4.R s.1 s.2.1 s.2.2.1 s.2.2.2.1 s.2.2.2.2.1))]) (fun s => impl_ChainOk_l4.o1 s.1 s.2.1 s.2.2.1 s.2.2.2.1 s.2.2.2.2.1 (impl_ChainOk_l4.R s.1 s.2.1 s.2.2.1 s.2.2.2.1 s.2.2.2.2.1)) (fun s => impl_ChainOk_l4.M s.1 s.2.1 s.2.2.1 s.2.2.2.1 s.2.2.2.2.1)
def impl_ChainOk_l11.S : Nat → Bool → Int → (List Int) → Int → Int → Nat × Bool × Int × Int × Unit
  | 0, _, _, _, _, _ => (0, (false, (0, (0, ()))))
  | n + 1, x11_0, x11_1, x11_2, x11_3, x11_4 => bif decide (x11_4 < x11_3) then bif bif decide ((x11_2.getD (x11_4).toNat 0) ≤ x11_1) then true else decide ((x11_2.getD (x11_4).toNat 0) > 90) then (0, (false, (x11_1, (x11_4, ())))) else impl_ChainOk_l11.S n x11_0 (x11_2.getD (x11_4).toNat 0) x11_2 x11_3 (wrap (x11_4 + 1)) else (1, (false, (x11_1, (x11_4, ()))))
def impl_ChainOk_l11.M (x11_0 : Bool) (x11_1 : Int) (x11_2 : List Int) (x11_3 : Int) (x11_4 : Int) : Nat := (x11_3 - x11_4).toNat
def impl_ChainOk_l11.R (x11_0 : Bool) (x11_1 : Int) (x11_2 : List Int) (x11_3 : Int) (x11_4 : Int) : Nat × Bool × Int × Int × Unit := impl_ChainOk_l11.S (impl_ChainOk_l11.M x11_0 x11_1 x11_2 x11_3 x11_4 + 1) x11_0 x11_1 x11_2 x11_3 x11_4
def impl_ChainOk_l11.P (x11_0 : Bool) (x11_1 : Int) (x11_2 : List Int) (x11_3 : Int) (x11_4 : Int) : Prop := (0 ≤ x11_4) ∧ (x11_3 ≤ 9223372036854775807) ∧ (x11_3 = (x11_2.length : Int))
def impl_ChainOk_l11.L : FL := fCons (fC cBool) (fCons (fC cInt) (fCons (fC (cArr false kInts)) (fCons (fC cInt) (fCons (fC cInt) (fNil)))))
def impl_ChainOk_l11.o0 (x11_0 : Bool) (x11_1 : Int) (x11_2 : List Int) (x11_3 : Int) (x11_4 : Int) (r : Nat × Bool × Int × Int × Unit) : Ex × List FV × List Blk := (.ret, [.c (.bool r.2.1), .c (.int r.2.2.1), .c (.arr false (.ints x11_2)), .c (.int x11_3), .c (.int r.2.2.2.1)], [])
def impl_ChainOk_l11.o1 (x11_0 : Bool) (x11_1 : Int) (x11_2 : List Int) (x11_3 : Int) (x11_4 : Int) (r : Nat × Bool × Int × Int × Unit) : Ex × List FV × List Blk := (.exit 2, [.c (.bool x11_0), .c (.int r.2.2.1), .c (.arr false (.ints x11_2)), .c (.int x11_3), .c (.int r.2.2.2.1)], [])
def impl_ChainOk_l11.o (x11_0 : Bool) (x11_1 : Int) (x11_2 : List Int) (x11_3 : Int) (x11_4 : Int) (r : Nat × Bool × Int × Int × Unit) : Ex × List FV × List Blk := pickAlt [(Nat.beq r.1 0, impl_ChainOk_l11.o0 x11_0 x11_1 x11_2 x11_3 x11_4 r)] (impl_ChainOk_l11.o1 x11_0 x11_1 x11_2 x11_3 x11_4 r)
def impl_ChainOk_l11.d : LDat := ldat 11 [2, 5, 46, 47, 48] [] impl_ChainOk_l11.L (fun s => impl_ChainOk_l11.P s.1 s.2.1 s.2.2.1 s.2.2.2.1 s.2.2.2.2.1) (fun s => [(Nat.beq (impl_ChainOk_l11.R s.1 s.2.1 s.2.2.1 s.2.2.2.1 s.2.2.2.2.1).1 0, impl_ChainOk_l11.o0 s.1 s.2.1 s.2.2.1 s.2.2.2.1 s.2.2.2.2.1 (impl_ChainOk_l11.R s.1 s.2.1 s.2.2.1 s.2.2.2.1 s.2.2.2.2.1))]) (fun s => impl_ChainOk_l11.o1 s.1 s.2.1 s.2.2.1 s.2.2.2.1 s.2.2.2.2.1 (impl_ChainOk_l11.R s.1 s.2.1 s.2.2.1 s.2.2.2.1 s.2.2.2.2.1)) (fun s => impl_ChainOk_l11.M s.1 s.2.1 s.2.2.1 s.2.2.2.1 s.2.2.2.2.1)
def impl_ChainOk.S (a0 : Ch) : Bool := bif bif bif bif bif a0.id != 1 then a0.id != 2 else false then true else !(impl_BankOk.S a0.bank) then true else !(impl_StateOk.S a0.st) then true else decide ((a0.past.length : Int) > 90) then (false) else bif Nat.beq (impl_ChainOk_l4.R a0 false a0.past (a0.past.length : Int) 0).1 0 then ((impl_ChainOk_l4.R a0 false a0.past (a0.past.length : Int) 0).2.1) else bif Nat.beq (impl_ChainOk_l11.R false 0 a0.knows (a0.knows.length : Int) 0).1 0 then ((impl_ChainOk_l11.R false 0 a0.knows (a0.knows.length : Int) 0).2.1) else (true)
def impl_ChainOk.enc (r : Bool) : AV × List Blk := (.v (.c (.bool r)), [])
def impl_ChainOk.L : ShL := sCons sCh (sNil)
def impl_ChainOk.c : Ctr := vctr 16 impl_ChainOk.L none (fun s => impl_ChainOk.enc (impl_ChainOk.S s.1))
theorem impl_ChainOk_l4.w (x4_0 : Ch) (x4_1 : Bool) (x4_2 : List St) (x4_3 : Int) (x4_4 : Int) : evBody (envS [impl_BankOk.c, impl_StateOk.c] []) [] (bodyAt Try.f16 0) impl_ChainOk_l4.d (x4_0, (x4_1, (x4_2, (x4_3, (x4_4, ()))))) = (And (Imp ((decide (x4_4 < x4_3)) = true) (And ((0 : Int) ≤ x4_4 ∧ x4_4 < (x4_2.length : Int)) (And (Imp ((!(impl_StateOk.S (x4_2.getD (x4_4).toNat zSt))) = true) (impl_ChainOk_l4.o x4_0 x4_1 x4_2 x4_3 x4_4 (impl_ChainOk_l4.R x4_0 x4_1 x4_2 x4_3 x4_4) = (.ret, [.c (.ptr 0 0), .c (.bool false), .c (.arr false (.sts x4_2)), .c (.int x4_3), .c (.int x4_4)], [.raw 1 [.int x4_0.id, .arr false (.ints x4_0.bank.own), .arr false (.ints x4_0.bank.notes), .int x4_0.bank.locked, .int x4_0.st.way, .int x4_0.st.ver, .int x4_0.st.want, .arr false (.pkts x4_0.st.sent), .arr false (.bools x4_0.st.live), .arr false (.bools x4_0.st.back), .arr false (.ints x4_0.st.got), .arr false (.sts x4_0.past), .arr false (.ints x4_0.knows)]]))) (Imp ((!(impl_StateOk.S (x4_2.getD (x4_4).toNat zSt))) = false) (And (impl_ChainOk_l4.P x4_0 x4_1 x4_2 x4_3 (wrap (x4_4 + 1))) (And (impl_ChainOk_l4.M x4_0 x4_1 x4_2 x4_3 (wrap (x4_4 + 1)) < impl_ChainOk_l4.M x4_0 x4_1 x4_2 x4_3 x4_4) (impl_ChainOk_l4.o x4_0 x4_1 x4_2 x4_3 (wrap (x4_4 + 1)) (impl_ChainOk_l4.R x4_0 x4_1 x4_2 x4_3 (wrap (x4_4 + 1))) = impl_ChainOk_l4.o x4_0 x4_1 x4_2 x4_3 x4_4 (impl_ChainOk_l4.R x4_0 x4_1 x4_2 x4_3 x4_4)))))))) (Imp ((decide (x4_4 < x4_3)) = false) (impl_ChainOk_l4.o x4_0 x4_1 x4_2 x4_3 x4_4 (impl_ChainOk_l4.R x4_0 x4_1 x4_2 x4_3 x4_4) = (.exit 0, [.c (.ptr 0 0), .c (.bool x4_1), .c (.arr false (.sts x4_2)), .c (.int x4_3), .c (.int x4_4)], [.raw 1 [.int x4_0.id, .arr false (.ints x4_0.bank.own), .arr false (.ints x4_0.bank.notes), .int x4_0.bank.locked, .int x4_0.st.way, .int x4_0.st.ver, .int x4_0.st.want, .arr false (.pkts x4_0.st.sent), .arr false (.bools x4_0.st.live), .arr false (.bools x4_0.st.back), .arr false (.ints x4_0.st.got), .arr false (.sts x4_0.past), .arr false (.ints x4_0.knows)]])))) := by kernel_rfl
theorem impl_ChainOk_l4.v (x4_0 : Ch) (x4_1 : Bool) (x4_2 : List St) (x4_3 : Int) (x4_4 : Int) (hp : impl_ChainOk_l4.P x4_0 x4_1 x4_2 x4_3 x4_4) : And (Imp ((decide (x4_4 < x4_3)) = true) (And ((0 : Int) ≤ x4_4 ∧ x4_4 < (x4_2.length : Int)) (And (Imp ((!(impl_StateOk.S (x4_2.getD (x4_4).toNat zSt))) = true) (impl_ChainOk_l4.o x4_0 x4_1 x4_2 x4_3 x4_4 (impl_ChainOk_l4.R x4_0 x4_1 x4_2 x4_3 x4_4) = (.ret, [.c (.ptr 0 0), .c (.bool false), .c (.arr false (.sts x4_2)), .c (.int x4_3), .c (.int x4_4)], [.raw 1 [.int x4_0.id, .arr false (.ints x4_0.bank.own), .arr false (.ints x4_0.bank.notes), .int x4_0.bank.locked, .int x4_0.st.way, .int x4_0.st.ver, .int x4_0.st.want, .arr false (.pkts x4_0.st.sent), .arr false (.bools x4_0.st.live), .arr false (.bools x4_0.st.back), .arr false (.ints x4_0.st.got), .arr false (.sts x4_0.past), .arr false (.ints x4_0.knows)]]))) (Imp ((!(impl_StateOk.S (x4_2.getD (x4_4).toNat zSt))) = false) (And (impl_ChainOk_l4.P x4_0 x4_1 x4_2 x4_3 (wrap (x4_4 + 1))) (And (impl_ChainOk_l4.M x4_0 x4_1 x4_2 x4_3 (wrap (x4_4 + 1)) < impl_ChainOk_l4.M x4_0 x4_1 x4_2 x4_3 x4_4) (impl_ChainOk_l4.o x4_0 x4_1 x4_2 x4_3 (wrap (x4_4 + 1)) (impl_ChainOk_l4.R x4_0 x4_1 x4_2 x4_3 (wrap (x4_4 + 1))) = impl_ChainOk_l4.o x4_0 x4_1 x4_2 x4_3 x4_4 (impl_ChainOk_l4.R x4_0 x4_1 x4_2 x4_3 x4_4)))))))) (Imp ((decide (x4_4 < x4_3)) = false) (impl_ChainOk_l4.o x4_0 x4_1 x4_2 x4_3 x4_4 (impl_ChainOk_l4.R x4_0 x4_1 x4_2 x4_3 x4_4) = (.exit 0, [.c (.ptr 0 0), .c (.bool x4_1), .c (.arr false (.sts x4_2)), .c (.int x4_3), .c (.int x4_4)], [.raw 1 [.int x4_0.id, .arr false (.ints x4_0.bank.own), .arr false (.ints x4_0.bank.notes), .int x4_0.bank.locked, .int x4_0.st.way, .int x4_0.st.ver, .int x4_0.st.want, .arr false (.pkts x4_0.st.sent), .arr false (.bools x4_0.st.live), .arr false (.bools x4_0.st.back), .arr false (.ints x4_0.st.got), .arr false (.sts x4_0.past), .arr false (.ints x4_0.knows)]]))) := by
  simp only [impl_ChainOk_l4.P] at hp
  obtain ⟨p0, p1, p2, p3, p4, p5, p6⟩ := hp
  refine ⟨fun h1 => ?_, fun h1 => ?_⟩
  · refine ⟨by first | assumption | omega | grind [wrap_id, sts_1, sts_2], ?_⟩
    refine ⟨fun h2 => ?_, fun h2 => ?_⟩
    · have e : impl_ChainOk_l4.R x4_0 x4_1 x4_2 x4_3 x4_4 = (0, (false, (x4_4, ()))) := by unfold impl_ChainOk_l4.R; rw [impl_ChainOk_l4.S]; exact (cond_t h1).trans <| (cond_t h2).trans <| rfl
      rw [e]
      rfl
    · have hμ : impl_ChainOk_l4.M x4_0 x4_1 x4_2 x4_3 x4_4 = impl_ChainOk_l4.M x4_0 x4_1 x4_2 x4_3 (wrap (x4_4 + 1)) + 1 := by simp only [impl_ChainOk_l4.M]; first | omega | grind [wrap_id]
      refine ⟨by simp only [impl_ChainOk_l4.P]; refine ⟨(by first | assumption | omega | grind [wrap_id, sts_1, sts_2]), (by first | assumption | omega | grind [wrap_id, sts_1, sts_2]), (by first | assumption | omega | grind [wrap_id, sts_1, sts_2]), (by first | assumption | omega | grind [wrap_id, sts_1, sts_2]), (by first | assumption | omega | grind [wrap_id, sts_1, sts_2]), (by first | assumption | omega | grind [wrap_id, sts_1, sts_2]), (by first | assumption | omega | grind [wrap_id, sts_1, sts_2])⟩, by omega, ?_⟩
      have e : impl_ChainOk_l4.R x4_0 x4_1 x4_2 x4_3 x4_4 = impl_ChainOk_l4.R x4_0 x4_1 x4_2 x4_3 (wrap (x4_4 + 1)) := by
        have e1 : impl_ChainOk_l4.R x4_0 x4_1 x4_2 x4_3 x4_4 = impl_ChainOk_l4.S (impl_ChainOk_l4.M x4_0 x4_1 x4_2 x4_3 x4_4) x4_0 x4_1 x4_2 x4_3 (wrap (x4_4 + 1)) := by unfold impl_ChainOk_l4.R; rw [impl_ChainOk_l4.S]; exact (cond_t h1).trans <| (cond_f h2).trans <| rfl
        rw [e1, hμ]
        rfl
      rw [e]
      rfl
  · have e : impl_ChainOk_l4.R x4_0 x4_1 x4_2 x4_3 x4_4 = (1, (false, (x4_4, ()))) := by unfold impl_ChainOk_l4.R; rw [impl_ChainOk_l4.S]; exact (cond_f h1).trans <| rfl
    rw [e]
    rfl
theorem impl_ChainOk_l4.g (hG : ∀ c ∈ [impl_BankOk.c, impl_StateOk.c], Good Try.prog c) : LGood Try.prog Try.f16.ntmps impl_ChainOk_l4.d.ctr (bodyAt Try.f16 0) := by
  refine lgoodS (sp := []) (LL := []) hG (by kernel_rfl) (by rw [show loopsOf (bodyAt Try.f16 0) = [] from by kernel_rfl]; exact noL rfl) fun s hp => ?_
  refine Eq.mpr (impl_ChainOk_l4.w s.1 s.2.1 s.2.2.1 s.2.2.2.1 s.2.2.2.2.1) ?_
  replace hp : impl_ChainOk_l4.P s.1 s.2.1 s.2.2.1 s.2.2.2.1 s.2.2.2.2.1 := hp
  exact impl_ChainOk_l4.v _ _ _ _ _ hp
def impl_ChainOk_l4.E (x4_0 : Ch) (x4_1 : Bool) (x4_2 : List St) (x4_3 : Int) (k : Nat) (a : Unit) : Option (Nat × Bool × Int × Unit) := bif !(impl_StateOk.S (x4_2.getD k zSt)) then some (0, (false, ((k : Int), ()))) else none
def impl_ChainOk_l4.A (x4_0 : Ch) (x4_1 : Bool) (x4_2 : List St) (x4_3 : Int) (k : Nat) (a : Unit) : Unit := bif !(impl_StateOk.S (x4_2.getD k zSt)) then a else ()
def impl_ChainOk_l4.fin (x4_0 : Ch) (x4_1 : Bool) (x4_2 : List St) (x4_3 : Int) (k : Nat) (a : Unit) : Nat × Bool × Int × Unit := (1, (false, ((k : Int), ())))
def impl_ChainOk_l4.acc (x4_0 : Ch) (x4_1 : Bool) (x4_2 : List St) (x4_3 : Int) (a : Unit) : Nat → Unit
  | 0 => a
  | k + 1 => impl_ChainOk_l4.A x4_0 x4_1 x4_2 x4_3 k (impl_ChainOk_l4.acc x4_0 x4_1 x4_2 x4_3 a k)
theorem impl_ChainOk_l4.law (x4_0 : Ch) (x4_1 : Bool) (x4_2 : List St) (x4_3 : Int) (a : Unit) (n : Nat) (hT : x4_3 = (n : Int)) (hn : (n : Int) ≤ 9223372036854775807) :
    ((∀ k, k < n → impl_ChainOk_l4.E x4_0 x4_1 x4_2 x4_3 k (impl_ChainOk_l4.acc x4_0 x4_1 x4_2 x4_3 a k) = none) ∧ impl_ChainOk_l4.R x4_0 x4_1 x4_2 x4_3 0 = impl_ChainOk_l4.fin x4_0 x4_1 x4_2 x4_3 n (impl_ChainOk_l4.acc x4_0 x4_1 x4_2 x4_3 a n)) ∨ (∃ k r, k < n ∧ impl_ChainOk_l4.E x4_0 x4_1 x4_2 x4_3 k (impl_ChainOk_l4.acc x4_0 x4_1 x4_2 x4_3 a k) = some r ∧ (∀ j, j < k → impl_ChainOk_l4.E x4_0 x4_1 x4_2 x4_3 j (impl_ChainOk_l4.acc x4_0 x4_1 x4_2 x4_3 a j) = none) ∧ impl_ChainOk_l4.R x4_0 x4_1 x4_2 x4_3 0 = r) := by
  have hM : impl_ChainOk_l4.M x4_0 x4_1 x4_2 x4_3 0 + 1 = n + 1 := by simp only [impl_ChainOk_l4.M]; omega
  unfold impl_ChainOk_l4.R
  rw [hM]
  refine loopE (fun m i b => impl_ChainOk_l4.S m x4_0 x4_1 x4_2 x4_3 i) n hn (impl_ChainOk_l4.acc x4_0 x4_1 x4_2 x4_3 a) (impl_ChainOk_l4.E x4_0 x4_1 x4_2 x4_3 ) (impl_ChainOk_l4.fin x4_0 x4_1 x4_2 x4_3 ) fun m k hk => ?_
  have ha : impl_ChainOk_l4.acc x4_0 x4_1 x4_2 x4_3 a (k + 1) = impl_ChainOk_l4.A x4_0 x4_1 x4_2 x4_3 k (impl_ChainOk_l4.acc x4_0 x4_1 x4_2 x4_3 a k) := rfl
  rw [ha]
  generalize impl_ChainOk_l4.acc x4_0 x4_1 x4_2 x4_3 a k = b
  simp only [impl_ChainOk_l4.S, impl_ChainOk_l4.E, impl_ChainOk_l4.A, impl_ChainOk_l4.fin, hT, Int.toNat_natCast]
  all_goals grind
theorem impl_ChainOk_l11.w (x11_0 : Bool) (x11_1 : Int) (x11_2 : List Int) (x11_3 : Int) (x11_4 : Int) : evBody (envS [impl_BankOk.c, impl_StateOk.c] []) [] (bodyAt Try.f16 1) impl_ChainOk_l11.d (x11_0, (x11_1, (x11_2, (x11_3, (x11_4, ()))))) = (And (Imp ((decide (x11_4 < x11_3)) = true) (And ((0 : Int) ≤ x11_4 ∧ x11_4 < (x11_2.length : Int)) (And (Imp ((bif decide ((x11_2.getD (x11_4).toNat 0) ≤ x11_1) then true else decide ((x11_2.getD (x11_4).toNat 0) > 90)) = true) (impl_ChainOk_l11.o x11_0 x11_1 x11_2 x11_3 x11_4 (impl_ChainOk_l11.R x11_0 x11_1 x11_2 x11_3 x11_4) = (.ret, [.c (.bool false), .c (.int x11_1), .c (.arr false (.ints x11_2)), .c (.int x11_3), .c (.int x11_4)], []))) (Imp ((bif decide ((x11_2.getD (x11_4).toNat 0) ≤ x11_1) then true else decide ((x11_2.getD (x11_4).toNat 0) > 90)) = false) (And (impl_ChainOk_l11.P x11_0 (x11_2.getD (x11_4).toNat 0) x11_2 x11_3 (wrap (x11_4 + 1))) (And (impl_ChainOk_l11.M x11_0 (x11_2.getD (x11_4).toNat 0) x11_2 x11_3 (wrap (x11_4 + 1)) < impl_ChainOk_l11.M x11_0 x11_1 x11_2 x11_3 x11_4) (impl_ChainOk_l11.o x11_0 (x11_2.getD (x11_4).toNat 0) x11_2 x11_3 (wrap (x11_4 + 1)) (impl_ChainOk_l11.R x11_0 (x11_2.getD (x11_4).toNat 0) x11_2 x11_3 (wrap (x11_4 + 1))) = impl_ChainOk_l11.o x11_0 x11_1 x11_2 x11_3 x11_4 (impl_ChainOk_l11.R x11_0 x11_1 x11_2 x11_3 x11_4)))))))) (Imp ((decide (x11_4 < x11_3)) = false) (impl_ChainOk_l11.o x11_0 x11_1 x11_2 x11_3 x11_4 (impl_ChainOk_l11.R x11_0 x11_1 x11_2 x11_3 x11_4) = (.exit 2, [.c (.bool x11_0), .c (.int x11_1), .c (.arr false (.ints x11_2)), .c (.int x11_3), .c (.int x11_4)], [])))) := by kernel_rfl
theorem impl_ChainOk_l11.v (x11_0 : Bool) (x11_1 : Int) (x11_2 : List Int) (x11_3 : Int) (x11_4 : Int) (hp : impl_ChainOk_l11.P x11_0 x11_1 x11_2 x11_3 x11_4) : And (Imp ((decide (x11_4 < x11_3)) = true) (And ((0 : Int) ≤ x11_4 ∧ x11_4 < (x11_2.length : Int)) (And (Imp ((bif decide ((x11_2.getD (x11_4).toNat 0) ≤ x11_1) then true else decide ((x11_2.getD (x11_4).toNat 0) > 90)) = true) (impl_ChainOk_l11.o x11_0 x11_1 x11_2 x11_3 x11_4 (impl_ChainOk_l11.R x11_0 x11_1 x11_2 x11_3 x11_4) = (.ret, [.c (.bool false), .c (.int x11_1), .c (.arr false (.ints x11_2)), .c (.int x11_3), .c (.int x11_4)], []))) (Imp ((bif decide ((x11_2.getD (x11_4).toNat 0) ≤ x11_1) then true else decide ((x11_2.getD (x11_4).toNat 0) > 90)) = false) (And (impl_ChainOk_l11.P x11_0 (x11_2.getD (x11_4).toNat 0) x11_2 x11_3 (wrap (x11_4 + 1))) (And (impl_ChainOk_l11.M x11_0 (x11_2.getD (x11_4).toNat 0) x11_2 x11_3 (wrap (x11_4 + 1)) < impl_ChainOk_l11.M x11_0 x11_1 x11_2 x11_3 x11_4) (impl_ChainOk_l11.o x11_0 (x11_2.getD (x11_4).toNat 0) x11_2 x11_3 (wrap (x11_4 + 1)) (impl_ChainOk_l11.R x11_0 (x11_2.getD (x11_4).toNat 0) x11_2 x11_3 (wrap (x11_4 + 1))) = impl_ChainOk_l11.o x11_0 x11_1 x11_2 x11_3 x11_4 (impl_ChainOk_l11.R x11_0 x11_1 x11_2 x11_3 x11_4)))))))) (Imp ((decide (x11_4 < x11_3)) = false) (impl_ChainOk_l11.o x11_0 x11_1 x11_2 x11_3 x11_4 (impl_ChainOk_l11.R x11_0 x11_1 x11_2 x11_3 x11_4) = (.exit 2, [.c (.bool x11_0), .c (.int x11_1), .c (.arr false (.ints x11_2)), .c (.int x11_3), .c (.int x11_4)], []))) := by
  simp only [impl_ChainOk_l11.P] at hp
  obtain ⟨p0, p1, p2⟩ := hp
  refine ⟨fun h1 => ?_, fun h1 => ?_⟩
  · refine ⟨by first | assumption | omega | grind [wrap_id, sts_1, sts_2], ?_⟩
    refine ⟨fun h2 => ?_, fun h2 => ?_⟩
    · have e : impl_ChainOk_l11.R x11_0 x11_1 x11_2 x11_3 x11_4 = (0, (false, (x11_1, (x11_4, ())))) := by unfold impl_ChainOk_l11.R; rw [impl_ChainOk_l11.S]; exact (cond_t h1).trans <| (cond_t h2).trans <| rfl
      rw [e]
      rfl
    · have hμ : impl_ChainOk_l11.M x11_0 x11_1 x11_2 x11_3 x11_4 = impl_ChainOk_l11.M x11_0 (x11_2.getD (x11_4).toNat 0) x11_2 x11_3 (wrap (x11_4 + 1)) + 1 := by simp only [impl_ChainOk_l11.M]; first | omega | grind [wrap_id]
      refine ⟨by simp only [impl_ChainOk_l11.P]; refine ⟨(by first | assumption | omega | grind [wrap_id, sts_1, sts_2]), (by first | assumption | omega | grind [wrap_id, sts_1, sts_2]), (by first | assumption | omega | grind [wrap_id, sts_1, sts_2])⟩, by omega, ?_⟩
      have e : impl_ChainOk_l11.R x11_0 x11_1 x11_2 x11_3 x11_4 = impl_ChainOk_l11.R x11_0 (x11_2.getD (x11_4).toNat 0) x11_2 x11_3 (wrap (x11_4 + 1)) := by
        have e1 : impl_ChainOk_l11.R x11_0 x11_1 x11_2 x11_3 x11_4 = impl_ChainOk_l11.S (impl_ChainOk_l11.M x11_0 x11_1 x11_2 x11_3 x11_4) x11_0 (x11_2.getD (x11_4).toNat 0) x11_2 x11_3 (wrap (x11_4 + 1)) := by unfold impl_ChainOk_l11.R; rw [impl_ChainOk_l11.S]; exact (cond_t h1).trans <| (cond_f h2).trans <| rfl
        rw [e1, hμ]
        rfl
      rw [e]
      rfl
  · have e : impl_ChainOk_l11.R x11_0 x11_1 x11_2 x11_3 x11_4 = (1, (false, (x11_1, (x11_4, ())))) := by unfold impl_ChainOk_l11.R; rw [impl_ChainOk_l11.S]; exact (cond_f h1).trans <| rfl
    rw [e]
    rfl
theorem impl_ChainOk_l11.g (hG : ∀ c ∈ [impl_BankOk.c, impl_StateOk.c], Good Try.prog c) : LGood Try.prog Try.f16.ntmps impl_ChainOk_l11.d.ctr (bodyAt Try.f16 1) := by
  refine lgoodS (sp := []) (LL := []) hG (by kernel_rfl) (by rw [show loopsOf (bodyAt Try.f16 1) = [] from by kernel_rfl]; exact noL rfl) fun s hp => ?_
  refine Eq.mpr (impl_ChainOk_l11.w s.1 s.2.1 s.2.2.1 s.2.2.2.1 s.2.2.2.2.1) ?_
  replace hp : impl_ChainOk_l11.P s.1 s.2.1 s.2.2.1 s.2.2.2.1 s.2.2.2.2.1 := hp
  exact impl_ChainOk_l11.v _ _ _ _ _ hp
def impl_ChainOk_l11.E (x11_0 : Bool) (x11_2 : List Int) (x11_3 : Int) (k : Nat) (a : Int) : Option (Nat × Bool × Int × Int × Unit) := bif bif decide ((x11_2.getD k 0) ≤ a) then true else decide ((x11_2.getD k 0) > 90) then some (0, (false, (a, ((k : Int), ())))) else none
def impl_ChainOk_l11.A (x11_0 : Bool) (x11_2 : List Int) (x11_3 : Int) (k : Nat) (a : Int) : Int := bif bif decide ((x11_2.getD k 0) ≤ a) then true else decide ((x11_2.getD k 0) > 90) then a else (x11_2.getD k 0)
def impl_ChainOk_l11.fin (x11_0 : Bool) (x11_2 : List Int) (x11_3 : Int) (k : Nat) (a : Int) : Nat × Bool × Int × Int × Unit := (1, (false, (a, ((k : Int), ()))))
def impl_ChainOk_l11.acc (x11_0 : Bool) (x11_2 : List Int) (x11_3 : Int) (a : Int) : Nat → Int
  | 0 => a
  | k + 1 => impl_ChainOk_l11.A x11_0 x11_2 x11_3 k (impl_ChainOk_l11.acc x11_0 x11_2 x11_3 a k)
theorem impl_ChainOk_l11.law (x11_0 : Bool) (x11_2 : List Int) (x11_3 : Int) (a : Int) (n : Nat) (hT : x11_3 = (n : Int)) (hn : (n : Int) ≤ 9223372036854775807) :
    ((∀ k, k < n → impl_ChainOk_l11.E x11_0 x11_2 x11_3 k (impl_ChainOk_l11.acc x11_0 x11_2 x11_3 a k) = none) ∧ impl_ChainOk_l11.R x11_0 a x11_2 x11_3 0 = impl_ChainOk_l11.fin x11_0 x11_2 x11_3 n (impl_ChainOk_l11.acc x11_0 x11_2 x11_3 a n)) ∨ (∃ k r, k < n ∧ impl_ChainOk_l11.E x11_0 x11_2 x11_3 k (impl_ChainOk_l11.acc x11_0 x11_2 x11_3 a k) = some r ∧ (∀ j, j < k → impl_ChainOk_l11.E x11_0 x11_2 x11_3 j (impl_ChainOk_l11.acc x11_0 x11_2 x11_3 a j) = none) ∧ impl_ChainOk_l11.R x11_0 a x11_2 x11_3 0 = r) := by
  have hM : impl_ChainOk_l11.M x11_0 a x11_2 x11_3 0 + 1 = n + 1 := by simp only [impl_ChainOk_l11.M]; omega
  unfold impl_ChainOk_l11.R
  rw [hM]
  refine loopE (fun m i b => impl_ChainOk_l11.S m x11_0 b x11_2 x11_3 i) n hn (impl_ChainOk_l11.acc x11_0 x11_2 x11_3 a) (impl_ChainOk_l11.E x11_0 x11_2 x11_3 ) (impl_ChainOk_l11.fin x11_0 x11_2 x11_3 ) fun m k hk => ?_
  have ha : impl_ChainOk_l11.acc x11_0 x11_2 x11_3 a (k + 1) = impl_ChainOk_l11.A x11_0 x11_2 x11_3 k (impl_ChainOk_l11.acc x11_0 x11_2 x11_3 a k) := rfl
  rw [ha]
  generalize impl_ChainOk_l11.acc x11_0 x11_2 x11_3 a k = b
  simp only [impl_ChainOk_l11.S, impl_ChainOk_l11.E, impl_ChainOk_l11.A, impl_ChainOk_l11.fin, hT, Int.toNat_natCast]
  all_goals grind
theorem impl_ChainOk.w (a0 : Ch) (K : AV → List Blk → Prop) : evFn (envS [impl_BankOk.c, impl_StateOk.c] []) [impl_ChainOk_l4.d.ctr, impl_ChainOk_l11.d.ctr] [] [] Try.f16 [] (impl_ChainOk.L.enc (a0, ())) K = (And (Imp ((bif bif bif bif a0.id != 1 then a0.id != 2 else false then true else !(impl_BankOk.S a0.bank) then true else !(impl_StateOk.S a0.st) then true else decide ((a0.past.length : Int) > 90)) = true) (K (.v (.c (.bool false))) ([]))) (Imp ((bif bif bif bif a0.id != 1 then a0.id != 2 else false then true else !(impl_BankOk.S a0.bank) then true else !(impl_StateOk.S a0.st) then true else decide ((a0.past.length : Int) > 90)) = false) (And (impl_ChainOk_l4.P a0 false a0.past (a0.past.length : Int) 0) (And (Imp (Nat.beq (impl_ChainOk_l4.R a0 false a0.past (a0.past.length : Int) 0).1 0 = true) (K (.v (.c (.bool (impl_ChainOk_l4.R a0 false a0.past (a0.past.length : Int) 0).2.1))) ([]))) (Imp (Nat.beq (impl_ChainOk_l4.R a0 false a0.past (a0.past.length : Int) 0).1 0 = false) (And (impl_ChainOk_l11.P false 0 a0.knows (a0.knows.length : Int) 0) (And (Imp (Nat.beq (impl_ChainOk_l11.R false 0 a0.knows (a0.knows.length : Int) 0).1 0 = true) (K (.v (.c (.bool (impl_ChainOk_l11.R false 0 a0.knows (a0.knows.length : Int) 0).2.1))) ([]))) (Imp (Nat.beq (impl_ChainOk_l11.R false 0 a0.knows (a0.knows.length : Int) 0).1 0 = false) (K (.v (.c (.bool true))) ([])))))))))) := by kernel_rfl
theorem impl_ChainOk.v (a0 : Ch) (hf : Ch.fact a0 ∧ True) (K : AV → List Blk → Prop) (hK : K (impl_ChainOk.enc (impl_ChainOk.S a0)).1 (impl_ChainOk.enc (impl_ChainOk.S a0)).2) : And (Imp ((bif bif bif bif a0.id != 1 then a0.id != 2 else false then true else !(impl_BankOk.S a0.bank) then true else !(impl_StateOk.S a0.st) then true else decide ((a0.past.length : Int) > 90)) = true) (K (.v (.c (.bool false))) ([]))) (Imp ((bif bif bif bif a0.id != 1 then a0.id != 2 else false then true else !(impl_BankOk.S a0.bank) then true else !(impl_StateOk.S a0.st) then true else decide ((a0.past.length : Int) > 90)) = false) (And (impl_ChainOk_l4.P a0 false a0.past (a0.past.length : Int) 0) (And (Imp (Nat.beq (impl_ChainOk_l4.R a0 false a0.past (a0.past.length : Int) 0).1 0 = true) (K (.v (.c (.bool (impl_ChainOk_l4.R a0 false a0.past (a0.past.length : Int) 0).2.1))) ([]))) (Imp (Nat.beq (impl_ChainOk_l4.R a0 false a0.past (a0.past.length : Int) 0).1 0 = false) (And (impl_ChainOk_l11.P false 0 a0.knows (a0.knows.length : Int) 0) (And (Imp (Nat.beq (impl_ChainOk_l11.R false 0 a0.knows (a0.knows.length : Int) 0).1 0 = true) (K (.v (.c (.bool (impl_ChainOk_l11.R false 0 a0.knows (a0.knows.length : Int) 0).2.1))) ([]))) (Imp (Nat.beq (impl_ChainOk_l11.R false 0 a0.knows (a0.knows.length : Int) 0).1 0 = false) (K (.v (.c (.bool true))) ([]))))))))) := by
  obtain ⟨f0, -⟩ := hf
  obtain ⟨⟨f0_0, f0_1⟩, ⟨f0_2, f0_3, f0_4, f0_5⟩, f0_6, f0_7⟩ := f0
  try simp only [big] at *
  refine ⟨fun h1 => ?_, fun h1 => ?_⟩
  · have e : impl_ChainOk.S a0 = (false) := by unfold impl_ChainOk.S; exact (cond_t h1).trans <| rfl
    rw [e] at hK
    exact hK
  · refine ⟨by simp only [impl_ChainOk_l4.P]; refine ⟨(by first | assumption | omega | grind [wrap_id, sts_1, sts_2]), (by first | assumption | omega | grind [wrap_id, sts_1, sts_2]), (by first | assumption | omega | grind [wrap_id, sts_1, sts_2]), (by first | assumption | omega | grind [wrap_id, sts_1, sts_2]), (by first | assumption | omega | grind [wrap_id, sts_1, sts_2]), (by first | assumption | omega | grind [wrap_id, sts_1, sts_2]), (by first | assumption | omega | grind [wrap_id, sts_1, sts_2])⟩, ?_⟩
    refine ⟨fun h2 => ?_, fun h2 => ?_⟩
    · have e : impl_ChainOk.S a0 = ((impl_ChainOk_l4.R a0 false a0.past (a0.past.length : Int) 0).2.1) := by unfold impl_ChainOk.S; exact (cond_f h1).trans <| (cond_t h2).trans <| rfl
      rw [e] at hK
      exact hK
    · refine ⟨by simp only [impl_ChainOk_l11.P]; refine ⟨(by first | assumption | omega | grind [wrap_id, sts_1, sts_2]), (by first | assumption | omega | grind [wrap_id, sts_1, sts_2]), (by first | assumption | omega | grind [wrap_id, sts_1, sts_2])⟩, ?_⟩
      refine ⟨fun h3 => ?_, fun h3 => ?_⟩
      · have e : impl_ChainOk.S a0 = ((impl_ChainOk_l11.R false 0 a0.knows (a0.knows.length : Int) 0).2.1) := by unfold impl_ChainOk.S; exact (cond_f h1).trans <| (cond_f h2).trans <| (cond_t h3).trans <| rfl
        rw [e] at hK
        exact hK
      · have e : impl_ChainOk.S a0 = (true) := by unfold impl_ChainOk.S; exact (cond_f h1).trans <| (cond_f h2).trans <| (cond_f h3).trans <| rfl
        rw [e] at hK
        exact hK
theorem impl_ChainOk.good : Good Try.prog impl_ChainOk.c :=
  vgood (sh := []) (sp := []) (LL := [impl_ChainOk_l4.d.ctr, impl_ChainOk_l11.d.ctr]) (consG impl_BankOk.good (consG impl_StateOk.good noG)) (fn := Try.f16) (by kernel_rfl) (by kernel_rfl) (by rw [show loopsOf (bodyOf Try.f16) = [(bodyAt Try.f16 0), (bodyAt Try.f16 1)] from by kernel_rfl]; exact consL (l := impl_ChainOk_l4.d.ctr) (by kernel_rfl) (impl_ChainOk_l4.g (consG impl_BankOk.good (consG impl_StateOk.good noG))) (consL (l := impl_ChainOk_l11.d.ctr) (by kernel_rfl) (impl_ChainOk_l11.g (consG impl_BankOk.good (consG impl_StateOk.good noG))) (noL rfl))) fun s hp hf => by
    exact Eq.mpr (impl_ChainOk.w (s.1) (fun r bs' => And (r = (impl_ChainOk.c.out s).1) (bs' = (impl_ChainOk.c.out s).2))) (impl_ChainOk.v (s.1) hf (fun r bs' => And (r = (impl_ChainOk.c.out s).1) (bs' = (impl_ChainOk.c.out s).2)) ⟨rfl, rfl⟩)
/-! ### spec.WorldOk -/
def spec_WorldOk_l4.S : Nat → (List Ch) → Bool → Int → Nat × Bool × Int × Unit
  | 0, _, _, _ => (0, (false, (0, ())))
  | n + 1, x4_0, x4_1, x4_2 => bif decide (x4_2 < 2) then bif bif bif !(spec_ChainOk.S (x4_0.getD (x4_2).toNat zCh)) then true else (x4_0.getD (x4_2).toNat zCh).id != (wrap (x4_2 + 1)) then true else bif decide (((x4_0.getD (x4_2).toNat zCh).knows.length : Int) > 0) then decide (((x4_0.getD (x4_2).toNat zCh).knows.getD (wrap (((x4_0.getD (x4_2).toNat zCh).knows.length : Int) - 1)).toNat 0) > ((x4_0.getD (wrap (1 - x4_2)).toNat zCh).past.length : Int)) else false then (0, (false, (x4_2, ()))) else spec_WorldOk_l4.S n x4_0 x4_1 (wrap (x4_2 + 1)) else (1, (false, (x4_2, ())))
def spec_WorldOk_l4.M (x4_0 : List Ch) (x4_1 : Bool) (x4_2 : Int) : Nat := (2 - x4_2).toNat
def spec_WorldOk_l4.R (x4_0 : List Ch) (x4_1 : Bool) (x4_2 : Int) : Nat × Bool × Int × Unit := spec_WorldOk_l4.S (spec_WorldOk_l4.M x4_0 x4_1 x4_2 + 1) x4_0 x4_1 x4_2
def spec_WorldOk_l4.P (x4_0 : List Ch) (x4_1 : Bool) (x4_2 : Int) : Prop := (0 ≤ x4_2) ∧ (chsFact x4_0) ∧ (((x4_0.length : Int) != 2) = false)
def spec_WorldOk_l4.L : FL := fCons (fC (cPtr 1 (cCons (cArrE false kChs) (cNil)) rfl)) (fCons (fC cBool) (fCons (fC cInt) (fNil)))
def spec_WorldOk_l4.o0 (x4_0 : List Ch) (x4_1 : Bool) (x4_2 : Int) (r : Nat × Bool × Int × Unit) : Ex × List FV × List Blk := (.ret, [.c (.ptr 0 0), .c (.bool r.2.1), .c (.int r.2.2.1)], [.raw 1 [.arr false (.chs x4_0)]])
def spec_WorldOk_l4.o1 (x4_0 : List Ch) (x4_1 : Bool) (x4_2 : Int) (r : Nat × Bool × Int × Unit) : Ex × List FV × List Blk := (.exit 0, [.c (.ptr 0 0), .c (.bool x4_1), .c (.int r.2.2.1)], [.raw 1 [.arr false (.chs x4_0)]])
def spec_WorldOk_l4.o (x4_0 : List Ch) (x4_1 : Bool) (x4_2 : Int) (r : Nat × Bool × Int × Unit) : Ex × List FV × List Blk := pickAlt [(Nat.beq r.1 0, spec_WorldOk_l4.o0 x4_0 x4_1 x4_2 r)] (spec_WorldOk_l4.o1 x4_0 x4_1 x4_2 r)
def spec_WorldOk_l4.d : LDat := ldat 4 [1, 2, 3] [] spec_WorldOk_l4.L (fun s => spec_WorldOk_l4.P s.1.1 s.2.1 s.2.2.1) (fun s => [(Nat.beq (spec_WorldOk_l4.R s.1.1 s.2.1 s.2.2.1).1 0, spec_WorldOk_l4.o0 s.1.1 s.2.1 s.2.2.1 (spec_WorldOk_l4.R s.1.1 s.2.1 s.2.2.1))]) (fun s => spec_WorldOk_l4.o1 s.1.1 s.2.1 s.2.2.1 (spec_WorldOk_l4.R s.1.1 s.2.1 s.2.2.1)) (fun s => spec_WorldOk_l4.M s.1.1 s.2.1 s.2.2.1)
def spec_WorldOk.S (a0 : List Ch) : Bool := bif (a0.length : Int) != 2 then (false) else bif Nat.beq (spec_WorldOk_l4.R a0 false 0).1 0 then ((spec_WorldOk_l4.R a0 false 0).2.1) else (true)
def spec_WorldOk.enc (r : Bool) : AV × List Blk := (.v (.c (.bool r)), [])
def spec_WorldOk.L : ShL := sCons sW (sNil)
def spec_WorldOk.c : Ctr := vctr 31 spec_WorldOk.L none (fun s => spec_WorldOk.enc (spec_WorldOk.S s.1))
theorem spec_WorldOk_l4.w (x4_0 : List Ch) (x4_1 : Bool) (x4_2 : Int) : evBody (envS [spec_ChainOk.c] []) [] (bodyAt Try.f31 0) spec_WorldOk_l4.d ((x4_0, ()), (x4_1, (x4_2, ()))) = (And (Imp ((decide (x4_2 < 2)) = true) (And ((0 : Int) ≤ x4_2 ∧ x4_2 < (x4_0.length : Int)) (And (Imp (And ((decide (((x4_0.getD (x4_2).toNat zCh).knows.length : Int) > 0)) = true) (And ((bif !(spec_ChainOk.S (x4_0.getD (x4_2).toNat zCh)) then true else (x4_0.getD (x4_2).toNat zCh).id != (wrap (x4_2 + 1))) = false) (True))) ((0 : Int) ≤ (wrap (((x4_0.getD (x4_2).toNat zCh).knows.length : Int) - 1)) ∧ (wrap (((x4_0.getD (x4_2).toNat zCh).knows.length : Int) - 1)) < ((x4_0.getD (x4_2).toNat zCh).knows.length : Int))) (And (Imp (And ((decide (((x4_0.getD (x4_2).toNat zCh).knows.length : Int) > 0)) = true) (And ((bif !(spec_ChainOk.S (x4_0.getD (x4_2).toNat zCh)) then true else (x4_0.getD (x4_2).toNat zCh).id != (wrap (x4_2 + 1))) = false) (True))) ((0 : Int) ≤ (wrap (1 - x4_2)) ∧ (wrap (1 - x4_2)) < (x4_0.length : Int))) (And (Imp ((bif bif !(spec_ChainOk.S (x4_0.getD (x4_2).toNat zCh)) then true else (x4_0.getD (x4_2).toNat zCh).id != (wrap (x4_2 + 1)) then true else bif decide (((x4_0.getD (x4_2).toNat zCh).knows.length : Int) > 0) then decide (((x4_0.getD (x4_2).toNat zCh).knows.getD (wrap (((x4_0.getD (x4_2).toNat zCh).knows.length : Int) - 1)).toNat 0) > ((x4_0.getD (wrap (1 - x4_2)).toNat zCh).past.length : Int)) else false) = true) (spec_WorldOk_l4.o x4_0 x4_1 x4_2 (spec_WorldOk_l4.R x4_0 x4_1 x4_2) = (.ret, [.c (.ptr 0 0), .c (.bool false), .c (.int x4_2)], [.raw 1 [.arr false (.chs x4_0)]]))) (Imp ((bif bif !(spec_ChainOk.S (x4_0.getD (x4_2).toNat zCh)) then true else (x4_0.getD (x4_2).toNat zCh).id != (wrap (x4_2 + 1)) then true else bif decide (((x4_0.getD (x4_2).toNat zCh).knows.length : Int) > 0) then decide (((x4_0.getD (x4_2).toNat zCh).knows.getD (wrap (((x4_0.getD (x4_2).toNat zCh).knows.length : Int) - 1)).toNat 0) > ((x4_0.getD (wrap (1 - x4_2)).toNat zCh).past.length : Int)) else false) = false) (And (spec_WorldOk_l4.P x4_0 x4_1 (wrap (x4_2 + 1))) (And (spec_WorldOk_l4.M x4_0 x4_1 (wrap (x4_2 + 1)) < spec_WorldOk_l4.M x4_0 x4_1 x4_2) (spec_WorldOk_l4.o x4_0 x4_1 (wrap (x4_2 + 1)) (spec_WorldOk_l4.R x4_0 x4_1 (wrap (x4_2 + 1))) = spec_WorldOk_l4.o x4_0 x4_1 x4_2 (spec_WorldOk_l4.R x4_0 x4_1 x4_2)))))))))) (Imp ((decide (x4_2 < 2)) = false) (spec_WorldOk_l4.o x4_0 x4_1 x4_2 (spec_WorldOk_l4.R x4_0 x4_1 x4_2) = (.exit 0, [.c (.ptr 0 0), .c (.bool x4_1), .c (.int x4_2)], [.raw 1 [.arr false (.chs x4_0)]])))) := by kernel_rfl
theorem spec_WorldOk_l4.v (x4_0 : List Ch) (x4_1 : Bool) (x4_2 : Int) (hp : spec_WorldOk_l4.P x4_0 x4_1 x4_2) : And (Imp ((decide (x4_2 < 2)) = true) (And ((0 : Int) ≤ x4_2 ∧ x4_2 < (x4_0.length : Int)) (And (Imp (And ((decide (((x4_0.getD (x4_2).toNat zCh).knows.length : Int) > 0)) = true) (And ((bif !(spec_ChainOk.S (x4_0.getD (x4_2).toNat zCh)) then true else (x4_0.getD (x4_2).toNat zCh).id != (wrap (x4_2 + 1))) = false) (True))) ((0 : Int) ≤ (wrap (((x4_0.getD (x4_2).toNat zCh).knows.length : Int) - 1)) ∧ (wrap (((x4_0.getD (x4_2).toNat zCh).knows.length : Int) - 1)) < ((x4_0.getD (x4_2).toNat zCh).knows.length : Int))) (And (Imp (And ((decide (((x4_0.getD (x4_2).toNat zCh).knows.length : Int) > 0)) = true) (And ((bif !(spec_ChainOk.S (x4_0.getD (x4_2).toNat zCh)) then true else (x4_0.getD (x4_2).toNat zCh).id != (wrap (x4_2 + 1))) = false) (True))) ((0 : Int) ≤ (wrap (1 - x4_2)) ∧ (wrap (1 - x4_2)) < (x4_0.length : Int))) (And (Imp ((bif bif !(spec_ChainOk.S (x4_0.getD (x4_2).toNat zCh)) then true else (x4_0.getD (x4_2).toNat zCh).id != (wrap (x4_2 + 1)) then true else bif decide (((x4_0.getD (x4_2).toNat zCh).knows.length : Int) > 0) then decide (((x4_0.getD (x4_2).toNat zCh).knows.getD (wrap (((x4_0.getD (x4_2).toNat zCh).knows.length : Int) - 1)).toNat 0) > ((x4_0.getD (wrap (1 - x4_2)).toNat zCh).past.length : Int)) else false) = true) (spec_WorldOk_l4.o x4_0 x4_1 x4_2 (spec_WorldOk_l4.R x4_0 x4_1 x4_2) = (.ret, [.c (.ptr 0 0), .c (.bool false), .c (.int x4_2)], [.raw 1 [.arr false (.chs x4_0)]]))) (Imp ((bif bif !(spec_ChainOk.S (x4_0.getD (x4_2).toNat zCh)) then true else (x4_0.getD (x4_2).toNat zCh).id != (wrap (x4_2 + 1)) then true else bif decide (((x4_0.getD (x4_2).toNat zCh).knows.length : Int) > 0) then decide (((x4_0.getD (x4_2).toNat zCh).knows.getD (wrap (((x4_0.getD (x4_2).toNat zCh).knows.length : Int) - 1)).toNat 0) > ((x4_0.getD (wrap (1 - x4_2)).toNat zCh).past.length : Int)) else false) = false) (And (spec_WorldOk_l4.P x4_0 x4_1 (wrap (x4_2 + 1))) (And (spec_WorldOk_l4.M x4_0 x4_1 (wrap (x4_2 + 1)) < spec_WorldOk_l4.M x4_0 x4_1 x4_2) (spec_WorldOk_l4.o x4_0 x4_1 (wrap (x4_2 + 1)) (spec_WorldOk_l4.R x4_0 x4_1 (wrap (x4_2 + 1))) = spec_WorldOk_l4.o x4_0 x4_1 x4_2 (spec_WorldOk_l4.R x4_0 x4_1 x4_2)))))))))) (Imp ((decide (x4_2 < 2)) = false) (spec_WorldOk_l4.o x4_0 x4_1 x4_2 (spec_WorldOk_l4.R x4_0 x4_1 x4_2) = (.exit 0, [.c (.ptr 0 0), .c (.bool x4_1), .c (.int x4_2)], [.raw 1 [.arr false (.chs x4_0)]]))) := by
  simp only [spec_WorldOk_l4.P] at hp
  obtain ⟨p0, p1, p2⟩ := hp
  refine ⟨fun h1 => ?_, fun h1 => ?_⟩
  · refine ⟨by first | assumption | omega | grind [wrap_id, chs_1, chs_2, chs_3, chs_4, chs_5], ?_⟩
    refine ⟨by intro hπ; first | assumption | omega | grind [wrap_id, chs_1, chs_2, chs_3, chs_4, chs_5], ?_⟩
    refine ⟨by intro hπ; first | assumption | omega | grind [wrap_id, chs_1, chs_2, chs_3, chs_4, chs_5], ?_⟩
    refine ⟨fun h2 => ?_, fun h2 => ?_⟩
    · have e : spec_WorldOk_l4.R x4_0 x4_1 x4_2 = (0, (false, (x4_2, ()))) := by unfold spec_WorldOk_l4.R; rw [spec_WorldOk_l4.S]; exact (cond_t h1).trans <| (cond_t h2).trans <| rfl
      rw [e]
      rfl
    · have hμ : spec_WorldOk_l4.M x4_0 x4_1 x4_2 = spec_WorldOk_l4.M x4_0 x4_1 (wrap (x4_2 + 1)) + 1 := by simp only [spec_WorldOk_l4.M]; first | omega | grind [wrap_id]
      refine ⟨by simp only [spec_WorldOk_l4.P]; refine ⟨(by first | assumption | omega | grind [wrap_id, chs_1, chs_2, chs_3, chs_4, chs_5]), (by first | assumption | omega | grind [wrap_id, chs_1, chs_2, chs_3, chs_4, chs_5]), (by first | assumption | omega | grind [wrap_id, chs_1, chs_2, chs_3, chs_4, chs_5])⟩, by omega, ?_⟩
      have e : spec_WorldOk_l4.R x4_0 x4_1 x4_2 = spec_WorldOk_l4.R x4_0 x4_1 (wrap (x4_2 + 1)) := by
        have e1 : spec_WorldOk_l4.R x4_0 x4_1 x4_2 = spec_WorldOk_l4.S (spec_WorldOk_l4.M x4_0 x4_1 x4_2) x4_0 x4_1 (wrap (x4_2 + 1)) := by unfold spec_WorldOk_l4.R; rw [spec_WorldOk_l4.S]; exact (cond_t h1).trans <| (cond_f h2).trans <| rfl
        rw [e1, hμ]
        rfl
      rw [e]
      rfl
  · have e : spec_WorldOk_l4.R x4_0 x4_1 x4_2 = (1, (false, (x4_2, ()))) := by unfold spec_WorldOk_l4.R; rw [spec_WorldOk_l4.S]; exact (cond_f h1).trans <| rfl
    rw [e]
    rfl
theorem spec_WorldOk_l4.g (hG : ∀ c ∈ [spec_ChainOk.c], Good Try.prog c) : LGood Try.prog Try.f31.ntmps spec_WorldOk_l4.d.ctr (bodyAt Try.f31 0) := by
  refine lgoodS (sp := []) (LL := []) hG (by kernel_rfl) (by rw [show loopsOf (bodyAt Try.f31 0) = [] from by kernel_rfl]; exact noL rfl) fun s hp => ?_
  refine Eq.mpr (spec_WorldOk_l4.w s.1.1 s.2.1 s.2.2.1) ?_
  replace hp : spec_WorldOk_l4.P s.1.1 s.2.1 s.2.2.1 := hp
  exact spec_WorldOk_l4.v _ _ _ hp
def spec_WorldOk_l4.E (x4_0 : List Ch) (x4_1 : Bool) (k : Nat) (a : Unit) : Option (Nat × Bool × Int × Unit) := bif bif bif !(spec_ChainOk.S (x4_0.getD k zCh)) then true else (x4_0.getD k zCh).id != (wrap ((k : Int) + 1)) then true else bif decide (((x4_0.getD k zCh).knows.length : Int) > 0) then decide (((x4_0.getD k zCh).knows.getD (wrap (((x4_0.getD k zCh).knows.length : Int) - 1)).toNat 0) > ((x4_0.getD (wrap (1 - (k : Int))).toNat zCh).past.length : Int)) else false then some (0, (false, ((k : Int), ()))) else none
def spec_WorldOk_l4.A (x4_0 : List Ch) (x4_1 : Bool) (k : Nat) (a : Unit) : Unit := bif bif bif !(spec_ChainOk.S (x4_0.getD k zCh)) then true else (x4_0.getD k zCh).id != (wrap ((k : Int) + 1)) then true else bif decide (((x4_0.getD k zCh).knows.length : Int) > 0) then decide (((x4_0.getD k zCh).knows.getD (wrap (((x4_0.getD k zCh).knows.length : Int) - 1)).toNat 0) > ((x4_0.getD (wrap (1 - (k : Int))).toNat zCh).past.length : Int)) else false then a else ()
def spec_WorldOk_l4.fin (x4_0 : List Ch) (x4_1 : Bool) (k : Nat) (a : Unit) : Nat × Bool × Int × Unit := (1, (false, ((k : Int), ())))
def spec_WorldOk_l4.acc (x4_0 : List Ch) (x4_1 : Bool) (a : Unit) : Nat → Unit
  | 0 => a
  | k + 1 => spec_WorldOk_l4.A x4_0 x4_1 k (spec_WorldOk_l4.acc x4_0 x4_1 a k)
theorem spec_WorldOk_l4.law (x4_0 : List Ch) (x4_1 : Bool) (a : Unit) (n : Nat) (hT : 2 = (n : Int)) (hn : (n : Int) ≤ 9223372036854775807) :
    ((∀ k, k < n → spec_WorldOk_l4.E x4_0 x4_1 k (spec_WorldOk_l4.acc x4_0 x4_1 a k) = none) ∧ spec_WorldOk_l4.R x4_0 x4_1 0 = spec_WorldOk_l4.fin x4_0 x4_1 n (spec_WorldOk_l4.acc x4_0 x4_1 a n)) ∨ (∃ k r, k < n ∧ spec_WorldOk_l4.E x4_0 x4_1 k (spec_WorldOk_l4.acc x4_0 x4_1 a k) = some r ∧ (∀ j, j < k → spec_WorldOk_l4.E x4_0 x4_1 j (spec_WorldOk_l4.acc x4_0 x4_1 a j) = none) ∧ spec_WorldOk_l4.R x4_0 x4_1 0 = r) := by
  have hM : spec_WorldOk_l4.M x4_0 x4_1 0 + 1 = n + 1 := by simp only [spec_WorldOk_l4.M]; omega
  unfold spec_WorldOk_l4.R
  rw [hM]
  refine loopE (fun m i b => spec_WorldOk_l4.S m x4_0 x4_1 i) n hn (spec_WorldOk_l4.acc x4_0 x4_1 a) (spec_WorldOk_l4.E x4_0 x4_1 ) (spec_WorldOk_l4.fin x4_0 x4_1 ) fun m k hk => ?_
  have ha : spec_WorldOk_l4.acc x4_0 x4_1 a (k + 1) = spec_WorldOk_l4.A x4_0 x4_1 k (spec_WorldOk_l4.acc x4_0 x4_1 a k) := rfl
  rw [ha]
  generalize spec_WorldOk_l4.acc x4_0 x4_1 a k = b
  simp only [spec_WorldOk_l4.S, spec_WorldOk_l4.E, spec_WorldOk_l4.A, spec_WorldOk_l4.fin, hT, Int.toNat_natCast]
  all_goals grind
theorem spec_WorldOk.w (a0 : List Ch) (K : AV → List Blk → Prop) : evFn (envS [spec_ChainOk.c] []) [spec_WorldOk_l4.d.ctr] [] [] Try.f31 [] (spec_WorldOk.L.enc (a0, ())) K = (And (Imp (((a0.length : Int) != 2) = true) (K (.v (.c (.bool false))) ([]))) (Imp (((a0.length : Int) != 2) = false) (And (spec_WorldOk_l4.P a0 false 0) (And (Imp (Nat.beq (spec_WorldOk_l4.R a0 false 0).1 0 = true) (K (.v (.c (.bool (spec_WorldOk_l4.R a0 false 0).2.1))) ([]))) (Imp (Nat.beq (spec_WorldOk_l4.R a0 false 0).1 0 = false) (K (.v (.c (.bool true))) ([]))))))) := by kernel_rfl
theorem spec_WorldOk.v (a0 : List Ch) (hf : chsFact a0 ∧ True) (K : AV → List Blk → Prop) (hK : K (spec_WorldOk.enc (spec_WorldOk.S a0)).1 (spec_WorldOk.enc (spec_WorldOk.S a0)).2) : And (Imp (((a0.length : Int) != 2) = true) (K (.v (.c (.bool false))) ([]))) (Imp (((a0.length : Int) != 2) = false) (And (spec_WorldOk_l4.P a0 false 0) (And (Imp (Nat.beq (spec_WorldOk_l4.R a0 false 0).1 0 = true) (K (.v (.c (.bool (spec_WorldOk_l4.R a0 false 0).2.1))) ([]))) (Imp (Nat.beq (spec_WorldOk_l4.R a0 false 0).1 0 = false) (K (.v (.c (.bool true))) ([])))))) := by
  obtain ⟨f0, -⟩ := hf
  try simp only [big] at *
  refine ⟨fun h1 => ?_, fun h1 => ?_⟩
  · have e : spec_WorldOk.S a0 = (false) := by unfold spec_WorldOk.S; exact (cond_t h1).trans <| rfl
    rw [e] at hK
    exact hK
  · refine ⟨by simp only [spec_WorldOk_l4.P]; refine ⟨(by first | assumption | omega | grind [wrap_id, chs_1, chs_2, chs_3, chs_4, chs_5]), (by first | assumption | omega | grind [wrap_id, chs_1, chs_2, chs_3, chs_4, chs_5]), (by first | assumption | omega | grind [wrap_id, chs_1, chs_2, chs_3, chs_4, chs_5])⟩, ?_⟩
    refine ⟨fun h2 => ?_, fun h2 => ?_⟩
    · have e : spec_WorldOk.S a0 = ((spec_WorldOk_l4.R a0 false 0).2.1) := by unfold spec_WorldOk.S; exact (cond_f h1).trans <| (cond_t h2).trans <| rfl
      rw [e] at hK
      exact hK
    · have e : spec_WorldOk.S a0 = (true) := by unfold spec_WorldOk.S; exact (cond_f h1).trans <| (cond_f h2).trans <| rfl
      rw [e] at hK
      exact hK
theorem spec_WorldOk.good : Good Try.prog spec_WorldOk.c :=
  vgood (sh := []) (sp := []) (LL := [spec_WorldOk_l4.d.ctr]) (consG spec_ChainOk.good noG) (fn := Try.f31) (by kernel_rfl) (by kernel_rfl) (by rw [show loopsOf (bodyOf Try.f31) = [(bodyAt Try.f31 0)] from by kernel_rfl]; exact consL (l := spec_WorldOk_l4.d.ctr) (by kernel_rfl) (spec_WorldOk_l4.g (consG spec_ChainOk.good noG)) (noL rfl)) fun s hp hf => by
    exact Eq.mpr (spec_WorldOk.w (s.1) (fun r bs' => And (r = (spec_WorldOk.c.out s).1) (bs' = (spec_WorldOk.c.out s).2))) (spec_WorldOk.v (s.1) hf (fun r bs' => And (r = (spec_WorldOk.c.out s).1) (bs' = (spec_WorldOk.c.out s).2)) ⟨rfl, rfl⟩)
/-! ### impl.WorldOk -/
def impl_WorldOk_l4.S : Nat → (List Ch) → Bool → (List Ch) → Int → Int → Nat × Bool × Int × Unit
  | 0, _, _, _, _, _ => (0, (false, (0, ())))
  | n + 1, x4_0, x4_1, x4_2, x4_3, x4_4 => bif decide (x4_4 < x4_3) then bif bif (x4_2.getD (x4_4).toNat zCh).id != (wrap (x4_4 + 1)) then true else !(impl_ChainOk.S (x4_2.getD (x4_4).toNat zCh)) then (0, (false, (x4_4, ()))) else bif bif decide (((x4_2.getD (x4_4).toNat zCh).knows.length : Int) > 0) then decide (((x4_2.getD (x4_4).toNat zCh).knows.getD (wrap (((x4_2.getD (x4_4).toNat zCh).knows.length : Int) - 1)).toNat 0) > ((x4_0.getD (wrap (1 - x4_4)).toNat zCh).past.length : Int)) else false then (0, (false, (x4_4, ()))) else impl_WorldOk_l4.S n x4_0 x4_1 x4_2 x4_3 (wrap (x4_4 + 1)) else (1, (false, (x4_4, ())))
def impl_WorldOk_l4.M (x4_0 : List Ch) (x4_1 : Bool) (x4_2 : List Ch) (x4_3 : Int) (x4_4 : Int) : Nat := (x4_3 - x4_4).toNat
def impl_WorldOk_l4.R (x4_0 : List Ch) (x4_1 : Bool) (x4_2 : List Ch) (x4_3 : Int) (x4_4 : Int) : Nat × Bool × Int × Unit := impl_WorldOk_l4.S (impl_WorldOk_l4.M x4_0 x4_1 x4_2 x4_3 x4_4 + 1) x4_0 x4_1 x4_2 x4_3 x4_4
def impl_WorldOk_l4.P (x4_0 : List Ch) (x4_1 : Bool) (x4_2 : List Ch) (x4_3 : Int) (x4_4 : Int) : Prop := (0 ≤ x4_4) ∧ (x4_3 ≤ 9223372036854775807) ∧ (x4_2 = x4_0) ∧ (x4_3 = (x4_0.length : Int)) ∧ (chsFact x4_0) ∧ (chsFact x4_2) ∧ ((x4_3 != 2) = false)
def impl_WorldOk_l4.L : FL := fCons (fC (cPtr 1 (cCons (cArrE false kChs) (cNil)) rfl)) (fCons (fC cBool) (fCons (fC (cArr false kChs)) (fCons (fC cInt) (fCons (fC cInt) (fNil)))))
def impl_WorldOk_l4.o0 (x4_0 : List Ch) (x4_1 : Bool) (x4_2 : List Ch) (x4_3 : Int) (x4_4 : Int) (r : Nat × Bool × Int × Unit) : Ex × List FV × List Blk := (.ret, [.c (.ptr 0 0), .c (.bool r.2.1), .c (.arr false (.chs x4_2)), .c (.int x4_3), .c (.int r.2.2.1)], [.raw 1 [.arr false (.chs x4_0)]])
def impl_WorldOk_l4.o1 (x4_0 : List Ch) (x4_1 : Bool) (x4_2 : List Ch) (x4_3 : Int) (x4_4 : Int) (r : Nat × Bool × Int × Unit) : Ex × List FV × List Blk := (.exit 0, [.c (.ptr 0 0), .c (.bool x4_1), .c (.arr false (.chs x4_2)), .c (.int x4_3), .c (.int r.2.2.1)], [.raw 1 [.arr false (.chs x4_0)]])
def impl_WorldOk_l4.o (x4_0 : List Ch) (x4_1 : Bool) (x4_2 : List Ch) (x4_3 : Int) (x4_4 : Int) (r : Nat × Bool × Int × Unit) : Ex × List FV × List Blk := pickAlt [(Nat.beq r.1 0, impl_WorldOk_l4.o0 x4_0 x4_1 x4_2 x4_3 x4_4 r)] (impl_WorldOk_l4.o1 x4_0 x4_1 x4_2 x4_3 x4_4 r)
def impl_WorldOk_l4.d : LDat := ldat 4 [1, 2, 11, 12, 13] [] impl_WorldOk_l4.L (fun s => impl_WorldOk_l4.P s.1.1 s.2.1 s.2.2.1 s.2.2.2.1 s.2.2.2.2.1) (fun s => [(Nat.beq (impl_WorldOk_l4.R s.1.1 s.2.1 s.2.2.1 s.2.2.2.1 s.2.2.2.2.1).1 0, impl_WorldOk_l4.o0 s.1.1 s.2.1 s.2.2.1 s.2.2.2.1 s.2.2.2.2.1 (impl_WorldOk_l4.R s.1.1 s.2.1 s.2.2.1 s.2.2.2.1 s.2.2.2.2.1))]) (fun s => impl_WorldOk_l4.o1 s.1.1 s.2.1 s.2.2.1 s.2.2.2.1 s.2.2.2.2.1 (impl_WorldOk_l4.R s.1.1 s.2.1 s.2.2.1 s.2.2.2.1 s.2.2.2.2.1)) (fun s => impl_WorldOk_l4.M s.1.1 s.2.1 s.2.2.1 s.2.2.2.1 s.2.2.2.2.1)
def impl_WorldOk.S (a0 : List Ch) : Bool := bif (a0.length : Int) != 2 then (false) else bif Nat.beq (impl_WorldOk_l4.R a0 false a0 (a0.length : Int) 0).1 0 then ((impl_WorldOk_l4.R a0 false a0 (a0.length : Int) 0).2.1) else (true)
def impl_WorldOk.enc (r : Bool) : AV × List Blk := (.v (.c (.bool r)), [])
def impl_WorldOk.L : ShL := sCons sW (sNil)
def impl_WorldOk.c : Ctr := vctr 62 impl_WorldOk.L none (fun s => impl_WorldOk.enc (impl_WorldOk.S s.1))
theorem impl_WorldOk_l4.w (x4_0 : List Ch) (x4_1 : Bool) (x4_2 : List Ch) (x4_3 : Int) (x4_4 : Int) : evBody (envS [impl_ChainOk.c] []) [] (bodyAt Try.f62 0) impl_WorldOk_l4.d ((x4_0, ()), (x4_1, (x4_2, (x4_3, (x4_4, ()))))) = (And (Imp ((decide (x4_4 < x4_3)) = true) (And ((0 : Int) ≤ x4_4 ∧ x4_4 < (x4_2.length : Int)) (And (Imp ((bif (x4_2.getD (x4_4).toNat zCh).id != (wrap (x4_4 + 1)) then true else !(impl_ChainOk.S (x4_2.getD (x4_4).toNat zCh))) = true) (impl_WorldOk_l4.o x4_0 x4_1 x4_2 x4_3 x4_4 (impl_WorldOk_l4.R x4_0 x4_1 x4_2 x4_3 x4_4) = (.ret, [.c (.ptr 0 0), .c (.bool false), .c (.arr false (.chs x4_2)), .c (.int x4_3), .c (.int x4_4)], [.raw 1 [.arr false (.chs x4_0)]]))) (Imp ((bif (x4_2.getD (x4_4).toNat zCh).id != (wrap (x4_4 + 1)) then true else !(impl_ChainOk.S (x4_2.getD (x4_4).toNat zCh))) = false) (And ((0 : Int) ≤ (wrap (1 - x4_4)) ∧ (wrap (1 - x4_4)) < (x4_0.length : Int)) (And (Imp (And ((decide (((x4_2.getD (x4_4).toNat zCh).knows.length : Int) > 0)) = true) (True)) ((0 : Int) ≤ (wrap (((x4_2.getD (x4_4).toNat zCh).knows.length : Int) - 1)) ∧ (wrap (((x4_2.getD (x4_4).toNat zCh).knows.length : Int) - 1)) < ((x4_2.getD (x4_4).toNat zCh).knows.length : Int))) (And (Imp ((bif decide (((x4_2.getD (x4_4).toNat zCh).knows.length : Int) > 0) then decide (((x4_2.getD (x4_4).toNat zCh).knows.getD (wrap (((x4_2.getD (x4_4).toNat zCh).knows.length : Int) - 1)).toNat 0) > ((x4_0.getD (wrap (1 - x4_4)).toNat zCh).past.length : Int)) else false) = true) (impl_WorldOk_l4.o x4_0 x4_1 x4_2 x4_3 x4_4 (impl_WorldOk_l4.R x4_0 x4_1 x4_2 x4_3 x4_4) = (.ret, [.c (.ptr 0 0), .c (.bool false), .c (.arr false (.chs x4_2)), .c (.int x4_3), .c (.int x4_4)], [.raw 1 [.arr false (.chs x4_0)]]))) (Imp ((bif decide (((x4_2.getD (x4_4).toNat zCh).knows.length : Int) > 0) then decide (((x4_2.getD (x4_4).toNat zCh).knows.getD (wrap (((x4_2.getD (x4_4).toNat zCh).knows.length : Int) - 1)).toNat 0) > ((x4_0.getD (wrap (1 - x4_4)).toNat zCh).past.length : Int)) else false) = false) (And (impl_WorldOk_l4.P x4_0 x4_1 x4_2 x4_3 (wrap (x4_4 + 1))) (And (impl_WorldOk_l4.M x4_0 x4_1 x4_2 x4_3 (wrap (x4_4 + 1)) < impl_WorldOk_l4.M x4_0 x4_1 x4_2 x4_3 x4_4) (impl_WorldOk_l4.o x4_0 x4_1 x4_2 x4_3 (wrap (x4_4 + 1)) (impl_WorldOk_l4.R x4_0 x4_1 x4_2 x4_3 (wrap (x4_4 + 1))) = impl_WorldOk_l4.o x4_0 x4_1 x4_2 x4_3 x4_4 (impl_WorldOk_l4.R x4_0 x4_1 x4_2 x4_3 x4_4)))))))))))) (Imp ((decide (x4_4 < x4_3)) = false) (impl_WorldOk_l4.o x4_0 x4_1 x4_2 x4_3 x4_4 (impl_WorldOk_l4.R x4_0 x4_1 x4_2 x4_3 x4_4) = (.exit 0, [.c (.ptr 0 0), .c (.bool x4_1), .c (.arr false (.chs x4_2)), .c (.int x4_3), .c (.int x4_4)], [.raw 1 [.arr false (.chs x4_0)]])))) := by kernel_rfl
theorem impl_WorldOk_l4.v (x4_0 : List Ch) (x4_1 : Bool) (x4_2 : List Ch) (x4_3 : Int) (x4_4 : Int) (hp : impl_WorldOk_l4.P x4_0 x4_1 x4_2 x4_3 x4_4) : And (Imp ((decide (x4_4 < x4_3)) = true) (And ((0 : Int) ≤ x4_4 ∧ x4_4 < (x4_2.length : Int)) (And (Imp ((bif (x4_2.getD (x4_4).toNat zCh).id != (wrap (x4_4 + 1)) then true else !(impl_ChainOk.S (x4_2.getD (x4_4).toNat zCh))) = true) (impl_WorldOk_l4.o x4_0 x4_1 x4_2 x4_3 x4_4 (impl_WorldOk_l4.R x4_0 x4_1 x4_2 x4_3 x4_4) = (.ret, [.c (.ptr 0 0), .c (.bool false), .c (.arr false (.chs x4_2)), .c (.int x4_3), .c (.int x4_4)], [.raw 1 [.arr false (.chs x4_0)]]))) (Imp ((bif (x4_2.getD (x4_4).toNat zCh).id != (wrap (x4_4 + 1)) then true else !(impl_ChainOk.S (x4_2.getD (x4_4).toNat zCh))) = false) (And ((0 : Int) ≤ (wrap (1 - x4_4)) ∧ (wrap (1 - x4_4)) < (x4_0.length : Int)) (And (Imp (And ((decide (((x4_2.getD (x4_4).toNat zCh).knows.length : Int) > 0)) = true) (True)) ((0 : Int) ≤ (wrap (((x4_2.getD (x4_4).toNat zCh).knows.length : Int) - 1)) ∧ (wrap (((x4_2.getD (x4_4).toNat zCh).knows.length : Int) - 1)) < ((x4_2.getD (x4_4).toNat zCh).knows.length : Int))) (And (Imp ((bif decide (((x4_2.getD (x4_4).toNat zCh).knows.length : Int) > 0) then decide (((x4_2.getD (x4_4).toNat zCh).knows.getD (wrap (((x4_2.getD (x4_4).toNat zCh).knows.length : Int) - 1)).toNat 0) > ((x4_0.getD (wrap (1 - x4_4)).toNat zCh).past.length : Int)) else false) = true) (impl_WorldOk_l4.o x4_0 x4_1 x4_2 x4_3 x4_4 (impl_WorldOk_l4.R x4_0 x4_1 x4_2 x4_3 x4_4) = (.ret, [.c (.ptr 0 0), .c (.bool false), .c (.arr false (.chs x4_2)), .c (.int x4_3), .c (.int x4_4)], [.raw 1 [.arr false (.chs x4_0)]]))) (Imp ((bif decide (((x4_2.getD (x4_4).toNat zCh).knows.length : Int) > 0) then decide (((x4_2.getD (x4_4).toNat zCh).knows.getD (wrap (((x4_2.getD (x4_4).toNat zCh).knows.length : Int) - 1)).toNat 0) > ((x4_0.getD (wrap (1 - x4_4)).toNat zCh).past.length : Int)) else false) = false) (And (impl_WorldOk_l4.P x4_0 x4_1 x4_2 x4_3 (wrap (x4_4 + 1))) (And (impl_WorldOk_l4.M x4_0 x4_1 x4_2 x4_3 (wrap (x4_4 + 1)) < impl_WorldOk_l4.M x4_0 x4_1 x4_2 x4_3 x4_4) (impl_WorldOk_l4.o x4_0 x4_1 x4_2 x4_3 (wrap (x4_4 + 1)) (impl_WorldOk_l4.R x4_0 x4_1 x4_2 x4_3 (wrap (x4_4 + 1))) = impl_WorldOk_l4.o x4_0 x4_1 x4_2 x4_3 x4_4 (impl_WorldOk_l4.R x4_0 x4_1 x4_2 x4_3 x4_4)))))))))))) (Imp ((decide (x4_4 < x4_3)) = false) (impl_WorldOk_l4.o x4_0 x4_1 x4_2 x4_3 x4_4 (impl_WorldOk_l4.R x4_0 x4_1 x4_2 x4_3 x4_4) = (.exit 0, [.c (.ptr 0 0), .c (.bool x4_1), .c (.arr false (.chs x4_2)), .c (.int x4_3), .c (.int x4_4)], [.raw 1 [.arr false (.chs x4_0)]]))) := by
  simp only [impl_WorldOk_l4.P] at hp
  obtain ⟨p0, p1, p2, p3, p4, p5, p6⟩ := hp
  refine ⟨fun h1 => ?_, fun h1 => ?_⟩
  · refine ⟨by first | assumption | omega | grind [wrap_id, chs_1, chs_2, chs_3, chs_4, chs_5], ?_⟩
    refine ⟨fun h2 => ?_, fun h2 => ?_⟩
    · have e : impl_WorldOk_l4.R x4_0 x4_1 x4_2 x4_3 x4_4 = (0, (false, (x4_4, ()))) := by unfold impl_WorldOk_l4.R; rw [impl_WorldOk_l4.S]; exact (cond_t h1).trans <| (cond_t h2).trans <| rfl
      rw [e]
      rfl
    · refine ⟨by first | assumption | omega | grind [wrap_id, chs_1, chs_2, chs_3, chs_4, chs_5], ?_⟩
      refine ⟨by intro hπ; first | assumption | omega | grind [wrap_id, chs_1, chs_2, chs_3, chs_4, chs_5], ?_⟩
      refine ⟨fun h3 => ?_, fun h3 => ?_⟩
      · have e : impl_WorldOk_l4.R x4_0 x4_1 x4_2 x4_3 x4_4 = (0, (false, (x4_4, ()))) := by unfold impl_WorldOk_l4.R; rw [impl_WorldOk_l4.S]; exact (cond_t h1).trans <| (cond_f h2).trans <| (cond_t h3).trans <| rfl
        rw [e]
        rfl
      · have hμ : impl_WorldOk_l4.M x4_0 x4_1 x4_2 x4_3 x4_4 = impl_WorldOk_l4.M x4_0 x4_1 x4_2 x4_3 (wrap (x4_4 + 1)) + 1 := by simp only [impl_WorldOk_l4.M]; first | omega | grind [wrap_id]
        refine ⟨by simp only [impl_WorldOk_l4.P]; refine ⟨(by first | assumption | omega | grind [wrap_id, chs_1, chs_2, chs_3, chs_4, chs_5]), (by first | assumption | omega | grind [wrap_id, chs_1, chs_2, chs_3, chs_4, chs_5]), (by first | assumption | omega | grind [wrap_id, chs_1, chs_2, chs_3, chs_4, chs_5]), (by first | assumption | omega | grind [wrap_id, chs_1, chs_2, chs_3, chs_4, chs_5]), (by first | assumption | omega | grind [wrap_id, chs_1, chs_2, chs_3, chs_4, chs_5]), (by first | assumption | omega | grind [wrap_id, chs_1, chs_2, chs_3, chs_4, chs_5]), (by first | assumption | omega | grind [wrap_id, chs_1, chs_2, chs_3, chs_4, chs_5])⟩, by omega, ?_⟩
        have e : impl_WorldOk_l4.R x4_0 x4_1 x4_2 x4_3 x4_4 = impl_WorldOk_l4.R x4_0 x4_1 x4_2 x4_3 (wrap (x4_4 + 1)) := by
          have e1 : impl_WorldOk_l4.R x4_0 x4_1 x4_2 x4_3 x4_4 = impl_WorldOk_l4.S (impl_WorldOk_l4.M x4_0 x4_1 x4_2 x4_3 x4_4) x4_0 x4_1 x4_2 x4_3 (wrap (x4_4 + 1)) := by unfold impl_WorldOk_l4.R; rw [impl_WorldOk_l4.S]; exact (cond_t h1).trans <| (cond_f h2).trans <| (cond_f h3).trans <| rfl
          rw [e1, hμ]
          rfl
        rw [e]
        rfl
  · have e : impl_WorldOk_l4.R x4_0 x4_1 x4_2 x4_3 x4_4 = (1, (false, (x4_4, ()))) := by unfold impl_WorldOk_l4.R; rw [impl_WorldOk_l4.S]; exact (cond_f h1).trans <| rfl
    rw [e]
    rfl
theorem impl_WorldOk_l4.g (hG : ∀ c ∈ [impl_ChainOk.c], Good Try.prog c) : LGood Try.prog Try.f62.ntmps impl_WorldOk_l4.d.ctr (bodyAt Try.f62 0) := by
  refine lgoodS (sp := []) (LL := []) hG (by kernel_rfl) (by rw [show loopsOf (bodyAt Try.f62 0) = [] from by kernel_rfl]; exact noL rfl) fun s hp => ?_
  refine Eq.mpr (impl_WorldOk_l4.w s.1.1 s.2.1 s.2.2.1 s.2.2.2.1 s.2.2.2.2.1) ?_
  replace hp : impl_WorldOk_l4.P s.1.1 s.2.1 s.2.2.1 s.2.2.2.1 s.2.2.2.2.1 := hp
  exact impl_WorldOk_l4.v _ _ _ _ _ hp
def impl_WorldOk_l4.E (x4_0 : List Ch) (x4_1 : Bool) (x4_2 : List Ch) (x4_3 : Int) (k : Nat) (a : Unit) : Option (Nat × Bool × Int × Unit) := bif bif (x4_2.getD k zCh).id != (wrap ((k : Int) + 1)) then true else !(impl_ChainOk.S (x4_2.getD k zCh)) then some (0, (false, ((k : Int), ()))) else bif bif decide (((x4_2.getD k zCh).knows.length : Int) > 0) then decide (((x4_2.getD k zCh).knows.getD (wrap (((x4_2.getD k zCh).knows.length : Int) - 1)).toNat 0) > ((x4_0.getD (wrap (1 - (k : Int))).toNat zCh).past.length : Int)) else false then some (0, (false, ((k : Int), ()))) else none
def impl_WorldOk_l4.A (x4_0 : List Ch) (x4_1 : Bool) (x4_2 : List Ch) (x4_3 : Int) (k : Nat) (a : Unit) : Unit := bif bif (x4_2.getD k zCh).id != (wrap ((k : Int) + 1)) then true else !(impl_ChainOk.S (x4_2.getD k zCh)) then a else bif bif decide (((x4_2.getD k zCh).knows.length : Int) > 0) then decide (((x4_2.getD k zCh).knows.getD (wrap (((x4_2.getD k zCh).knows.length : Int) - 1)).toNat 0) > ((x4_0.getD (wrap (1 - (k : Int))).toNat zCh).past.length : Int)) else false then a else ()
def impl_WorldOk_l4.fin (x4_0 : List Ch) (x4_1 : Bool) (x4_2 : List Ch) (x4_3 : Int) (k : Nat) (a : Unit) : Nat × Bool × Int × Unit := (1, (false, ((k : Int), ())))
def impl_WorldOk_l4.acc (x4_0 : List Ch) (x4_1 : Bool) (x4_2 : List Ch) (x4_3 : Int) (a : Unit) : Nat → Unit
  | 0 => a
  | k + 1 => impl_WorldOk_l4.A x4_0 x4_1 x4_2 x4_3 k (impl_WorldOk_l4.acc x4_0 x4_1 x4_2 x4_3 a k)
theorem impl_WorldOk_l4.law (x4_0 : List Ch) (x4_1 : Bool) (x4_2 : List Ch) (x4_3 : Int) (a : Unit) (n : Nat) (hT : x4_3 = (n : Int)) (hn : (n : Int) ≤ 9223372036854775807) :
    ((∀ k, k < n → impl_WorldOk_l4.E x4_0 x4_1 x4_2 x4_3 k (impl_WorldOk_l4.acc x4_0 x4_1 x4_2 x4_3 a k) = none) ∧ impl_WorldOk_l4.R x4_0 x4_1 x4_2 x4_3 0 = impl_WorldOk_l4.fin x4_0 x4_1 x4_2 x4_3 n (impl_WorldOk_l4.acc x4_0 x4_1 x4_2 x4_3 a n)) ∨ (∃ k r, k < n ∧ impl_WorldOk_l4.E x4_0 x4_1 x4_2 x4_3 k (impl_WorldOk_l4.acc x4_0 x4_1 x4_2 x4_3 a k) = some r ∧ (∀ j, j < k → impl_WorldOk_l4.E x4_0 x4_1 x4_2 x4_3 j (impl_WorldOk_l4.acc x4_0 x4_1 x4_2 x4_3 a j) = none) ∧ impl_WorldOk_l4.R x4_0 x4_1 x4_2 x4_3 0 = r) := by
  have hM : impl_WorldOk_l4.M x4_0 x4_1 x4_2 x4_3 0 + 1 = n + 1 := by simp only [impl_WorldOk_l4.M]; omega
  unfold impl_WorldOk_l4.R
  rw [hM]
  refine loopE (fun m i b => impl_WorldOk_l4.S m x4_0 x4_1 x4_2 x4_3 i) n hn (impl_WorldOk_l4.acc x4_0 x4_1 x4_2 x4_3 a) (impl_WorldOk_l4.E x4_0 x4_1 x4_2 x4_3 ) (impl_WorldOk_l4.fin x4_0 x4_1 x4_2 x4_3 ) fun m k hk => ?_
  have ha : impl_WorldOk_l4.acc x4_0 x4_1 x4_2 x4_3 a (k + 1) = impl_WorldOk_l4.A x4_0 x4_1 x4_2 x4_3 k (impl_WorldOk_l4.acc x4_0 x4_1 x4_2 x4_3 a k) := rfl
  rw [ha]
  generalize impl_WorldOk_l4.acc x4_0 x4_1 x4_2 x4_3 a k = b
  simp only [impl_WorldOk_l4.S, impl_WorldOk_l4.E, impl_WorldOk_l4.A, impl_WorldOk_l4.fin, hT, Int.toNat_natCast]
  all_goals grind
theorem impl_WorldOk.w (a0 : List Ch) (K : AV → List Blk → Prop) : evFn (envS [impl_ChainOk.c] []) [impl_WorldOk_l4.d.ctr] [] [] Try.f62 [] (impl_WorldOk.L.enc (a0, ())) K = (And (Imp (((a0.length : Int) != 2) = true) (K (.v (.c (.bool false))) ([]))) (Imp (((a0.length : Int) != 2) = false) (And (impl_WorldOk_l4.P a0 false a0 (a0.length : Int) 0) (And (Imp (Nat.beq (impl_WorldOk_l4.R a0 false a0 (a0.length : Int) 0).1 0 = true) (K (.v (.c (.bool (impl_WorldOk_l4.R a0 false a0 (a0.length : Int) 0).2.1))) ([]))) (Imp (Nat.beq (impl_WorldOk_l4.R a0 false a0 (a0.length : Int) 0).1 0 = false) (K (.v (.c (.bool true))) ([]))))))) := by kernel_rfl
theorem impl_WorldOk.v (a0 : List Ch) (hf : chsFact a0 ∧ True) (K : AV → List Blk → Prop) (hK : K (impl_WorldOk.enc (impl_WorldOk.S a0)).1 (impl_WorldOk.enc (impl_WorldOk.S a0)).2) : And (Imp (((a0.length : Int) != 2) = true) (K (.v (.c (.bool false))) ([]))) (Imp (((a0.length : Int) != 2) = false) (And (impl_WorldOk_l4.P a0 false a0 (a0.length : Int) 0) (And (Imp (Nat.beq (impl_WorldOk_l4.R a0 false a0 (a0.length : Int) 0).1 0 = true) (K (.v (.c (.bool (impl_WorldOk_l4.R a0 false a0 (a0.length : Int) 0).2.1))) ([]))) (Imp (Nat.beq (impl_WorldOk_l4.R a0 false a0 (a0.length : Int) 0).1 0 = false) (K (.v (.c (.bool true))) ([])))))) := by
  obtain ⟨f0, -⟩ := hf
  try simp only [big] at *
  refine ⟨fun h1 => ?_, fun h1 => ?_⟩
  · have e : impl_WorldOk.S a0 = (false) := by unfold impl_WorldOk.S; exact (cond_t h1).trans <| rfl
    rw [e] at hK
    exact hK
  · refine ⟨by simp only [impl_WorldOk_l4.P]; refine ⟨(by first | assumption | omega | grind [wrap_id, chs_1, chs_2, chs_3, chs_4, chs_5]), (by first | assumption | omega | grind [wrap_id, chs_1, chs_2, chs_3, chs_4, chs_5]), (by first | assumption | omega | grind [wrap_id, chs_1, chs_2, chs_3, chs_4, chs_5]), (by first | assumption | omega | grind [wrap_id, chs_1, chs_2, chs_3, chs_4, chs_5]), (by first | assumption | omega | grind [wrap_id, chs_1, chs_2, chs_3, chs_4, chs_5]), (by first | assumption | omega | grind [wrap_id, chs_1, chs_2, chs_3, chs_4, chs_5]), (by first | assumption | omega | grind [wrap_id, chs_1, chs_2, chs_3, chs_4, chs_5])⟩, ?_⟩
    refine ⟨fun h2 => ?_, fun h2 => ?_⟩
    · have e : impl_WorldOk.S a0 = ((impl_WorldOk_l4.R a0 false a0 (a0.length : Int) 0).2.1) := by unfold impl_WorldOk.S; exact (cond_f h1).trans <| (cond_t h2).trans <| rfl
      rw [e] at hK
      exact hK
    · have e : impl_WorldOk.S a0 = (true) := by unfold impl_WorldOk.S; exact (cond_f h1).trans <| (cond_f h2).trans <| rfl
      rw [e] at hK
      exact hK
theorem impl_WorldOk.good : Good Try.prog impl_WorldOk.c :=
  vgood (sh := []) (sp := []) (LL := [impl_WorldOk_l4.d.ctr]) (consG impl_ChainOk.good noG) (fn := Try.f62) (by kernel_rfl) (by kernel_rfl) (by rw [show loopsOf (bodyOf Try.f62) = [(bodyAt Try.f62 0)] from by kernel_rfl]; exact consL (l := impl_WorldOk_l4.d.ctr) (by kernel_rfl) (impl_WorldOk_l4.g (consG impl_ChainOk.good noG)) (noL rfl)) fun s hp hf => by
    exact Eq.mpr (impl_WorldOk.w (s.1) (fun r bs' => And (r = (impl_WorldOk.c.out s).1) (bs' = (impl_WorldOk.c.out s).2))) (impl_WorldOk.v (s.1) hf (fun r bs' => And (r = (impl_WorldOk.c.out s).1) (bs' = (impl_WorldOk.c.out s).2)) ⟨rfl, rfl⟩)
theorem spec_WorldOk_len {l : List Ch} (h : spec_WorldOk.S l = true) : l.length = 2 := by
  unfold spec_WorldOk.S at h
  grind
/-! ### spec.SumDone -/
def spec_SumDone.S (a0 : List Ch) : Bool := (bif (spec_WorldOk.S a0) then (wrap ((spec_l3Live.S (a0.getD 0 zCh).st) + (spec_l3Live.S (a0.getD 1 zCh).st))) == 0 else false)
def spec_SumDone.enc (r : Bool) : AV × List Blk := (.v (.c (.bool r)), [])
def spec_SumDone.L : ShL := sCons sW (sNil)
def spec_SumDone.c : Ctr := vctr 38 spec_SumDone.L none (fun s => spec_SumDone.enc (spec_SumDone.S s.1))
theorem spec_SumDone.w (a0 : List Ch) (K : AV → List Blk → Prop) : evFn (envS [spec_WorldOk.c, spec_l3Live.c] []) [] [] [] Try.f38 [] (spec_SumDone.L.enc (a0, ())) K = (And (Imp (And ((spec_WorldOk.S a0) = true) (True)) ((0 : Int) ≤ 0 ∧ 0 < (a0.length : Int))) (And (Imp (And ((spec_WorldOk.S a0) = true) (True)) ((0 : Int) ≤ 1 ∧ 1 < (a0.length : Int))) (K (.v (.c (.bool (bif (spec_WorldOk.S a0) then (wrap ((spec_l3Live.S (a0.getD 0 zCh).st) + (spec_l3Live.S (a0.getD 1 zCh).st))) == 0 else false)))) ([])))) := by kernel_rfl
theorem spec_SumDone.v (a0 : List Ch) (hf : chsFact a0 ∧ True) (K : AV → List Blk → Prop) (hK : K (spec_SumDone.enc (spec_SumDone.S a0)).1 (spec_SumDone.enc (spec_SumDone.S a0)).2) : And (Imp (And ((spec_WorldOk.S a0) = true) (True)) ((0 : Int) ≤ 0 ∧ 0 < (a0.length : Int))) (And (Imp (And ((spec_WorldOk.S a0) = true) (True)) ((0 : Int) ≤ 1 ∧ 1 < (a0.length : Int))) (K (.v (.c (.bool (bif (spec_WorldOk.S a0) then (wrap ((spec_l3Live.S (a0.getD 0 zCh).st) + (spec_l3Live.S (a0.getD 1 zCh).st))) == 0 else false)))) ([]))) := by
  obtain ⟨f0, -⟩ := hf
  try simp only [big] at *
  refine ⟨by intro hπ; first | assumption | omega | grind [wrap_id, chs_1, chs_2, chs_3, chs_4, chs_5, spec_WorldOk_len], ?_⟩
  refine ⟨by intro hπ; first | assumption | omega | grind [wrap_id, chs_1, chs_2, chs_3, chs_4, chs_5, spec_WorldOk_len], ?_⟩
  have e : spec_SumDone.S a0 = (bif (spec_WorldOk.S a0) then (wrap ((spec_l3Live.S (a0.getD 0 zCh).st) + (spec_l3Live.S (a0.getD 1 zCh).st))) == 0 else false) := by unfold spec_SumDone.S; exact rfl
  rw [e] at hK
  exact hK
theorem spec_SumDone.good : Good Try.prog spec_SumDone.c :=
  vgood (sh := []) (sp := []) (LL := []) (consG spec_WorldOk.good (consG spec_l3Live.good noG)) (fn := Try.f38) (by kernel_rfl) (by kernel_rfl) (by rw [show loopsOf (bodyOf Try.f38) = [] from by kernel_rfl]; exact noL rfl) fun s hp hf => by
    exact Eq.mpr (spec_SumDone.w (s.1) (fun r bs' => And (r = (spec_SumDone.c.out s).1) (bs' = (spec_SumDone.c.out s).2))) (spec_SumDone.v (s.1) hf (fun r bs' => And (r = (spec_SumDone.c.out s).1) (bs' = (spec_SumDone.c.out s).2)) ⟨rfl, rfl⟩)
/-! ### impl.SumDone -/
def impl_SumDone_l4.S : Nat → Bool → (List Ch) → Int → Int → Nat × Bool × Int × Unit
  | 0, _, _, _, _ => (0, (false, (0, ())))
  | n + 1, x4_0, x4_1, x4_2, x4_3 => bif decide (x4_3 < x4_2) then bif !(impl_wayIdle.S (x4_1.getD (x4_3).toNat zCh).st) then (0, (false, (x4_3, ()))) else impl_SumDone_l4.S n x4_0 x4_1 x4_2 (wrap (x4_3 + 1)) else (1, (false, (x4_3, ())))
def impl_SumDone_l4.M (x4_0 : Bool) (x4_1 : List Ch) (x4_2 : Int) (x4_3 : Int) : Nat := (x4_2 - x4_3).toNat
def impl_SumDone_l4.R (x4_0 : Bool) (x4_1 : List Ch) (x4_2 : Int) (x4_3 : Int) : Nat × Bool × Int × Unit := impl_SumDone_l4.S (impl_SumDone_l4.M x4_0 x4_1 x4_2 x4_3 + 1) x4_0 x4_1 x4_2 x4_3
def impl_SumDone_l4.P (x4_0 : Bool) (x4_1 : List Ch) (x4_2 : Int) (x4_3 : Int) : Prop := (0 ≤ x4_3) ∧ (x4_2 ≤ 9223372036854775807) ∧ (x4_2 = (x4_1.length : Int)) ∧ (chsFact x4_1)
def impl_SumDone_l4.L : FL := fCons (fC cBool) (fCons (fC (cArr false kChs)) (fCons (fC cInt) (fCons (fC cInt) (fNil))))
def impl_SumDone_l4.o0 (x4_0 : Bool) (x4_1 : List Ch) (x4_2 : Int) (x4_3 : Int) (r : Nat × Bool × Int × Unit) : Ex × List FV × List Blk := (.ret, [.c (.bool r.2.1), .c (.arr false (.chs x4_1)), .c (.int x4_2), .c (.int r.2.2.1)], [])
def impl_SumDone_l4.o1 (x4_0 : Bool) (x4_1 : List Ch) (x4_2 : Int) (x4_3 : Int) (r : Nat × Bool × Int × Unit) : Ex × List FV × List Blk := (.exit 0, [.c (.bool x4_0), .c (.arr false (.chs x4_1)), .c (.int x4_2), .c (.int r.2.2.1)], [])
def impl_SumDone_l4.o (x4_0 : Bool) (x4_1 : List Ch) (x4_2 : Int) (x4_3 : Int) (r : Nat × Bool × Int × Unit) : Ex × List FV × List Blk := pickAlt [(Nat.beq r.1 0, impl_SumDone_l4.o0 x4_0 x4_1 x4_2 x4_3 r)] (impl_SumDone_l4.o1 x4_0 x4_1 x4_2 x4_3 r)
def impl_SumDone_l4.d : LDat := ldat 4 [2, 9, 10, 11] [] impl_SumDone_l4.L (fun s => impl_SumDone_l4.P s.1 s.2.1 s.2.2.1 s.2.2.2.1) (fun s => [(Nat.beq (impl_SumDone_l4.R s.1 s.2.1 s.2.2.1 s.2.2.2.1).1 0, impl_SumDone_l4.o0 s.1 s.2.1 s.2.2.1 s.2.2.2.1 (impl_SumDone_l4.R s.1 s.2.1 s.2.2.1 s.2.2.2.1))]) (fun s => impl_SumDone_l4.o1 s.1 s.2.1 s.2.2.1 s.2.2.2.1 (impl_SumDone_l4.R s.1 s.2.1 s.2.2.1 s.2.2.2.1)) (fun s => impl_SumDone_l4.M s.1 s.2.1 s.2.2.1 s.2.2.2.1)
def impl_SumDone.S (a0 : List Ch) : Bool := bif !(impl_WorldOk.S a0) then (false) else bif Nat.beq (impl_SumDone_l4.R false a0 (a0.length : Int) 0).1 0 then ((impl_SumDone_l4.R false a0 (a0.length : Int) 0).2.1) else (true)
def impl_SumDone.enc (r : Bool) : AV × List Blk := (.v (.c (.bool r)), [])
def impl_SumDone.L : ShL := sCons sW (sNil)
def impl_SumDone.c : Ctr := vctr 37 impl_SumDone.L none (fun s => impl_SumDone.enc (impl_SumDone.S s.1))
theorem impl_SumDone_l4.w (x4_0 : Bool) (x4_1 : List Ch) (x4_2 : Int) (x4_3 : Int) : evBody (envS [impl_WorldOk.c, impl_wayIdle.c] []) [] (bodyAt Try.f37 0) impl_SumDone_l4.d (x4_0, (x4_1, (x4_2, (x4_3, ())))) = (And (Imp ((decide (x4_3 < x4_2)) = true) (And ((0 : Int) ≤ x4_3 ∧ x4_3 < (x4_1.length : Int)) (And (Imp ((!(impl_wayIdle.S (x4_1.getD (x4_3).toNat zCh).st)) = true) (impl_SumDone_l4.o x4_0 x4_1 x4_2 x4_3 (impl_SumDone_l4.R x4_0 x4_1 x4_2 x4_3) = (.ret, [.c (.bool false), .c (.arr false (.chs x4_1)), .c (.int x4_2), .c (.int x4_3)], []))) (Imp ((!(impl_wayIdle.S (x4_1.getD (x4_3).toNat zCh).st)) = false) (And (impl_SumDone_l4.P x4_0 x4_1 x4_2 (wrap (x4_3 + 1))) (And (impl_SumDone_l4.M x4_0 x4_1 x4_2 (wrap (x4_3 + 1)) < impl_SumDone_l4.M x4_0 x4_1 x4_2 x4_3) (impl_SumDone_l4.o x4_0 x4_1 x4_2 (wrap (x4_3 + 1)) (impl_SumDone_l4.R x4_0 x4_1 x4_2 (wrap (x4_3 + 1))) = impl_SumDone_l4.o x4_0 x4_1 x4_2 x4_3 (impl_SumDone_l4.R x4_0 x4_1 x4_2 x4_3)))))))) (Imp ((decide (x4_3 < x4_2)) = false) (impl_SumDone_l4.o x4_0 x4_1 x4_2 x4_3 (impl_SumDone_l4.R x4_0 x4_1 x4_2 x4_3) = (.exit 0, [.c (.bool x4_0), .c (.arr false (.chs x4_1)), .c (.int x4_2), .c (.int x4_3)], [])))) := by kernel_rfl
theorem impl_SumDone_l4.v (x4_0 : Bool) (x4_1 : List Ch) (x4_2 : Int) (x4_3 : Int) (hp : impl_SumDone_l4.P x4_0 x4_1 x4_2 x4_3) : And (Imp ((decide (x4_3 < x4_2)) = true) (And ((0 : Int) ≤ x4_3 ∧ x4_3 < (x4_1.length : Int)) (And (Imp ((!(impl_wayIdle.S (x4_1.getD (x4_3).toNat zCh).st)) = true) (impl_SumDone_l4.o x4_0 x4_1 x4_2 x4_3 (impl_SumDone_l4.R x4_0 x4_1 x4_2 x4_3) = (.ret, [.c (.bool false), .c (.arr false (.chs x4_1)), .c (.int x4_2), .c (.int x4_3)], []))) (Imp ((!(impl_wayIdle.S (x4_1.getD (x4_3).toNat zCh).st)) = false) (And (impl_SumDone_l4.P x4_0 x4_1 x4_2 (wrap (x4_3 + 1))) (And (impl_SumDone_l4.M x4_0 x4_1 x4_2 (wrap (x4_3 + 1)) < impl_SumDone_l4.M x4_0 x4_1 x4_2 x4_3) (impl_SumDone_l4.o x4_0 x4_1 x4_2 (wrap (x4_3 + 1)) (impl_SumDone_l4.R x4_0 x4_1 x4_2 (wrap (x4_3 + 1))) = impl_SumDone_l4.o x4_0 x4_1 x4_2 x4_3 (impl_SumDone_l4.R x4_0 x4_1 x4_2 x4_3)))))))) (Imp ((decide (x4_3 < x4_2)) = false) (impl_SumDone_l4.o x4_0 x4_1 x4_2 x4_3 (impl_SumDone_l4.R x4_0 x4_1 x4_2 x4_3) = (.exit 0, [.c (.bool x4_0), .c (.arr false (.chs x4_1)), .c (.int x4_2), .c (.int x4_3)], []))) := by
  simp only [impl_SumDone_l4.P] at hp
  obtain ⟨p0, p1, p2, p3⟩ := hp
  refine ⟨fun h1 => ?_, fun h1 => ?_⟩
  · refine ⟨by first | assumption | omega | grind [wrap_id, chs_1, chs_2, chs_3, chs_4, chs_5], ?_⟩
    refine ⟨fun h2 => ?_, fun h2 => ?_⟩
    · have e : impl_SumDone_l4.R x4_0 x4_1 x4_2 x4_3 = (0, (false, (x4_3, ()))) := by unfold impl_SumDone_l4.R; rw [impl_SumDone_l4.S]; exact (cond_t h1).trans <| (cond_t h2).trans <| rfl
      rw [e]
      rfl
    · have hμ : impl_SumDone_l4.M x4_0 x4_1 x4_2 x4_3 = impl_SumDone_l4.M x4_0 x4_1 x4_2 (wrap (x4_3 + 1)) + 1 := by simp only [impl_SumDone_l4.M]; first | omega | grind [wrap_id]
      refine ⟨by simp only [impl_SumDone_l4.P]; refine ⟨(by first | assumption | omega | grind [wrap_id, chs_1, chs_2, chs_3, chs_4, chs_5]), (by first | assumption | omega | grind [wrap_id, chs_1, chs_2, chs_3, chs_4, chs_5]), (by first | assumption | omega | grind [wrap_id, chs_1, chs_2, chs_3, chs_4, chs_5]), (by first | assumption | omega | grind [wrap_id, chs_1, chs_2, chs_3, chs_4, chs_5])⟩, by omega, ?_⟩
      have e : impl_SumDone_l4.R x4_0 x4_1 x4_2 x4_3 = impl_SumDone_l4.R x4_0 x4_1 x4_2 (wrap (x4_3 + 1)) := by
        have e1 : impl_SumDone_l4.R x4_0 x4_1 x4_2 x4_3 = impl_SumDone_l4.S (impl_SumDone_l4.M x4_0 x4_1 x4_2 x4_3) x4_0 x4_1 x4_2 (wrap (x4_3 + 1)) := by unfold impl_SumDone_l4.R; rw [impl_SumDone_l4.S]; exact (cond_t h1).trans <| (cond_f h2).trans <| rfl
        rw [e1, hμ]
        rfl
      rw [e]
      rfl
  · have e : impl_SumDone_l4.R x4_0 x4_1 x4_2 x4_3 = (1, (false, (x4_3, ()))) := by unfold impl_SumDone_l4.R; rw [impl_SumDone_l4.S]; exact (cond_f h1).trans <| rfl
    rw [e]
    rfl
theorem impl_SumDone_l4.g (hG : ∀ c ∈ [impl_WorldOk.c, impl_wayIdle.c], Good Try.prog c) : LGood Try.prog Try.f37.ntmps impl_SumDone_l4.d.ctr (bodyAt Try.f37 0) := by
  refine lgoodS (sp := []) (LL := []) hG (by kernel_rfl) (by rw [show loopsOf (bodyAt Try.f37 0) = [] from by kernel_rfl]; exact noL rfl) fun s hp => ?_
  refine Eq.mpr (impl_SumDone_l4.w s.1 s.2.1 s.2.2.1 s.2.2.2.1) ?_
  replace hp : impl_SumDone_l4.P s.1 s.2.1 s.2.2.1 s.2.2.2.1 := hp
  exact impl_SumDone_l4.v _ _ _ _ hp
def impl_SumDone_l4.E (x4_0 : Bool) (x4_1 : List Ch) (x4_2 : Int) (k : Nat) (a : Unit) : Option (Nat × Bool × Int × Unit) := bif !(impl_wayIdle.S (x4_1.getD k zCh).st) then some (0, (false, ((k : Int), ()))) else none
def impl_SumDone_l4.A (x4_0 : Bool) (x4_1 : List Ch) (x4_2 : Int) (k : Nat) (a : Unit) : Unit := bif !(impl_wayIdle.S (x4_1.getD k zCh).st) then a else ()
def impl_SumDone_l4.fin (x4_0 : Bool) (x4_1 : List Ch) (x4_2 : Int) (k : Nat) (a : Unit) : Nat × Bool × Int × Unit := (1, (false, ((k : Int), ())))
def impl_SumDone_l4.acc (x4_0 : Bool) (x4_1 : List Ch) (x4_2 : Int) (a : Unit) : Nat → Unit
  | 0 => a
  | k + 1 => impl_SumDone_l4.A x4_0 x4_1 x4_2 k (impl_SumDone_l4.acc x4_0 x4_1 x4_2 a k)
theorem impl_SumDone_l4.law (x4_0 : Bool) (x4_1 : List Ch) (x4_2 : Int) (a : Unit) (n : Nat) (hT : x4_2 = (n : Int)) (hn : (n : Int) ≤ 9223372036854775807) :
    ((∀ k, k < n → impl_SumDone_l4.E x4_0 x4_1 x4_2 k (impl_SumDone_l4.acc x4_0 x4_1 x4_2 a k) = none) ∧ impl_SumDone_l4.R x4_0 x4_1 x4_2 0 = impl_SumDone_l4.fin x4_0 x4_1 x4_2 n (impl_SumDone_l4.acc x4_0 x4_1 x4_2 a n)) ∨ (∃ k r, k < n ∧ impl_SumDone_l4.E x4_0 x4_1 x4_2 k (impl_SumDone_l4.acc x4_0 x4_1 x4_2 a k) = some r ∧ (∀ j, j < k → impl_SumDone_l4.E x4_0 x4_1 x4_2 j (impl_SumDone_l4.acc x4_0 x4_1 x4_2 a j) = none) ∧ impl_SumDone_l4.R x4_0 x4_1 x4_2 0 = r) := by
  have hM : impl_SumDone_l4.M x4_0 x4_1 x4_2 0 + 1 = n + 1 := by simp only [impl_SumDone_l4.M]; omega
  unfold impl_SumDone_l4.R
  rw [hM]
  refine loopE (fun m i b => impl_SumDone_l4.S m x4_0 x4_1 x4_2 i) n hn (impl_SumDone_l4.acc x4_0 x4_1 x4_2 a) (impl_SumDone_l4.E x4_0 x4_1 x4_2 ) (impl_SumDone_l4.fin x4_0 x4_1 x4_2 ) fun m k hk => ?_
  have ha : impl_SumDone_l4.acc x4_0 x4_1 x4_2 a (k + 1) = impl_SumDone_l4.A x4_0 x4_1 x4_2 k (impl_SumDone_l4.acc x4_0 x4_1 x4_2 a k) := rfl
  rw [ha]
  generalize impl_SumDone_l4.acc x4_0 x4_1 x4_2 a k = b
  simp only [impl_SumDone_l4.S, impl_SumDone_l4.E, impl_SumDone_l4.A, impl_SumDone_l4.fin, hT, Int.toNat_natCast]
  all_goals grind
theorem impl_SumDone.w (a0 : List Ch) (K : AV → List Blk → Prop) : evFn (envS [impl_WorldOk.c, impl_wayIdle.c] []) [impl_SumDone_l4.d.ctr] [] [] Try.f37 [] (impl_SumDone.L.enc (a0, ())) K = (And (Imp ((!(impl_WorldOk.S a0)) = true) (K (.v (.c (.bool false))) ([]))) (Imp ((!(impl_WorldOk.S a0)) = false) (And (impl_SumDone_l4.P false a0 (a0.length : Int) 0) (And (Imp (Nat.beq (impl_SumDone_l4.R false a0 (a0.length : Int) 0).1 0 = true) (K (.v (.c (.bool (impl_SumDone_l4.R false a0 (a0.length : Int) 0).2.1))) ([]))) (Imp (Nat.beq (impl_SumDone_l4.R false a0 (a0.length : Int) 0).1 0 = false) (K (.v (.c (.bool true))) ([]))))))) := by kernel_rfl
theorem impl_SumDone.v (a0 : List Ch) (hf : chsFact a0 ∧ True) (K : AV → List Blk → Prop) (hK : K (impl_SumDone.enc (impl_SumDone.S a0)).1 (impl_SumDone.enc (impl_SumDone.S a0)).2) : And (Imp ((!(impl_WorldOk.S a0)) = true) (K (.v (.c (.bool false))) ([]))) (Imp ((!(impl_WorldOk.S a0)) = false) (And (impl_SumDone_l4.P false a0 (a0.length : Int) 0) (And (Imp (Nat.beq (impl_SumDone_l4.R false a0 (a0.length : Int) 0).1 0 = true) (K (.v (.c (.bool (impl_SumDone_l4.R false a0 (a0.length : Int) 0).2.1))) ([]))) (Imp (Nat.beq (impl_SumDone_l4.R false a0 (a0.length : Int) 0).1 0 = false) (K (.v (.c (.bool true))) ([])))))) := by
  obtain ⟨f0, -⟩ := hf
  try simp only [big] at *
  refine ⟨fun h1 => ?_, fun h1 => ?_⟩
  · have e : impl_SumDone.S a0 = (false) := by unfold impl_SumDone.S; exact (cond_t h1).trans <| rfl
    rw [e] at hK
    exact hK
  · refine ⟨by simp only [impl_SumDone_l4.P]; refine ⟨(by first | assumption | omega | grind [wrap_id, chs_1, chs_2, chs_3, chs_4, chs_5]), (by first | assumption | omega | grind [wrap_id, chs_1, chs_2, chs_3, chs_4, chs_5]), (by first | assumption | omega | grind [wrap_id, chs_1, chs_2, chs_3, chs_4, chs_5]), (by first | assumption | omega | grind [wrap_id, chs_1, chs_2, chs_3, chs_4, chs_5])⟩, ?_⟩
    refine ⟨fun h2 => ?_, fun h2 => ?_⟩
    · have e : impl_SumDone.S a0 = ((impl_SumDone_l4.R false a0 (a0.length : Int) 0).2.1) := by unfold impl_SumDone.S; exact (cond_f h1).trans <| (cond_t h2).trans <| rfl
      rw [e] at hK
      exact hK
    · have e : impl_SumDone.S a0 = (true) := by unfold impl_SumDone.S; exact (cond_f h1).trans <| (cond_f h2).trans <| rfl
      rw [e] at hK
      exact hK
theorem impl_SumDone.good : Good Try.prog impl_SumDone.c :=
  vgood (sh := []) (sp := []) (LL := [impl_SumDone_l4.d.ctr]) (consG impl_WorldOk.good (consG impl_wayIdle.good noG)) (fn := Try.f37) (by kernel_rfl) (by kernel_rfl) (by rw [show loopsOf (bodyOf Try.f37) = [(bodyAt Try.f37 0)] from by kernel_rfl]; exact consL (l := impl_SumDone_l4.d.ctr) (by kernel_rfl) (impl_SumDone_l4.g (consG impl_WorldOk.good (consG impl_wayIdle.good noG))) (noL rfl)) fun s hp hf => by
    exact Eq.mpr (impl_SumDone.w (s.1) (fun r bs' => And (r = (impl_SumDone.c.out s).1) (bs' = (impl_SumDone.c.out s).2))) (impl_SumDone.v (s.1) hf (fun r bs' => And (r = (impl_SumDone.c.out s).1) (bs' = (impl_SumDone.c.out s).2)) ⟨rfl, rfl⟩)
end Hw
end Go.Proofs.Ytmhighcagpbmeaa
