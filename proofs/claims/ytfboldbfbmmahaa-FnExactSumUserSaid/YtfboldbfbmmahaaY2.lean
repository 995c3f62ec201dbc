/- Functions that only read, 3: made by gen.py. -/
import Derived.Test.YtfboldbfbmmahaaY1
set_option linter.unusedVariables false
set_option linter.unusedSimpArgs false
set_option maxRecDepth 100000
set_option maxHeartbeats 400000
namespace Go.Proofs.Ytfboldbfbmmahaa
namespace Hw
open Go
noncomputable section
attribute [local irreducible] evFn evBody wrap wxor
def ZT.S : Nat → Ch → Bool → Int → Nat × Bool × Int × Unit
  | 0, _, _, _ => (0, (false, (0, ())))
  | n + 1, y0, y1, y2 => bif decide (y2 < (y0.past.length : Int)) then bif !(ZI.S (y0.past.getD (y2).toNat zSt)) then (0, (false, (y2, ()))) else ZT.S n y0 y1 (wrap (y2 + 1)) else (1, (false, (y2, ())))
def ZT.M (y0 : Ch) (y1 : Bool) (y2 : Int) : Nat := ((y0.past.length : Int) - y2).toNat
def ZT.R (y0 : Ch) (y1 : Bool) (y2 : Int) : Nat × Bool × Int × Unit := ZT.S (ZT.M y0 y1 y2 + 1) y0 y1 y2
def ZT.P (y0 : Ch) (y1 : Bool) (y2 : Int) : Prop := (0 ≤ y2) ∧ ((y0.past.length : Int) ≤ 9223372036854775807) ∧ (stsFact y0.past) ∧ ((bif bif bif !(Zi.S y0.id 1 2) then true else !(Zw.S y0.bank) then true else !(ZI.S y0.st) then true else decide ((y0.past.length : Int) > 90)) = false)
def ZT.L : FL := fCons (fC (cPtr 1 (cChE false) rfl)) (fCons (fC cBool) (fCons (fC cInt) (fNil)))
def ZT.o0 (y0 : Ch) (y1 : Bool) (y2 : Int) (r : Nat × Bool × Int × Unit) : Ex × List FV × List Blk := (.ret, [.c (.ptr 0 0), .c (.bool r.2.1), .c (.int r.2.2.1)], [.raw 1 [.int y0.id, .arr false (.ints y0.bank.own), .arr false (.ints y0.bank.notes), .int y0.bank.locked, .int y0.st.way, .int y0.st.ver, .int y0.st.want, .arr false (.pkts y0.st.sent), .arr false (.bools y0.st.live), .arr false (.bools y0.st.back), .arr false (.ints y0.st.got), .arr false (.sts y0.past), .arr false (.ints y0.knows)]])
def ZT.o1 (y0 : Ch) (y1 : Bool) (y2 : Int) (r : Nat × Bool × Int × Unit) : Ex × List FV × List Blk := (.exit 0, [.c (.ptr 0 0), .c (.bool y1), .c (.int r.2.2.1)], [.raw 1 [.int y0.id, .arr false (.ints y0.bank.own), .arr false (.ints y0.bank.notes), .int y0.bank.locked, .int y0.st.way, .int y0.st.ver, .int y0.st.want, .arr false (.pkts y0.st.sent), .arr false (.bools y0.st.live), .arr false (.bools y0.st.back), .arr false (.ints y0.st.got), .arr false (.sts y0.past), .arr false (.ints y0.knows)]])
def ZT.o (y0 : Ch) (y1 : Bool) (y2 : Int) (r : Nat × Bool × Int × Unit) : Ex × List FV × List Blk := pickAlt [(Nat.beq r.1 0, ZT.o0 y0 y1 y2 r)] (ZT.o1 y0 y1 y2 r)
def ZT.d : LDat := ldat 4 [1, 2, 3] [] ZT.L (fun s => ZT.P s.1 s.2.1 s.2.2.1) (fun s => [(Nat.beq (ZT.R s.1 s.2.1 s.2.2.1).1 0, ZT.o0 s.1 s.2.1 s.2.2.1 (ZT.R s.1 s.2.1 s.2.2.1))]) (fun s => ZT.o1 s.1 s.2.1 s.2.2.1 (ZT.R s.1 s.2.1 s.2.2.1)) (fun s => ZT.M s.1 s.2.1 s.2.2.1)
def ZU.S : Nat → Ch → Bool → Int → Nat × Bool × Int × Unit
  | 0, _, _, _ => (0, (false, (0, ())))
  | n + 1, y0, y1, y2 => bif decide (y2 < (y0.knows.length : Int)) then bif bif !(Zi.S (y0.knows.getD (y2).toNat 0) 1 90) then true else bif decide (y2 > 0) then decide ((y0.knows.getD (wrap (y2 - 1)).toNat 0) ≥ (y0.knows.getD (y2).toNat 0)) else false then (0, (false, (y2, ()))) else ZU.S n y0 y1 (wrap (y2 + 1)) else (1, (false, (y2, ())))
def ZU.M (y0 : Ch) (y1 : Bool) (y2 : Int) : Nat := ((y0.knows.length : Int) - y2).toNat
def ZU.R (y0 : Ch) (y1 : Bool) (y2 : Int) : Nat × Bool × Int × Unit := ZU.S (ZU.M y0 y1 y2 + 1) y0 y1 y2
def ZU.P (y0 : Ch) (y1 : Bool) (y2 : Int) : Prop := (0 ≤ y2) ∧ ((y0.knows.length : Int) ≤ 9223372036854775807) ∧ (stsFact y0.past) ∧ ((bif bif bif !(Zi.S y0.id 1 2) then true else !(Zw.S y0.bank) then true else !(ZI.S y0.st) then true else decide ((y0.past.length : Int) > 90)) = false)
def ZU.L : FL := fCons (fC (cPtr 1 (cChE false) rfl)) (fCons (fC cBool) (fCons (fC cInt) (fNil)))
def ZU.o0 (y0 : Ch) (y1 : Bool) (y2 : Int) (r : Nat × Bool × Int × Unit) : Ex × List FV × List Blk := (.ret, [.c (.ptr 0 0), .c (.bool r.2.1), .c (.int r.2.2.1)], [.raw 1 [.int y0.id, .arr false (.ints y0.bank.own), .arr false (.ints y0.bank.notes), .int y0.bank.locked, .int y0.st.way, .int y0.st.ver, .int y0.st.want, .arr false (.pkts y0.st.sent), .arr false (.bools y0.st.live), .arr false (.bools y0.st.back), .arr false (.ints y0.st.got), .arr false (.sts y0.past), .arr false (.ints y0.knows)]])
def ZU.o1 (y0 : Ch) (y1 : Bool) (y2 : Int) (r : Nat × Bool × Int × Unit) : Ex × List FV × List Blk := (.exit 2, [.c (.ptr 0 0), .c (.bool y1), .c (.int r.2.2.1)], [.raw 1 [.int y0.id, .arr false (.ints y0.bank.own), .arr false (.ints y0.bank.notes), .int y0.bank.locked, .int y0.st.way, .int y0.st.ver, .int y0.st.want, .arr false (.pkts y0.st.sent), .arr false (.bools y0.st.live), .arr false (.bools y0.st.back), .arr false (.ints y0.st.got), .arr false (.sts y0.past), .arr false (.ints y0.knows)]])
def ZU.o (y0 : Ch) (y1 : Bool) (y2 : Int) (r : Nat × Bool × Int × Unit) : Ex × List FV × List Blk := pickAlt [(Nat.beq r.1 0, ZU.o0 y0 y1 y2 r)] (ZU.o1 y0 y1 y2 r)
def ZU.d : LDat := ldat 9 [1, 2, 4] [] ZU.L (fun s => ZU.P s.1 s.2.1 s.2.2.1) (fun s => [(Nat.beq (ZU.R s.1 s.2.1 s.2.2.1).1 0, ZU.o0 s.1 s.2.1 s.2.2.1 (ZU.R s.1 s.2.1 s.2.2.1))]) (fun s => ZU.o1 s.1 s.2.1 s.2.2.1 (ZU.R s.1 s.2.1 s.2.2.1)) (fun s => ZU.M s.1 s.2.1 s.2.2.1)
def ZV.S (a0 : Ch) : Bool := bif bif bif bif !(Zi.S a0.id 1 2) then true else !(Zw.S a0.bank) then true else !(ZI.S a0.st) then true else decide ((a0.past.length : Int) > 90) then (false) else bif Nat.beq (ZT.R a0 false 0).1 0 then ((ZT.R a0 false 0).2.1) else bif Nat.beq (ZU.R a0 false 0).1 0 then ((ZU.R a0 false 0).2.1) else (true)
def ZV.enc (r : Bool) : AV × List Blk := (.v (.c (.bool r)), [])
def ZV.L : ShL := sCons sCh (sNil)
def ZV.c : Ctr := vctr 68 ZV.L none (fun s => ZV.enc (ZV.S s.1))
theorem ZT.w (y0 : Ch) (y1 : Bool) (y2 : Int) : evBody (envS [Zi.c, Zw.c, ZI.c] []) [] (bodyAt Try.f68 0) ZT.d (y0, (y1, (y2, ()))) = (And (Imp ((decide (y2 < (y0.past.length : Int))) = true) (And ((0 : Int) ≤ y2 ∧ y2 < (y0.past.length : Int)) (And (Imp ((!(ZI.S (y0.past.getD (y2).toNat zSt))) = true) (ZT.o y0 y1 y2 (ZT.R y0 y1 y2) = (.ret, [.c (.ptr 0 0), .c (.bool false), .c (.int y2)], [.raw 1 [.int y0.id, .arr false (.ints y0.bank.own), .arr false (.ints y0.bank.notes), .int y0.bank.locked, .int y0.st.way, .int y0.st.ver, .int y0.st.want, .arr false (.pkts y0.st.sent), .arr false (.bools y0.st.live), .arr false (.bools y0.st.back), .arr false (.ints y0.st.got), .arr false (.sts y0.past), .arr false (.ints y0.knows)]]))) (Imp ((!(ZI.S (y0.past.getD (y2).toNat zSt))) = false) (And (ZT.P y0 y1 (wrap (y2 + 1))) (And (ZT.M y0 y1 (wrap (y2 + 1)) < ZT.M y0 y1 y2) (ZT.o y0 y1 (wrap (y2 + 1)) (ZT.R y0 y1 (wrap (y2 + 1))) = ZT.o y0 y1 y2 (ZT.R y0 y1 y2)))))))) (Imp ((decide (y2 < (y0.past.length : Int))) = false) (ZT.o y0 y1 y2 (ZT.R y0 y1 y2) = (.exit 0, [.c (.ptr 0 0), .c (.bool y1), .c (.int y2)], [.raw 1 [.int y0.id, .arr false (.ints y0.bank.own), .arr false (.ints y0.bank.notes), .int y0.bank.locked, .int y0.st.way, .int y0.st.ver, .int y0.st.want, .arr false (.pkts y0.st.sent), .arr false (.bools y0.st.live), .arr false (.bools y0.st.back), .arr false (.ints y0.st.got), .arr false (.sts y0.past), .arr false (.ints y0.knows)]])))) := by kernel_rfl
theorem ZT.v (y0 : Ch) (y1 : Bool) (y2 : Int) (hp : ZT.P y0 y1 y2) : And (Imp ((decide (y2 < (y0.past.length : Int))) = true) (And ((0 : Int) ≤ y2 ∧ y2 < (y0.past.length : Int)) (And (Imp ((!(ZI.S (y0.past.getD (y2).toNat zSt))) = true) (ZT.o y0 y1 y2 (ZT.R y0 y1 y2) = (.ret, [.c (.ptr 0 0), .c (.bool false), .c (.int y2)], [.raw 1 [.int y0.id, .arr false (.ints y0.bank.own), .arr false (.ints y0.bank.notes), .int y0.bank.locked, .int y0.st.way, .int y0.st.ver, .int y0.st.want, .arr false (.pkts y0.st.sent), .arr false (.bools y0.st.live), .arr false (.bools y0.st.back), .arr false (.ints y0.st.got), .arr false (.sts y0.past), .arr false (.ints y0.knows)]]))) (Imp ((!(ZI.S (y0.past.getD (y2).toNat zSt))) = false) (And (ZT.P y0 y1 (wrap (y2 + 1))) (And (ZT.M y0 y1 (wrap (y2 + 1)) < ZT.M y0 y1 y2) (ZT.o y0 y1 (wrap (y2 + 1)) (ZT.R y0 y1 (wrap (y2 + 1))) = ZT.o y0 y1 y2 (ZT.R y0 y1 y2)))))))) (Imp ((decide (y2 < (y0.past.length : Int))) = false) (ZT.o y0 y1 y2 (ZT.R y0 y1 y2) = (.exit 0, [.c (.ptr 0 0), .c (.bool y1), .c (.int y2)], [.raw 1 [.int y0.id, .arr false (.ints y0.bank.own), .arr false (.ints y0.bank.notes), .int y0.bank.locked, .int y0.st.way, .int y0.st.ver, .int y0.st.want, .arr false (.pkts y0.st.sent), .arr false (.bools y0.st.live), .arr false (.bools y0.st.back), .arr false (.ints y0.st.got), .arr false (.sts y0.past), .arr false (.ints y0.knows)]]))) := by
  simp only [ZT.P] at hp
  obtain ⟨p0, p1, p2, p3⟩ := hp
  refine ⟨fun h1 => ?_, fun h1 => ?_⟩
  · refine ⟨by first | exact True.intro | assumption | omega | grind [wrap_id, sts_1, sts_2], ?_⟩
    refine ⟨fun h2 => ?_, fun h2 => ?_⟩
    · have e : ZT.R y0 y1 y2 = (0, (false, (y2, ()))) := by unfold ZT.R; rw [ZT.S]; exact (cond_t h1).trans <| (cond_t h2).trans <| rfl
      rw [e]
      rfl
    · have hμ : ZT.M y0 y1 y2 = ZT.M y0 y1 (wrap (y2 + 1)) + 1 := by simp only [ZT.M]; first | omega | grind [wrap_id]
      refine ⟨by simp only [ZT.P]; refine ⟨(by first | exact True.intro | assumption | omega | grind [wrap_id, sts_1, sts_2]), (by first | exact True.intro | assumption | omega | grind [wrap_id, sts_1, sts_2]), (by first | exact True.intro | assumption | omega | grind [wrap_id, sts_1, sts_2]), (by first | exact True.intro | assumption | omega | grind [wrap_id, sts_1, sts_2])⟩, by omega, ?_⟩
      have e : ZT.R y0 y1 y2 = ZT.R y0 y1 (wrap (y2 + 1)) := by
        have e1 : ZT.R y0 y1 y2 = ZT.S (ZT.M y0 y1 y2) y0 y1 (wrap (y2 + 1)) := by unfold ZT.R; rw [ZT.S]; exact (cond_t h1).trans <| (cond_f h2).trans <| rfl
        rw [e1, hμ]
        rfl
      rw [e]
      rfl
  · have e : ZT.R y0 y1 y2 = (1, (false, (y2, ()))) := by unfold ZT.R; rw [ZT.S]; exact (cond_f h1).trans <| rfl
    rw [e]
    rfl
theorem ZT.g (hG : ∀ c ∈ [Zi.c, Zw.c, ZI.c], Good Try.prog c) : LGood Try.prog Try.f68.ntmps ZT.d.ctr (bodyAt Try.f68 0) := by
  refine lgoodS (sp := []) (LL := []) hG (by kernel_rfl) (by rw [show loopsOf (bodyAt Try.f68 0) = [] from by kernel_rfl]; exact noL rfl) fun s hp => ?_
  refine Eq.mpr (ZT.w s.1 s.2.1 s.2.2.1) ?_
  replace hp : ZT.P s.1 s.2.1 s.2.2.1 := hp
  exact ZT.v _ _ _ hp
def ZT.E (y0 : Ch) (y1 : Bool) (k : Nat) (a : Unit) : Option (Nat × Bool × Int × Unit) := bif !(ZI.S (y0.past.getD k zSt)) then some (0, (false, ((k : Int), ()))) else none
def ZT.A (y0 : Ch) (y1 : Bool) (k : Nat) (a : Unit) : Unit := bif !(ZI.S (y0.past.getD k zSt)) then a else ()
def ZT.fin (y0 : Ch) (y1 : Bool) (k : Nat) (a : Unit) : Nat × Bool × Int × Unit := (1, (false, ((k : Int), ())))
def ZT.acc (y0 : Ch) (y1 : Bool) (a : Unit) : Nat → Unit
  | 0 => a
  | k + 1 => ZT.A y0 y1 k (ZT.acc y0 y1 a k)
theorem ZT.law (y0 : Ch) (y1 : Bool) (a : Unit) (n : Nat) (hT : (y0.past.length : Int) = (n : Int)) (hn : (n : Int) ≤ 9223372036854775807) :
    ((∀ k, k < n → ZT.E y0 y1 k (ZT.acc y0 y1 a k) = none) ∧ ZT.R y0 y1 0 = ZT.fin y0 y1 n (ZT.acc y0 y1 a n)) ∨ (∃ k r, k < n ∧ ZT.E y0 y1 k (ZT.acc y0 y1 a k) = some r ∧ (∀ j, j < k → ZT.E y0 y1 j (ZT.acc y0 y1 a j) = none) ∧ ZT.R y0 y1 0 = r) := by
  have hM : ZT.M y0 y1 0 + 1 = n + 1 := by simp only [ZT.M]; omega
  unfold ZT.R
  rw [hM]
  refine loopE (fun m i b => ZT.S m y0 y1 i) n hn (ZT.acc y0 y1 a) (ZT.E y0 y1 ) (ZT.fin y0 y1 ) fun m k hk => ?_
  have ha : ZT.acc y0 y1 a (k + 1) = ZT.A y0 y1 k (ZT.acc y0 y1 a k) := rfl
  rw [ha]
  generalize ZT.acc y0 y1 a k = b
  simp only [ZT.S, ZT.E, ZT.A, ZT.fin, hT, Int.toNat_natCast]
  all_goals grind
theorem ZU.w (y0 : Ch) (y1 : Bool) (y2 : Int) : evBody (envS [Zi.c, Zw.c, ZI.c] []) [] (bodyAt Try.f68 1) ZU.d (y0, (y1, (y2, ()))) = (And (Imp ((decide (y2 < (y0.knows.length : Int))) = true) (And ((0 : Int) ≤ y2 ∧ y2 < (y0.knows.length : Int)) (And (Imp (And ((decide (y2 > 0)) = true) (And ((!(Zi.S (y0.knows.getD (y2).toNat 0) 1 90)) = false) (True))) ((0 : Int) ≤ (wrap (y2 - 1)) ∧ (wrap (y2 - 1)) < (y0.knows.length : Int))) (And (Imp (And ((decide (y2 > 0)) = true) (And ((!(Zi.S (y0.knows.getD (y2).toNat 0) 1 90)) = false) (True))) ((0 : Int) ≤ y2 ∧ y2 < (y0.knows.length : Int))) (And (Imp ((bif !(Zi.S (y0.knows.getD (y2).toNat 0) 1 90) then true else bif decide (y2 > 0) then decide ((y0.knows.getD (wrap (y2 - 1)).toNat 0) ≥ (y0.knows.getD (y2).toNat 0)) else false) = true) (ZU.o y0 y1 y2 (ZU.R y0 y1 y2) = (.ret, [.c (.ptr 0 0), .c (.bool false), .c (.int y2)], [.raw 1 [.int y0.id, .arr false (.ints y0.bank.own), .arr false (.ints y0.bank.notes), .int y0.bank.locked, .int y0.st.way, .int y0.st.ver, .int y0.st.want, .arr false (.pkts y0.st.sent), .arr false (.bools y0.st.live), .arr false (.bools y0.st.back), .arr false (.ints y0.st.got), .arr false (.sts y0.past), .arr false (.ints y0.knows)]]))) (Imp ((bif !(Zi.S (y0.knows.getD (y2).toNat 0) 1 90) then true else bif decide (y2 > 0) then decide ((y0.knows.getD (wrap (y2 - 1)).toNat 0) ≥ (y0.knows.getD (y2).toNat 0)) else false) = false) (And (ZU.P y0 y1 (wrap (y2 + 1))) (And (ZU.M y0 y1 (wrap (y2 + 1)) < ZU.M y0 y1 y2) (ZU.o y0 y1 (wrap (y2 + 1)) (ZU.R y0 y1 (wrap (y2 + 1))) = ZU.o y0 y1 y2 (ZU.R y0 y1 y2)))))))))) (Imp ((decide (y2 < (y0.knows.length : Int))) = false) (ZU.o y0 y1 y2 (ZU.R y0 y1 y2) = (.exit 2, [.c (.ptr 0 0), .c (.bool y1), .c (.int y2)], [.raw 1 [.int y0.id, .arr false (.ints y0.bank.own), .arr false (.ints y0.bank.notes), .int y0.bank.locked, .int y0.st.way, .int y0.st.ver, .int y0.st.want, .arr false (.pkts y0.st.sent), .arr false (.bools y0.st.live), .arr false (.bools y0.st.back), .arr false (.ints y0.st.got), .arr false (.sts y0.past), .arr false (.ints y0.knows)]])))) := by kernel_rfl
theorem ZU.v (y0 : Ch) (y1 : Bool) (y2 : Int) (hp : ZU.P y0 y1 y2) : And (Imp ((decide (y2 < (y0.knows.length : Int))) = true) (And ((0 : Int) ≤ y2 ∧ y2 < (y0.knows.length : Int)) (And (Imp (And ((decide (y2 > 0)) = true) (And ((!(Zi.S (y0.knows.getD (y2).toNat 0) 1 90)) = false) (True))) ((0 : Int) ≤ (wrap (y2 - 1)) ∧ (wrap (y2 - 1)) < (y0.knows.length : Int))) (And (Imp (And ((decide (y2 > 0)) = true) (And ((!(Zi.S (y0.knows.getD (y2).toNat 0) 1 90)) = false) (True))) ((0 : Int) ≤ y2 ∧ y2 < (y0.knows.length : Int))) (And (Imp ((bif !(Zi.S (y0.knows.getD (y2).toNat 0) 1 90) then true else bif decide (y2 > 0) then decide ((y0.knows.getD (wrap (y2 - 1)).toNat 0) ≥ (y0.knows.getD (y2).toNat 0)) else false) = true) (ZU.o y0 y1 y2 (ZU.R y0 y1 y2) = (.ret, [.c (.ptr 0 0), .c (.bool false), .c (.int y2)], [.raw 1 [.int y0.id, .arr false (.ints y0.bank.own), .arr false (.ints y0.bank.notes), .int y0.bank.locked, .int y0.st.way, .int y0.st.ver, .int y0.st.want, .arr false (.pkts y0.st.sent), .arr false (.bools y0.st.live), .arr false (.bools y0.st.back), .arr false (.ints y0.st.got), .arr false (.sts y0.past), .arr false (.ints y0.knows)]]))) (Imp ((bif !(Zi.S (y0.knows.getD (y2).toNat 0) 1 90) then true else bif decide (y2 > 0) then decide ((y0.knows.getD (wrap (y2 - 1)).toNat 0) ≥ (y0.knows.getD (y2).toNat 0)) else false) = false) (And (ZU.P y0 y1 (wrap (y2 + 1))) (And (ZU.M y0 y1 (wrap (y2 + 1)) < ZU.M y0 y1 y2) (ZU.o y0 y1 (wrap (y2 + 1)) (ZU.R y0 y1 (wrap (y2 + 1))) = ZU.o y0 y1 y2 (ZU.R y0 y1 y2)))))))))) (Imp ((decide (y2 < (y0.knows.length : Int))) = false) (ZU.o y0 y1 y2 (ZU.R y0 y1 y2) = (.exit 2, [.c (.ptr 0 0), .c (.bool y1), .c (.int y2)], [.raw 1 [.int y0.id, .arr false (.ints y0.bank.own), .arr false (.ints y0.bank.notes), .int y0.bank.locked, .int y0.st.way, .int y0.st.ver, .int y0.st.want, .arr false (.pkts y0.st.sent), .arr false (.bools y0.st.live), .arr false (.bools y0.st.back), .arr false (.ints y0.st.got), .arr false (.sts y0.past), .arr false (.ints y0.knows)]]))) := by
  simp only [ZU.P] at hp
  obtain ⟨p0, p1, p2, p3⟩ := hp
  refine ⟨fun h1 => ?_, fun h1 => ?_⟩
  · refine ⟨by first | exact True.intro | assumption | omega | grind [wrap_id, sts_1, sts_2], ?_⟩
    refine ⟨by intro hπ; first | exact True.intro | assumption | omega | grind [wrap_id, sts_1, sts_2], ?_⟩
    refine ⟨by intro hπ; first | exact True.intro | assumption | omega | grind [wrap_id, sts_1, sts_2], ?_⟩
    refine ⟨fun h2 => ?_, fun h2 => ?_⟩
    · have e : ZU.R y0 y1 y2 = (0, (false, (y2, ()))) := by unfold ZU.R; rw [ZU.S]; exact (cond_t h1).trans <| (cond_t h2).trans <| rfl
      rw [e]
      rfl
    · have hμ : ZU.M y0 y1 y2 = ZU.M y0 y1 (wrap (y2 + 1)) + 1 := by simp only [ZU.M]; first | omega | grind [wrap_id]
      refine ⟨by simp only [ZU.P]; refine ⟨(by first | exact True.intro | assumption | omega | grind [wrap_id, sts_1, sts_2]), (by first | exact True.intro | assumption | omega | grind [wrap_id, sts_1, sts_2]), (by first | exact True.intro | assumption | omega | grind [wrap_id, sts_1, sts_2]), (by first | exact True.intro | assumption | omega | grind [wrap_id, sts_1, sts_2])⟩, by omega, ?_⟩
      have e : ZU.R y0 y1 y2 = ZU.R y0 y1 (wrap (y2 + 1)) := by
        have e1 : ZU.R y0 y1 y2 = ZU.S (ZU.M y0 y1 y2) y0 y1 (wrap (y2 + 1)) := by unfold ZU.R; rw [ZU.S]; exact (cond_t h1).trans <| (cond_f h2).trans <| rfl
        rw [e1, hμ]
        rfl
      rw [e]
      rfl
  · have e : ZU.R y0 y1 y2 = (1, (false, (y2, ()))) := by unfold ZU.R; rw [ZU.S]; exact (cond_f h1).trans <| rfl
    rw [e]
    rfl
theorem ZU.g (hG : ∀ c ∈ [Zi.c, Zw.c, ZI.c], Good Try.prog c) : LGood Try.prog Try.f68.ntmps ZU.d.ctr (bodyAt Try.f68 1) := by
  refine lgoodS (sp := []) (LL := []) hG (by kernel_rfl) (by rw [show loopsOf (bodyAt Try.f68 1) = [] from by kernel_rfl]; exact noL rfl) fun s hp => ?_
  refine Eq.mpr (ZU.w s.1 s.2.1 s.2.2.1) ?_
  replace hp : ZU.P s.1 s.2.1 s.2.2.1 := hp
  exact ZU.v _ _ _ hp
def ZU.E (y0 : Ch) (y1 : Bool) (k : Nat) (a : Unit) : Option (Nat × Bool × Int × Unit) := bif bif !(Zi.S (y0.knows.getD k 0) 1 90) then true else bif decide ((k : Int) > 0) then decide ((y0.knows.getD (wrap ((k : Int) - 1)).toNat 0) ≥ (y0.knows.getD k 0)) else false then some (0, (false, ((k : Int), ()))) else none
def ZU.A (y0 : Ch) (y1 : Bool) (k : Nat) (a : Unit) : Unit := bif bif !(Zi.S (y0.knows.getD k 0) 1 90) then true else bif decide ((k : Int) > 0) then decide ((y0.knows.getD (wrap ((k : Int) - 1)).toNat 0) ≥ (y0.knows.getD k 0)) else false then a else ()
def ZU.fin (y0 : Ch) (y1 : Bool) (k : Nat) (a : Unit) : Nat × Bool × Int × Unit := (1, (false, ((k : Int), ())))
def ZU.acc (y0 : Ch) (y1 : Bool) (a : Unit) : Nat → Unit
  | 0 => a
  | k + 1 => ZU.A y0 y1 k (ZU.acc y0 y1 a k)
theorem ZU.law (y0 : Ch) (y1 : Bool) (a : Unit) (n : Nat) (hT : (y0.knows.length : Int) = (n : Int)) (hn : (n : Int) ≤ 9223372036854775807) :
    ((∀ k, k < n → ZU.E y0 y1 k (ZU.acc y0 y1 a k) = none) ∧ ZU.R y0 y1 0 = ZU.fin y0 y1 n (ZU.acc y0 y1 a n)) ∨ (∃ k r, k < n ∧ ZU.E y0 y1 k (ZU.acc y0 y1 a k) = some r ∧ (∀ j, j < k → ZU.E y0 y1 j (ZU.acc y0 y1 a j) = none) ∧ ZU.R y0 y1 0 = r) := by
  have hM : ZU.M y0 y1 0 + 1 = n + 1 := by simp only [ZU.M]; omega
  unfold ZU.R
  rw [hM]
  refine loopE (fun m i b => ZU.S m y0 y1 i) n hn (ZU.acc y0 y1 a) (ZU.E y0 y1 ) (ZU.fin y0 y1 ) fun m k hk => ?_
  have ha : ZU.acc y0 y1 a (k + 1) = ZU.A y0 y1 k (ZU.acc y0 y1 a k) := rfl
  rw [ha]
  generalize ZU.acc y0 y1 a k = b
  simp only [ZU.S, ZU.E, ZU.A, ZU.fin, hT, Int.toNat_natCast]
  all_goals grind
theorem ZV.w (a0 : Ch) (K : AV → List Blk → Prop) : evFn (envS [Zi.c, Zw.c, ZI.c] []) [ZT.d.ctr, ZU.d.ctr] [] [] Try.f68 [] (ZV.L.enc (a0, ())) K = (And (Imp ((bif bif bif !(Zi.S a0.id 1 2) then true else !(Zw.S a0.bank) then true else !(ZI.S a0.st) then true else decide ((a0.past.length : Int) > 90)) = true) (K (.v (.c (.bool false))) ([]))) (Imp ((bif bif bif !(Zi.S a0.id 1 2) then true else !(Zw.S a0.bank) then true else !(ZI.S a0.st) then true else decide ((a0.past.length : Int) > 90)) = false) (And (ZT.P a0 false 0) (And (Imp (Nat.beq (ZT.R a0 false 0).1 0 = true) (K (.v (.c (.bool (ZT.R a0 false 0).2.1))) ([]))) (Imp (Nat.beq (ZT.R a0 false 0).1 0 = false) (And (ZU.P a0 false 0) (And (Imp (Nat.beq (ZU.R a0 false 0).1 0 = true) (K (.v (.c (.bool (ZU.R a0 false 0).2.1))) ([]))) (Imp (Nat.beq (ZU.R a0 false 0).1 0 = false) (K (.v (.c (.bool true))) ([])))))))))) := by kernel_rfl
theorem ZV.v (a0 : Ch) (hf : Ch.fact a0 ∧ True) (K : AV → List Blk → Prop) (hK : K (ZV.enc (ZV.S a0)).1 (ZV.enc (ZV.S a0)).2) : And (Imp ((bif bif bif !(Zi.S a0.id 1 2) then true else !(Zw.S a0.bank) then true else !(ZI.S a0.st) then true else decide ((a0.past.length : Int) > 90)) = true) (K (.v (.c (.bool false))) ([]))) (Imp ((bif bif bif !(Zi.S a0.id 1 2) then true else !(Zw.S a0.bank) then true else !(ZI.S a0.st) then true else decide ((a0.past.length : Int) > 90)) = false) (And (ZT.P a0 false 0) (And (Imp (Nat.beq (ZT.R a0 false 0).1 0 = true) (K (.v (.c (.bool (ZT.R a0 false 0).2.1))) ([]))) (Imp (Nat.beq (ZT.R a0 false 0).1 0 = false) (And (ZU.P a0 false 0) (And (Imp (Nat.beq (ZU.R a0 false 0).1 0 = true) (K (.v (.c (.bool (ZU.R a0 false 0).2.1))) ([]))) (Imp (Nat.beq (ZU.R a0 false 0).1 0 = false) (K (.v (.c (.bool true))) ([]))))))))) := by
  obtain ⟨f0, -⟩ := hf
  obtain ⟨⟨f0_0, f0_1⟩, ⟨f0_2, f0_3, f0_4, f0_5⟩, f0_6, f0_7⟩ := f0
  try simp only [big] at *
  refine ⟨fun h1 => ?_, fun h1 => ?_⟩
  · have e : ZV.S a0 = (false) := by unfold ZV.S; exact (cond_t h1).trans <| rfl
    rw [e] at hK
    exact hK
  · refine ⟨by simp only [ZT.P]; refine ⟨(by clear hK; first | exact True.intro | assumption | omega | grind [wrap_id, sts_1, sts_2]), (by clear hK; first | exact True.intro | assumption | omega | grind [wrap_id, sts_1, sts_2]), (by clear hK; first | exact True.intro | assumption | omega | grind [wrap_id, sts_1, sts_2]), (by clear hK; first | exact True.intro | assumption | omega | grind [wrap_id, sts_1, sts_2])⟩, ?_⟩
    refine ⟨fun h2 => ?_, fun h2 => ?_⟩
    · have e : ZV.S a0 = ((ZT.R a0 false 0).2.1) := by unfold ZV.S; exact (cond_f h1).trans <| (cond_t h2).trans <| rfl
      rw [e] at hK
      exact hK
    · refine ⟨by simp only [ZU.P]; refine ⟨(by clear hK; first | exact True.intro | assumption | omega | grind [wrap_id, sts_1, sts_2]), (by clear hK; first | exact True.intro | assumption | omega | grind [wrap_id, sts_1, sts_2]), (by clear hK; first | exact True.intro | assumption | omega | grind [wrap_id, sts_1, sts_2]), (by clear hK; first | exact True.intro | assumption | omega | grind [wrap_id, sts_1, sts_2])⟩, ?_⟩
      refine ⟨fun h3 => ?_, fun h3 => ?_⟩
      · have e : ZV.S a0 = ((ZU.R a0 false 0).2.1) := by unfold ZV.S; exact (cond_f h1).trans <| (cond_f h2).trans <| (cond_t h3).trans <| rfl
        rw [e] at hK
        exact hK
      · have e : ZV.S a0 = (true) := by unfold ZV.S; exact (cond_f h1).trans <| (cond_f h2).trans <| (cond_f h3).trans <| rfl
        rw [e] at hK
        exact hK
theorem ZV.good : Good Try.prog ZV.c :=
  vgood (sh := []) (sp := []) (LL := [ZT.d.ctr, ZU.d.ctr]) (consG Zi.good (consG Zw.good (consG ZI.good noG))) (fn := Try.f68) (by kernel_rfl) (by kernel_rfl) (by rw [show loopsOf (bodyOf Try.f68) = [(bodyAt Try.f68 0), (bodyAt Try.f68 1)] from by kernel_rfl]; exact consL (l := ZT.d.ctr) (by kernel_rfl) (ZT.g (consG Zi.good (consG Zw.good (consG ZI.good noG)))) (consL (l := ZU.d.ctr) (by kernel_rfl) (ZU.g (consG Zi.good (consG Zw.good (consG ZI.good noG)))) (noL rfl))) fun s hp hf => by
    exact Eq.mpr (ZV.w (s.1) (fun r bs' => And (r = (ZV.c.out s).1) (bs' = (ZV.c.out s).2))) (ZV.v (s.1) hf (fun r bs' => And (r = (ZV.c.out s).1) (bs' = (ZV.c.out s).2)) ⟨rfl, rfl⟩)
def ZW.S : Nat → Ch → Bool → (List St) → Int → Int → Nat × Bool × Int × Unit
  | 0, _, _, _, _, _ => (0, (false, (0, ())))
  | n + 1, y0, y1, y2, y3, y4 => bif decide (y4 < y3) then bif !(ZO.S (y2.getD (y4).toNat zSt)) then (0, (false, (y4, ()))) else ZW.S n y0 y1 y2 y3 (wrap (y4 + 1)) else (1, (false, (y4, ())))
def ZW.M (y0 : Ch) (y1 : Bool) (y2 : List St) (y3 : Int) (y4 : Int) : Nat := (y3 - y4).toNat
def ZW.R (y0 : Ch) (y1 : Bool) (y2 : List St) (y3 : Int) (y4 : Int) : Nat × Bool × Int × Unit := ZW.S (ZW.M y0 y1 y2 y3 y4 + 1) y0 y1 y2 y3 y4
def ZW.P (y0 : Ch) (y1 : Bool) (y2 : List St) (y3 : Int) (y4 : Int) : Prop := (0 ≤ y4) ∧ (y3 ≤ 9223372036854775807) ∧ (y2 = y0.past) ∧ (y3 = (y0.past.length : Int)) ∧ (stsFact y0.past) ∧ (stsFact y2) ∧ ((bif bif bif bif y0.id != 1 then y0.id != 2 else false then true else !(ZF.S y0.bank) then true else !(ZO.S y0.st) then true else decide (y3 > 90)) = false)
def ZW.L : FL := fCons (fC (cPtr 1 (cChE false) rfl)) (fCons (fC cBool) (fCons (fC (cArr false kSts)) (fCons (fC cInt) (fCons (fC cInt) (fNil)))))
def ZW.o0 (y0 : Ch) (y1 : Bool) (y2 : List St) (y3 : Int) (y4 : Int) (r : Nat × Bool × Int × Unit) : Ex × List FV × List Blk := (.ret, [.c (.ptr 0 0), .c (.bool r.2.1), .c (.arr false (.sts y2)), .c (.int y3), .c (.int r.2.2.1)], [.raw 1 [.int y0.id, .arr false (.ints y0.bank.own), .arr false (.ints y0.bank.notes), .int y0.bank.locked, .int y0.st.way, .int y0.st.ver, .int y0.st.want, .arr false (.pkts y0.st.sent), .arr false (.bools y0.st.live), .arr false (.bools y0.st.back), .arr false (.ints y0.st.got), .arr false (.sts y0.past), .arr false (.ints y0.knows)]])
def ZW.o1 (y0 : Ch) (y1 : Bool) (y2 : List St) (y3 : Int) (y4 : Int) (r : Nat × Bool × Int × Unit) : Ex × List FV × List Blk := (.exit 0, [.c (.ptr 0 0), .c (.bool y1), .c (.arr false (.sts y2)), .c (.int y3), .c (.int r.2.2.1)], [.raw 1 [.int y0.id, .arr false (.ints y0.bank.own), .arr false (.ints y0.bank.notes), .int y0.bank.locked, .int y0.st.way, .int y0.st.ver, .int y0.st.want, .arr false (.pkts y0.st.sent), .arr false (.bools y0.st.live), .arr false (.bools y0.st.back), .arr false (.ints y0.st.got), .arr false (.sts y0.past), .arr false (.ints y0.knows)]])
def ZW.o (y0 : Ch) (y1 : Bool) (y2 : List St) (y3 : Int) (y4 : Int) (r : Nat × Bool × Int × Unit) : Ex × List FV × List Blk := pickAlt [(Nat.beq r.1 0, ZW.o0 y0 y1 y2 y3 y4 r)] (ZW.o1 y0 y1 y2 y3 y4 r)
def ZW.d : LDat := ldat 4 [1, 2, 35, 36, 37] [] ZW.L (fun s => ZW.P s.1 s.2.1 s.2.2.1 s.2.2.2.1 s.2.2.2.2.1) (fun s => [(Nat.beq (ZW.R s.1 s.2.1 s.2.2.1 s.2.2.2.1 s.2.2.2.2.1).1 0, ZW.o0 s.1 s.2.1 s.2.2.1 s.2.2.2.1 s.2.2.2.2.1 (ZW.R s.1 s.2.1 s.2.2.1 s.2.2.2.1 s.2.2.2.2.1))]) (fun s => ZW.o1 s.1 s.2.1 s.2.2.1 s.2.2.2.1 s.2.2.2.2.1 (ZW.R s.1 s.2.1 s.2.2.1 s.2.2.2.1 s.2.2.2.2.1)) (fun s => ZW.M s.1 s.2.1 s.2.2.1 s.2.2.2.1 s.2.2.2.2.1)
def ZX.S : Nat → Bool → Int → (List Int) → Int → Int → Nat × Bool × Int × Int × Unit
  | 0, _, _, _, _, _ => (0, (false, (0, (0, ()))))
  | n + 1, y0, y1, y2, y3, y4 => bif decide (y4 < y3) then bif bif decide ((y2.getD (y4).toNat 0) ≤ y1) then true else decide ((y2.getD (y4).toNat 0) > 90) then (0, (false, (y1, (y4, ())))) else ZX.S n y0 (y2.getD (y4).toNat 0) y2 y3 (wrap (y4 + 1)) else (1, (false, (y1, (y4, ()))))
def ZX.M (y0 : Bool) (y1 : Int) (y2 : List Int) (y3 : Int) (y4 : Int) : Nat := (y3 - y4).toNat
def ZX.R (y0 : Bool) (y1 : Int) (y2 : List Int) (y3 : Int) (y4 : Int) : Nat × Bool × Int × Int × Unit := ZX.S (ZX.M y0 y1 y2 y3 y4 + 1) y0 y1 y2 y3 y4
def ZX.P (y0 : Bool) (y1 : Int) (y2 : List Int) (y3 : Int) (y4 : Int) : Prop := (0 ≤ y4) ∧ (y3 ≤ 9223372036854775807) ∧ (y3 = (y2.length : Int))
def ZX.L : FL := fCons (fC cBool) (fCons (fC cInt) (fCons (fC (cArr false kInts)) (fCons (fC cInt) (fCons (fC cInt) (fNil)))))
def ZX.o0 (y0 : Bool) (y1 : Int) (y2 : List Int) (y3 : Int) (y4 : Int) (r : Nat × Bool × Int × Int × Unit) : Ex × List FV × List Blk := (.ret, [.c (.bool r.2.1), .c (.int r.2.2.1), .c (.arr false (.ints y2)), .c (.int y3), .c (.int r.2.2.2.1)], [])
def ZX.o1 (y0 : Bool) (y1 : Int) (y2 : List Int) (y3 : Int) (y4 : Int) (r : Nat × Bool × Int × Int × Unit) : Ex × List FV × List Blk := (.exit 2, [.c (.bool y0), .c (.int r.2.2.1), .c (.arr false (.ints y2)), .c (.int y3), .c (.int r.2.2.2.1)], [])
def ZX.o (y0 : Bool) (y1 : Int) (y2 : List Int) (y3 : Int) (y4 : Int) (r : Nat × Bool × Int × Int × Unit) : Ex × List FV × List Blk := pickAlt [(Nat.beq r.1 0, ZX.o0 y0 y1 y2 y3 y4 r)] (ZX.o1 y0 y1 y2 y3 y4 r)
def ZX.d : LDat := ldat 11 [2, 5, 46, 47, 48] [] ZX.L (fun s => ZX.P s.1 s.2.1 s.2.2.1 s.2.2.2.1 s.2.2.2.2.1) (fun s => [(Nat.beq (ZX.R s.1 s.2.1 s.2.2.1 s.2.2.2.1 s.2.2.2.2.1).1 0, ZX.o0 s.1 s.2.1 s.2.2.1 s.2.2.2.1 s.2.2.2.2.1 (ZX.R s.1 s.2.1 s.2.2.1 s.2.2.2.1 s.2.2.2.2.1))]) (fun s => ZX.o1 s.1 s.2.1 s.2.2.1 s.2.2.2.1 s.2.2.2.2.1 (ZX.R s.1 s.2.1 s.2.2.1 s.2.2.2.1 s.2.2.2.2.1)) (fun s => ZX.M s.1 s.2.1 s.2.2.1 s.2.2.2.1 s.2.2.2.2.1)
def ZY.S (a0 : Ch) : Bool := bif bif bif bif bif a0.id != 1 then a0.id != 2 else false then true else !(ZF.S a0.bank) then true else !(ZO.S a0.st) then true else decide ((a0.past.length : Int) > 90) then (false) else bif Nat.beq (ZW.R a0 false a0.past (a0.past.length : Int) 0).1 0 then ((ZW.R a0 false a0.past (a0.past.length : Int) 0).2.1) else bif Nat.beq (ZX.R false 0 a0.knows (a0.knows.length : Int) 0).1 0 then ((ZX.R false 0 a0.knows (a0.knows.length : Int) 0).2.1) else (true)
def ZY.enc (r : Bool) : AV × List Blk := (.v (.c (.bool r)), [])
def ZY.L : ShL := sCons sCh (sNil)
def ZY.c : Ctr := vctr 70 ZY.L none (fun s => ZY.enc (ZY.S s.1))
theorem ZW.w (y0 : Ch) (y1 : Bool) (y2 : List St) (y3 : Int) (y4 : Int) : evBody (envS [ZF.c, ZO.c] []) [] (bodyAt Try.f70 0) ZW.d (y0, (y1, (y2, (y3, (y4, ()))))) = (And (Imp ((decide (y4 < y3)) = true) (And ((0 : Int) ≤ y4 ∧ y4 < (y2.length : Int)) (And (Imp ((!(ZO.S (y2.getD (y4).toNat zSt))) = true) (ZW.o y0 y1 y2 y3 y4 (ZW.R y0 y1 y2 y3 y4) = (.ret, [.c (.ptr 0 0), .c (.bool false), .c (.arr false (.sts y2)), .c (.int y3), .c (.int y4)], [.raw 1 [.int y0.id, .arr false (.ints y0.bank.own), .arr false (.ints y0.bank.notes), .int y0.bank.locked, .int y0.st.way, .int y0.st.ver, .int y0.st.want, .arr false (.pkts y0.st.sent), .arr false (.bools y0.st.live), .arr false (.bools y0.st.back), .arr false (.ints y0.st.got), .arr false (.sts y0.past), .arr false (.ints y0.knows)]]))) (Imp ((!(ZO.S (y2.getD (y4).toNat zSt))) = false) (And (ZW.P y0 y1 y2 y3 (wrap (y4 + 1))) (And (ZW.M y0 y1 y2 y3 (wrap (y4 + 1)) < ZW.M y0 y1 y2 y3 y4) (ZW.o y0 y1 y2 y3 (wrap (y4 + 1)) (ZW.R y0 y1 y2 y3 (wrap (y4 + 1))) = ZW.o y0 y1 y2 y3 y4 (ZW.R y0 y1 y2 y3 y4)))))))) (Imp ((decide (y4 < y3)) = false) (ZW.o y0 y1 y2 y3 y4 (ZW.R y0 y1 y2 y3 y4) = (.exit 0, [.c (.ptr 0 0), .c (.bool y1), .c (.arr false (.sts y2)), .c (.int y3), .c (.int y4)], [.raw 1 [.int y0.id, .arr false (.ints y0.bank.own), .arr false (.ints y0.bank.notes), .int y0.bank.locked, .int y0.st.way, .int y0.st.ver, .int y0.st.want, .arr false (.pkts y0.st.sent), .arr false (.bools y0.st.live), .arr false (.bools y0.st.back), .arr false (.ints y0.st.got), .arr false (.sts y0.past), .arr false (.ints y0.knows)]])))) := by kernel_rfl
theorem ZW.v (y0 : Ch) (y1 : Bool) (y2 : List St) (y3 : Int) (y4 : Int) (hp : ZW.P y0 y1 y2 y3 y4) : And (Imp ((decide (y4 < y3)) = true) (And ((0 : Int) ≤ y4 ∧ y4 < (y2.length : Int)) (And (Imp ((!(ZO.S (y2.getD (y4).toNat zSt))) = true) (ZW.o y0 y1 y2 y3 y4 (ZW.R y0 y1 y2 y3 y4) = (.ret, [.c (.ptr 0 0), .c (.bool false), .c (.arr false (.sts y2)), .c (.int y3), .c (.int y4)], [.raw 1 [.int y0.id, .arr false (.ints y0.bank.own), .arr false (.ints y0.bank.notes), .int y0.bank.locked, .int y0.st.way, .int y0.st.ver, .int y0.st.want, .arr false (.pkts y0.st.sent), .arr false (.bools y0.st.live), .arr false (.bools y0.st.back), .arr false (.ints y0.st.got), .arr false (.sts y0.past), .arr false (.ints y0.knows)]]))) (Imp ((!(ZO.S (y2.getD (y4).toNat zSt))) = false) (And (ZW.P y0 y1 y2 y3 (wrap (y4 + 1))) (And (ZW.M y0 y1 y2 y3 (wrap (y4 + 1)) < ZW.M y0 y1 y2 y3 y4) (ZW.o y0 y1 y2 y3 (wrap (y4 + 1)) (ZW.R y0 y1 y2 y3 (wrap (y4 + 1))) = ZW.o y0 y1 y2 y3 y4 (ZW.R y0 y1 y2 y3 y4)))))))) (Imp ((decide (y4 < y3)) = false) (ZW.o y0 y1 y2 y3 y4 (ZW.R y0 y1 y2 y3 y4) = (.exit 0, [.c (.ptr 0 0), .c (.bool y1), .c (.arr false (.sts y2)), .c (.int y3), .c (.int y4)], [.raw 1 [.int y0.id, .arr false (.ints y0.bank.own), .arr false (.ints y0.bank.notes), .int y0.bank.locked, .int y0.st.way, .int y0.st.ver, .int y0.st.want, .arr false (.pkts y0.st.sent), .arr false (.bools y0.st.live), .arr false (.bools y0.st.back), .arr false (.ints y0.st.got), .arr false (.sts y0.past), .arr false (.ints y0.knows)]]))) := by
  simp only [ZW.P] at hp
  obtain ⟨p0, p1, p2, p3, p4, p5, p6⟩ := hp
  refine ⟨fun h1 => ?_, fun h1 => ?_⟩
  · refine ⟨by first | exact True.intro | assumption | omega | grind [wrap_id, sts_1, sts_2], ?_⟩
    refine ⟨fun h2 => ?_, fun h2 => ?_⟩
    · have e : ZW.R y0 y1 y2 y3 y4 = (0, (false, (y4, ()))) := by unfold ZW.R; rw [ZW.S]; exact (cond_t h1).trans <| (cond_t h2).trans <| rfl
      rw [e]
      rfl
    · have hμ : ZW.M y0 y1 y2 y3 y4 = ZW.M y0 y1 y2 y3 (wrap (y4 + 1)) + 1 := by simp only [ZW.M]; first | omega | grind [wrap_id]
      refine ⟨by simp only [ZW.P]; refine ⟨(by first | exact True.intro | assumption | omega | grind [wrap_id, sts_1, sts_2]), (by first | exact True.intro | assumption | omega | grind [wrap_id, sts_1, sts_2]), (by first | exact True.intro | assumption | omega | grind [wrap_id, sts_1, sts_2]), (by first | exact True.intro | assumption | omega | grind [wrap_id, sts_1, sts_2]), (by first | exact True.intro | assumption | omega | grind [wrap_id, sts_1, sts_2]), (by first | exact True.intro | assumption | omega | grind [wrap_id, sts_1, sts_2]), (by first | exact True.intro | assumption | omega | grind [wrap_id, sts_1, sts_2])⟩, by omega, ?_⟩
      have e : ZW.R y0 y1 y2 y3 y4 = ZW.R y0 y1 y2 y3 (wrap (y4 + 1)) := by
        have e1 : ZW.R y0 y1 y2 y3 y4 = ZW.S (ZW.M y0 y1 y2 y3 y4) y0 y1 y2 y3 (wrap (y4 + 1)) := by unfold ZW.R; rw [ZW.S]; exact (cond_t h1).trans <| (cond_f h2).trans <| rfl
        rw [e1, hμ]
        rfl
      rw [e]
      rfl
  · have e : ZW.R y0 y1 y2 y3 y4 = (1, (false, (y4, ()))) := by unfold ZW.R; rw [ZW.S]; exact (cond_f h1).trans <| rfl
    rw [e]
    rfl
theorem ZW.g (hG : ∀ c ∈ [ZF.c, ZO.c], Good Try.prog c) : LGood Try.prog Try.f70.ntmps ZW.d.ctr (bodyAt Try.f70 0) := by
  refine lgoodS (sp := []) (LL := []) hG (by kernel_rfl) (by rw [show loopsOf (bodyAt Try.f70 0) = [] from by kernel_rfl]; exact noL rfl) fun s hp => ?_
  refine Eq.mpr (ZW.w s.1 s.2.1 s.2.2.1 s.2.2.2.1 s.2.2.2.2.1) ?_
  replace hp : ZW.P s.1 s.2.1 s.2.2.1 s.2.2.2.1 s.2.2.2.2.1 := hp
  exact ZW.v _ _ _ _ _ hp
def ZW.E (y0 : Ch) (y1 : Bool) (y2 : List St) (y3 : Int) (k : Nat) (a : Unit) : Option (Nat × Bool × Int × Unit) := bif !(ZO.S (y2.getD k zSt)) then some (0, (false, ((k : Int), ()))) else none
def ZW.A (y0 : Ch) (y1 : Bool) (y2 : List St) (y3 : Int) (k : Nat) (a : Unit) : Unit := bif !(ZO.S (y2.getD k zSt)) then a else ()
def ZW.fin (y0 : Ch) (y1 : Bool) (y2 : List St) (y3 : Int) (k : Nat) (a : Unit) : Nat × Bool × Int × Unit := (1, (false, ((k : Int), ())))
def ZW.acc (y0 : Ch) (y1 : Bool) (y2 : List St) (y3 : Int) (a : Unit) : Nat → Unit
  | 0 => a
  | k + 1 => ZW.A y0 y1 y2 y3 k (ZW.acc y0 y1 y2 y3 a k)
theorem ZW.law (y0 : Ch) (y1 : Bool) (y2 : List St) (y3 : Int) (a : Unit) (n : Nat) (hT : y3 = (n : Int)) (hn : (n : Int) ≤ 9223372036854775807) :
    ((∀ k, k < n → ZW.E y0 y1 y2 y3 k (ZW.acc y0 y1 y2 y3 a k) = none) ∧ ZW.R y0 y1 y2 y3 0 = ZW.fin y0 y1 y2 y3 n (ZW.acc y0 y1 y2 y3 a n)) ∨ (∃ k r, k < n ∧ ZW.E y0 y1 y2 y3 k (ZW.acc y0 y1 y2 y3 a k) = some r ∧ (∀ j, j < k → ZW.E y0 y1 y2 y3 j (ZW.acc y0 y1 y2 y3 a j) = none) ∧ ZW.R y0 y1 y2 y3 0 = r) := by
  have hM : ZW.M y0 y1 y2 y3 0 + 1 = n + 1 := by simp only [ZW.M]; omega
  unfold ZW.R
  rw [hM]
  refine loopE (fun m i b => ZW.S m y0 y1 y2 y3 i) n hn (ZW.acc y0 y1 y2 y3 a) (ZW.E y0 y1 y2 y3 ) (ZW.fin y0 y1 y2 y3 ) fun m k hk => ?_
  have ha : ZW.acc y0 y1 y2 y3 a (k + 1) = ZW.A y0 y1 y2 y3 k (ZW.acc y0 y1 y2 y3 a k) := rfl
  rw [ha]
  generalize ZW.acc y0 y1 y2 y3 a k = b
  simp only [ZW.S, ZW.E, ZW.A, ZW.fin, hT, Int.toNat_natCast]
  all_goals grind
theorem ZX.w (y0 : Bool) (y1 : Int) (y2 : List Int) (y3 : Int) (y4 : Int) : evBody (envS [ZF.c, ZO.c] []) [] (bodyAt Try.f70 1) ZX.d (y0, (y1, (y2, (y3, (y4, ()))))) = (And (Imp ((decide (y4 < y3)) = true) (And ((0 : Int) ≤ y4 ∧ y4 < (y2.length : Int)) (And (Imp ((bif decide ((y2.getD (y4).toNat 0) ≤ y1) then true else decide ((y2.getD (y4).toNat 0) > 90)) = true) (ZX.o y0 y1 y2 y3 y4 (ZX.R y0 y1 y2 y3 y4) = (.ret, [.c (.bool false), .c (.int y1), .c (.arr false (.ints y2)), .c (.int y3), .c (.int y4)], []))) (Imp ((bif decide ((y2.getD (y4).toNat 0) ≤ y1) then true else decide ((y2.getD (y4).toNat 0) > 90)) = false) (And (ZX.P y0 (y2.getD (y4).toNat 0) y2 y3 (wrap (y4 + 1))) (And (ZX.M y0 (y2.getD (y4).toNat 0) y2 y3 (wrap (y4 + 1)) < ZX.M y0 y1 y2 y3 y4) (ZX.o y0 (y2.getD (y4).toNat 0) y2 y3 (wrap (y4 + 1)) (ZX.R y0 (y2.getD (y4).toNat 0) y2 y3 (wrap (y4 + 1))) = ZX.o y0 y1 y2 y3 y4 (ZX.R y0 y1 y2 y3 y4)))))))) (Imp ((decide (y4 < y3)) = false) (ZX.o y0 y1 y2 y3 y4 (ZX.R y0 y1 y2 y3 y4) = (.exit 2, [.c (.bool y0), .c (.int y1), .c (.arr false (.ints y2)), .c (.int y3), .c (.int y4)], [])))) := by kernel_rfl
theorem ZX.v (y0 : Bool) (y1 : Int) (y2 : List Int) (y3 : Int) (y4 : Int) (hp : ZX.P y0 y1 y2 y3 y4) : And (Imp ((decide (y4 < y3)) = true) (And ((0 : Int) ≤ y4 ∧ y4 < (y2.length : Int)) (And (Imp ((bif decide ((y2.getD (y4).toNat 0) ≤ y1) then true else decide ((y2.getD (y4).toNat 0) > 90)) = true) (ZX.o y0 y1 y2 y3 y4 (ZX.R y0 y1 y2 y3 y4) = (.ret, [.c (.bool false), .c (.int y1), .c (.arr false (.ints y2)), .c (.int y3), .c (.int y4)], []))) (Imp ((bif decide ((y2.getD (y4).toNat 0) ≤ y1) then true else decide ((y2.getD (y4).toNat 0) > 90)) = false) (And (ZX.P y0 (y2.getD (y4).toNat 0) y2 y3 (wrap (y4 + 1))) (And (ZX.M y0 (y2.getD (y4).toNat 0) y2 y3 (wrap (y4 + 1)) < ZX.M y0 y1 y2 y3 y4) (ZX.o y0 (y2.getD (y4).toNat 0) y2 y3 (wrap (y4 + 1)) (ZX.R y0 (y2.getD (y4).toNat 0) y2 y3 (wrap (y4 + 1))) = ZX.o y0 y1 y2 y3 y4 (ZX.R y0 y1 y2 y3 y4)))))))) (Imp ((decide (y4 < y3)) = false) (ZX.o y0 y1 y2 y3 y4 (ZX.R y0 y1 y2 y3 y4) = (.exit 2, [.c (.bool y0), .c (.int y1), .c (.arr false (.ints y2)), .c (.int y3), .c (.int y4)], []))) := by
  simp only [ZX.P] at hp
  obtain ⟨p0, p1, p2⟩ := hp
  refine ⟨fun h1 => ?_, fun h1 => ?_⟩
  · refine ⟨by first | exact True.intro | assumption | omega | grind [wrap_id, sts_1, sts_2], ?_⟩
    refine ⟨fun h2 => ?_, fun h2 => ?_⟩
    · have e : ZX.R y0 y1 y2 y3 y4 = (0, (false, (y1, (y4, ())))) := by unfold ZX.R; rw [ZX.S]; exact (cond_t h1).trans <| (cond_t h2).trans <| rfl
      rw [e]
      rfl
    · have hμ : ZX.M y0 y1 y2 y3 y4 = ZX.M y0 (y2.getD (y4).toNat 0) y2 y3 (wrap (y4 + 1)) + 1 := by simp only [ZX.M]; first | omega | grind [wrap_id]
      refine ⟨by simp only [ZX.P]; refine ⟨(by first | exact True.intro | assumption | omega | grind [wrap_id, sts_1, sts_2]), (by first | exact True.intro | assumption | omega | grind [wrap_id, sts_1, sts_2]), (by first | exact True.intro | assumption | omega | grind [wrap_id, sts_1, sts_2])⟩, by omega, ?_⟩
      have e : ZX.R y0 y1 y2 y3 y4 = ZX.R y0 (y2.getD (y4).toNat 0) y2 y3 (wrap (y4 + 1)) := by
        have e1 : ZX.R y0 y1 y2 y3 y4 = ZX.S (ZX.M y0 y1 y2 y3 y4) y0 (y2.getD (y4).toNat 0) y2 y3 (wrap (y4 + 1)) := by unfold ZX.R; rw [ZX.S]; exact (cond_t h1).trans <| (cond_f h2).trans <| rfl
        rw [e1, hμ]
        rfl
      rw [e]
      rfl
  · have e : ZX.R y0 y1 y2 y3 y4 = (1, (false, (y1, (y4, ())))) := by unfold ZX.R; rw [ZX.S]; exact (cond_f h1).trans <| rfl
    rw [e]
    rfl
theorem ZX.g (hG : ∀ c ∈ [ZF.c, ZO.c], Good Try.prog c) : LGood Try.prog Try.f70.ntmps ZX.d.ctr (bodyAt Try.f70 1) := by
  refine lgoodS (sp := []) (LL := []) hG (by kernel_rfl) (by rw [show loopsOf (bodyAt Try.f70 1) = [] from by kernel_rfl]; exact noL rfl) fun s hp => ?_
  refine Eq.mpr (ZX.w s.1 s.2.1 s.2.2.1 s.2.2.2.1 s.2.2.2.2.1) ?_
  replace hp : ZX.P s.1 s.2.1 s.2.2.1 s.2.2.2.1 s.2.2.2.2.1 := hp
  exact ZX.v _ _ _ _ _ hp
def ZX.E (y0 : Bool) (y2 : List Int) (y3 : Int) (k : Nat) (a : Int) : Option (Nat × Bool × Int × Int × Unit) := bif bif decide ((y2.getD k 0) ≤ a) then true else decide ((y2.getD k 0) > 90) then some (0, (false, (a, ((k : Int), ())))) else none
def ZX.A (y0 : Bool) (y2 : List Int) (y3 : Int) (k : Nat) (a : Int) : Int := bif bif decide ((y2.getD k 0) ≤ a) then true else decide ((y2.getD k 0) > 90) then a else (y2.getD k 0)
def ZX.fin (y0 : Bool) (y2 : List Int) (y3 : Int) (k : Nat) (a : Int) : Nat × Bool × Int × Int × Unit := (1, (false, (a, ((k : Int), ()))))
def ZX.acc (y0 : Bool) (y2 : List Int) (y3 : Int) (a : Int) : Nat → Int
  | 0 => a
  | k + 1 => ZX.A y0 y2 y3 k (ZX.acc y0 y2 y3 a k)
theorem ZX.law (y0 : Bool) (y2 : List Int) (y3 : Int) (a : Int) (n : Nat) (hT : y3 = (n : Int)) (hn : (n : Int) ≤ 9223372036854775807) :
    ((∀ k, k < n → ZX.E y0 y2 y3 k (ZX.acc y0 y2 y3 a k) = none) ∧ ZX.R y0 a y2 y3 0 = ZX.fin y0 y2 y3 n (ZX.acc y0 y2 y3 a n)) ∨ (∃ k r, k < n ∧ ZX.E y0 y2 y3 k (ZX.acc y0 y2 y3 a k) = some r ∧ (∀ j, j < k → ZX.E y0 y2 y3 j (ZX.acc y0 y2 y3 a j) = none) ∧ ZX.R y0 a y2 y3 0 = r) := by
  have hM : ZX.M y0 a y2 y3 0 + 1 = n + 1 := by simp only [ZX.M]; omega
  unfold ZX.R
  rw [hM]
  refine loopE (fun m i b => ZX.S m y0 b y2 y3 i) n hn (ZX.acc y0 y2 y3 a) (ZX.E y0 y2 y3 ) (ZX.fin y0 y2 y3 ) fun m k hk => ?_
  have ha : ZX.acc y0 y2 y3 a (k + 1) = ZX.A y0 y2 y3 k (ZX.acc y0 y2 y3 a k) := rfl
  rw [ha]
  generalize ZX.acc y0 y2 y3 a k = b
  simp only [ZX.S, ZX.E, ZX.A, ZX.fin, hT, Int.toNat_natCast]
  all_goals grind
theorem ZY.w (a0 : Ch) (K : AV → List Blk → Prop) : evFn (envS [ZF.c, ZO.c] []) [ZW.d.ctr, ZX.d.ctr] [] [] Try.f70 [] (ZY.L.enc (a0, ())) K = (And (Imp ((bif bif bif bif a0.id != 1 then a0.id != 2 else false then true else !(ZF.S a0.bank) then true else !(ZO.S a0.st) then true else decide ((a0.past.length : Int) > 90)) = true) (K (.v (.c (.bool false))) ([]))) (Imp ((bif bif bif bif a0.id != 1 then a0.id != 2 else false then true else !(ZF.S a0.bank) then true else !(ZO.S a0.st) then true else decide ((a0.past.length : Int) > 90)) = false) (And (ZW.P a0 false a0.past (a0.past.length : Int) 0) (And (Imp (Nat.beq (ZW.R a0 false a0.past (a0.past.length : Int) 0).1 0 = true) (K (.v (.c (.bool (ZW.R a0 false a0.past (a0.past.length : Int) 0).2.1))) ([]))) (Imp (Nat.beq (ZW.R a0 false a0.past (a0.past.length : Int) 0).1 0 = false) (And (ZX.P false 0 a0.knows (a0.knows.length : Int) 0) (And (Imp (Nat.beq (ZX.R false 0 a0.knows (a0.knows.length : Int) 0).1 0 = true) (K (.v (.c (.bool (ZX.R false 0 a0.knows (a0.knows.length : Int) 0).2.1))) ([]))) (Imp (Nat.beq (ZX.R false 0 a0.knows (a0.knows.length : Int) 0).1 0 = false) (K (.v (.c (.bool true))) ([])))))))))) := by kernel_rfl
theorem ZY.v (a0 : Ch) (hf : Ch.fact a0 ∧ True) (K : AV → List Blk → Prop) (hK : K (ZY.enc (ZY.S a0)).1 (ZY.enc (ZY.S a0)).2) : And (Imp ((bif bif bif bif a0.id != 1 then a0.id != 2 else false then true else !(ZF.S a0.bank) then true else !(ZO.S a0.st) then true else decide ((a0.past.length : Int) > 90)) = true) (K (.v (.c (.bool false))) ([]))) (Imp ((bif bif bif bif a0.id != 1 then a0.id != 2 else false then true else !(ZF.S a0.bank) then true else !(ZO.S a0.st) then true else decide ((a0.past.length : Int) > 90)) = false) (And (ZW.P a0 false a0.past (a0.past.length : Int) 0) (And (Imp (Nat.beq (ZW.R a0 false a0.past (a0.past.length : Int) 0).1 0 = true) (K (.v (.c (.bool (ZW.R a0 false a0.past (a0.past.length : Int) 0).2.1))) ([]))) (Imp (Nat.beq (ZW.R a0 false a0.past (a0.past.length : Int) 0).1 0 = false) (And (ZX.P false 0 a0.knows (a0.knows.length : Int) 0) (And (Imp (Nat.beq (ZX.R false 0 a0.knows (a0.knows.length : Int) 0).1 0 = true) (K (.v (.c (.bool (ZX.R false 0 a0.knows (a0.knows.length : Int) 0).2.1))) ([]))) (Imp (Nat.beq (ZX.R false 0 a0.knows (a0.knows.length : Int) 0).1 0 = false) (K (.v (.c (.bool true))) ([]))))))))) := by
  obtain ⟨f0, -⟩ := hf
  obtain ⟨⟨f0_0, f0_1⟩, ⟨f0_2, f0_3, f0_4, f0_5⟩, f0_6, f0_7⟩ := f0
  try simp only [big] at *
  refine ⟨fun h1 => ?_, fun h1 => ?_⟩
  · have e : ZY.S a0 = (false) := by unfold ZY.S; exact (cond_t h1).trans <| rfl
    rw [e] at hK
    exact hK
  · refine ⟨by simp only [ZW.P]; refine ⟨(by clear hK; first | exact True.intro | assumption | omega | grind [wrap_id, sts_1, sts_2]), (by clear hK; first | exact True.intro | assumption | omega | grind [wrap_id, sts_1, sts_2]), (by clear hK; first | exact True.intro | assumption | omega | grind [wrap_id, sts_1, sts_2]), (by clear hK; first | exact True.intro | assumption | omega | grind [wrap_id, sts_1, sts_2]), (by clear hK; first | exact True.intro | assumption | omega | grind [wrap_id, sts_1, sts_2]), (by clear hK; first | exact True.intro | assumption | omega | grind [wrap_id, sts_1, sts_2]), (by clear hK; first | exact True.intro | assumption | omega | grind [wrap_id, sts_1, sts_2])⟩, ?_⟩
    refine ⟨fun h2 => ?_, fun h2 => ?_⟩
    · have e : ZY.S a0 = ((ZW.R a0 false a0.past (a0.past.length : Int) 0).2.1) := by unfold ZY.S; exact (cond_f h1).trans <| (cond_t h2).trans <| rfl
      rw [e] at hK
      exact hK
    · refine ⟨by simp only [ZX.P]; refine ⟨(by clear hK; first | exact True.intro | assumption | omega | grind [wrap_id, sts_1, sts_2]), (by clear hK; first | exact True.intro | assumption | omega | grind [wrap_id, sts_1, sts_2]), (by clear hK; first | exact True.intro | assumption | omega | grind [wrap_id, sts_1, sts_2])⟩, ?_⟩
      refine ⟨fun h3 => ?_, fun h3 => ?_⟩
      · have e : ZY.S a0 = ((ZX.R false 0 a0.knows (a0.knows.length : Int) 0).2.1) := by unfold ZY.S; exact (cond_f h1).trans <| (cond_f h2).trans <| (cond_t h3).trans <| rfl
        rw [e] at hK
        exact hK
      · have e : ZY.S a0 = (true) := by unfold ZY.S; exact (cond_f h1).trans <| (cond_f h2).trans <| (cond_f h3).trans <| rfl
        rw [e] at hK
        exact hK
theorem ZY.good : Good Try.prog ZY.c :=
  vgood (sh := []) (sp := []) (LL := [ZW.d.ctr, ZX.d.ctr]) (consG ZF.good (consG ZO.good noG)) (fn := Try.f70) (by kernel_rfl) (by kernel_rfl) (by rw [show loopsOf (bodyOf Try.f70) = [(bodyAt Try.f70 0), (bodyAt Try.f70 1)] from by kernel_rfl]; exact consL (l := ZW.d.ctr) (by kernel_rfl) (ZW.g (consG ZF.good (consG ZO.good noG))) (consL (l := ZX.d.ctr) (by kernel_rfl) (ZX.g (consG ZF.good (consG ZO.good noG))) (noL rfl))) fun s hp hf => by
    exact Eq.mpr (ZY.w (s.1) (fun r bs' => And (r = (ZY.c.out s).1) (bs' = (ZY.c.out s).2))) (ZY.v (s.1) hf (fun r bs' => And (r = (ZY.c.out s).1) (bs' = (ZY.c.out s).2)) ⟨rfl, rfl⟩)
def ZZ.S : Nat → (List Ch) → Bool → Int → Nat × Bool × Int × Unit
  | 0, _, _, _ => (0, (false, (0, ())))
  | n + 1, y0, y1, y2 => bif decide (y2 < 2) then bif bif bif !(ZV.S (y0.getD (y2).toNat zCh)) then true else (y0.getD (y2).toNat zCh).id != (wrap (y2 + 1)) then true else bif decide (((y0.getD (y2).toNat zCh).knows.length : Int) > 0) then decide (((y0.getD (y2).toNat zCh).knows.getD (wrap (((y0.getD (y2).toNat zCh).knows.length : Int) - 1)).toNat 0) > ((y0.getD (wrap (1 - y2)).toNat zCh).past.length : Int)) else false then (0, (false, (y2, ()))) else ZZ.S n y0 y1 (wrap (y2 + 1)) else (1, (false, (y2, ())))
def ZZ.M (y0 : List Ch) (y1 : Bool) (y2 : Int) : Nat := (2 - y2).toNat
def ZZ.R (y0 : List Ch) (y1 : Bool) (y2 : Int) : Nat × Bool × Int × Unit := ZZ.S (ZZ.M y0 y1 y2 + 1) y0 y1 y2
def ZZ.P (y0 : List Ch) (y1 : Bool) (y2 : Int) : Prop := (0 ≤ y2) ∧ (chsFact y0) ∧ (((y0.length : Int) != 2) = false)
def ZZ.L : FL := fCons (fC (cPtr 1 (cCons (cArrE false kChs) (cNil)) rfl)) (fCons (fC cBool) (fCons (fC cInt) (fNil)))
def ZZ.o0 (y0 : List Ch) (y1 : Bool) (y2 : Int) (r : Nat × Bool × Int × Unit) : Ex × List FV × List Blk := (.ret, [.c (.ptr 0 0), .c (.bool r.2.1), .c (.int r.2.2.1)], [.raw 1 [.arr false (.chs y0)]])
def ZZ.o1 (y0 : List Ch) (y1 : Bool) (y2 : Int) (r : Nat × Bool × Int × Unit) : Ex × List FV × List Blk := (.exit 0, [.c (.ptr 0 0), .c (.bool y1), .c (.int r.2.2.1)], [.raw 1 [.arr false (.chs y0)]])
def ZZ.o (y0 : List Ch) (y1 : Bool) (y2 : Int) (r : Nat × Bool × Int × Unit) : Ex × List FV × List Blk := pickAlt [(Nat.beq r.1 0, ZZ.o0 y0 y1 y2 r)] (ZZ.o1 y0 y1 y2 r)
def ZZ.d : LDat := ldat 4 [1, 2, 3] [] ZZ.L (fun s => ZZ.P s.1.1 s.2.1 s.2.2.1) (fun s => [(Nat.beq (ZZ.R s.1.1 s.2.1 s.2.2.1).1 0, ZZ.o0 s.1.1 s.2.1 s.2.2.1 (ZZ.R s.1.1 s.2.1 s.2.2.1))]) (fun s => ZZ.o1 s.1.1 s.2.1 s.2.2.1 (ZZ.R s.1.1 s.2.1 s.2.2.1)) (fun s => ZZ.M s.1.1 s.2.1 s.2.2.1)
def Z0.S (a0 : List Ch) : Bool := bif (a0.length : Int) != 2 then (false) else bif Nat.beq (ZZ.R a0 false 0).1 0 then ((ZZ.R a0 false 0).2.1) else (true)
def Z0.enc (r : Bool) : AV × List Blk := (.v (.c (.bool r)), [])
def Z0.L : ShL := sCons sW (sNil)
def Z0.c : Ctr := vctr 41 Z0.L none (fun s => Z0.enc (Z0.S s.1))
theorem ZZ.w (y0 : List Ch) (y1 : Bool) (y2 : Int) : evBody (envS [ZV.c] []) [] (bodyAt Try.f41 0) ZZ.d ((y0, ()), (y1, (y2, ()))) = (And (Imp ((decide (y2 < 2)) = true) (And ((0 : Int) ≤ y2 ∧ y2 < (y0.length : Int)) (And (Imp (And ((decide (((y0.getD (y2).toNat zCh).knows.length : Int) > 0)) = true) (And ((bif !(ZV.S (y0.getD (y2).toNat zCh)) then true else (y0.getD (y2).toNat zCh).id != (wrap (y2 + 1))) = false) (True))) ((0 : Int) ≤ (wrap (((y0.getD (y2).toNat zCh).knows.length : Int) - 1)) ∧ (wrap (((y0.getD (y2).toNat zCh).knows.length : Int) - 1)) < ((y0.getD (y2).toNat zCh).knows.length : Int))) (And (Imp (And ((decide (((y0.getD (y2).toNat zCh).knows.length : Int) > 0)) = true) (And ((bif !(ZV.S (y0.getD (y2).toNat zCh)) then true else (y0.getD (y2).toNat zCh).id != (wrap (y2 + 1))) = false) (True))) ((0 : Int) ≤ (wrap (1 - y2)) ∧ (wrap (1 - y2)) < (y0.length : Int))) (And (Imp ((bif bif !(ZV.S (y0.getD (y2).toNat zCh)) then true else (y0.getD (y2).toNat zCh).id != (wrap (y2 + 1)) then true else bif decide (((y0.getD (y2).toNat zCh).knows.length : Int) > 0) then decide (((y0.getD (y2).toNat zCh).knows.getD (wrap (((y0.getD (y2).toNat zCh).knows.length : Int) - 1)).toNat 0) > ((y0.getD (wrap (1 - y2)).toNat zCh).past.length : Int)) else false) = true) (ZZ.o y0 y1 y2 (ZZ.R y0 y1 y2) = (.ret, [.c (.ptr 0 0), .c (.bool false), .c (.int y2)], [.raw 1 [.arr false (.chs y0)]]))) (Imp ((bif bif !(ZV.S (y0.getD (y2).toNat zCh)) then true else (y0.getD (y2).toNat zCh).id != (wrap (y2 + 1)) then true else bif decide (((y0.getD (y2).toNat zCh).knows.length : Int) > 0) then decide (((y0.getD (y2).toNat zCh).knows.getD (wrap (((y0.getD (y2).toNat zCh).knows.length : Int) - 1)).toNat 0) > ((y0.getD (wrap (1 - y2)).toNat zCh).past.length : Int)) else false) = false) (And (ZZ.P y0 y1 (wrap (y2 + 1))) (And (ZZ.M y0 y1 (wrap (y2 + 1)) < ZZ.M y0 y1 y2) (ZZ.o y0 y1 (wrap (y2 + 1)) (ZZ.R y0 y1 (wrap (y2 + 1))) = ZZ.o y0 y1 y2 (ZZ.R y0 y1 y2)))))))))) (Imp ((decide (y2 < 2)) = false) (ZZ.o y0 y1 y2 (ZZ.R y0 y1 y2) = (.exit 0, [.c (.ptr 0 0), .c (.bool y1), .c (.int y2)], [.raw 1 [.arr false (.chs y0)]])))) := by kernel_rfl
theorem ZZ.v (y0 : List Ch) (y1 : Bool) (y2 : Int) (hp : ZZ.P y0 y1 y2) : And (Imp ((decide (y2 < 2)) = true) (And ((0 : Int) ≤ y2 ∧ y2 < (y0.length : Int)) (And (Imp (And ((decide (((y0.getD (y2).toNat zCh).knows.length : Int) > 0)) = true) (And ((bif !(ZV.S (y0.getD (y2).toNat zCh)) then true else (y0.getD (y2).toNat zCh).id != (wrap (y2 + 1))) = false) (True))) ((0 : Int) ≤ (wrap (((y0.getD (y2).toNat zCh).knows.length : Int) - 1)) ∧ (wrap (((y0.getD (y2).toNat zCh).knows.length : Int) - 1)) < ((y0.getD (y2).toNat zCh).knows.length : Int))) (And (Imp (And ((decide (((y0.getD (y2).toNat zCh).knows.length : Int) > 0)) = true) (And ((bif !(ZV.S (y0.getD (y2).toNat zCh)) then true else (y0.getD (y2).toNat zCh).id != (wrap (y2 + 1))) = false) (True))) ((0 : Int) ≤ (wrap (1 - y2)) ∧ (wrap (1 - y2)) < (y0.length : Int))) (And (Imp ((bif bif !(ZV.S (y0.getD (y2).toNat zCh)) then true else (y0.getD (y2).toNat zCh).id != (wrap (y2 + 1)) then true else bif decide (((y0.getD (y2).toNat zCh).knows.length : Int) > 0) then decide (((y0.getD (y2).toNat zCh).knows.getD (wrap (((y0.getD (y2).toNat zCh).knows.length : Int) - 1)).toNat 0) > ((y0.getD (wrap (1 - y2)).toNat zCh).past.length : Int)) else false) = true) (ZZ.o y0 y1 y2 (ZZ.R y0 y1 y2) = (.ret, [.c (.ptr 0 0), .c (.bool false), .c (.int y2)], [.raw 1 [.arr false (.chs y0)]]))) (Imp ((bif bif !(ZV.S (y0.getD (y2).toNat zCh)) then true else (y0.getD (y2).toNat zCh).id != (wrap (y2 + 1)) then true else bif decide (((y0.getD (y2).toNat zCh).knows.length : Int) > 0) then decide (((y0.getD (y2).toNat zCh).knows.getD (wrap (((y0.getD (y2).toNat zCh).knows.length : Int) - 1)).toNat 0) > ((y0.getD (wrap (1 - y2)).toNat zCh).past.length : Int)) else false) = false) (And (ZZ.P y0 y1 (wrap (y2 + 1))) (And (ZZ.M y0 y1 (wrap (y2 + 1)) < ZZ.M y0 y1 y2) (ZZ.o y0 y1 (wrap (y2 + 1)) (ZZ.R y0 y1 (wrap (y2 + 1))) = ZZ.o y0 y1 y2 (ZZ.R y0 y1 y2)))))))))) (Imp ((decide (y2 < 2)) = false) (ZZ.o y0 y1 y2 (ZZ.R y0 y1 y2) = (.exit 0, [.c (.ptr 0 0), .c (.bool y1), .c (.int y2)], [.raw 1 [.arr false (.chs y0)]]))) := by
  simp only [ZZ.P] at hp
  obtain ⟨p0, p1, p2⟩ := hp
  refine ⟨fun h1 => ?_, fun h1 => ?_⟩
  · refine ⟨by first | exact True.intro | assumption | omega | ((try simp only [bif_tf, bif_ft, Bool.not_eq_true', Bool.not_eq_false', decide_eq_true_eq, decide_eq_false_iff_not, beq_iff_eq, bne_eq_false_iff_eq, beq_eq_false_iff_ne, bne_iff_ne, ne_eq] at *); (try simp (disch := omega) only [wrap_id] at *); omega) | grind [wrap_id, chs_1, chs_2, chs_3, chs_4, chs_5], ?_⟩
    refine ⟨by intro hπ; first | exact True.intro | assumption | omega | ((try simp only [bif_tf, bif_ft, Bool.not_eq_true', Bool.not_eq_false', decide_eq_true_eq, decide_eq_false_iff_not, beq_iff_eq, bne_eq_false_iff_eq, beq_eq_false_iff_ne, bne_iff_ne, ne_eq] at *); (try simp (disch := omega) only [wrap_id] at *); omega) | grind [wrap_id, chs_1, chs_2, chs_3, chs_4, chs_5], ?_⟩
    refine ⟨by intro hπ; first | exact True.intro | assumption | omega | ((try simp only [bif_tf, bif_ft, Bool.not_eq_true', Bool.not_eq_false', decide_eq_true_eq, decide_eq_false_iff_not, beq_iff_eq, bne_eq_false_iff_eq, beq_eq_false_iff_ne, bne_iff_ne, ne_eq] at *); (try simp (disch := omega) only [wrap_id] at *); omega) | grind [wrap_id, chs_1, chs_2, chs_3, chs_4, chs_5], ?_⟩
    refine ⟨fun h2 => ?_, fun h2 => ?_⟩
    · have e : ZZ.R y0 y1 y2 = (0, (false, (y2, ()))) := by unfold ZZ.R; rw [ZZ.S]; exact (cond_t h1).trans <| (cond_t h2).trans <| rfl
      rw [e]
      rfl
    · have hμ : ZZ.M y0 y1 y2 = ZZ.M y0 y1 (wrap (y2 + 1)) + 1 := by simp only [ZZ.M]; first | omega | grind [wrap_id]
      refine ⟨by simp only [ZZ.P]; refine ⟨(by first | exact True.intro | assumption | omega | ((try simp only [bif_tf, bif_ft, Bool.not_eq_true', Bool.not_eq_false', decide_eq_true_eq, decide_eq_false_iff_not, beq_iff_eq, bne_eq_false_iff_eq, beq_eq_false_iff_ne, bne_iff_ne, ne_eq] at *); (try simp (disch := omega) only [wrap_id] at *); omega) | grind [wrap_id, chs_1, chs_2, chs_3, chs_4, chs_5]), (by first | exact True.intro | assumption | omega | ((try simp only [bif_tf, bif_ft, Bool.not_eq_true', Bool.not_eq_false', decide_eq_true_eq, decide_eq_false_iff_not, beq_iff_eq, bne_eq_false_iff_eq, beq_eq_false_iff_ne, bne_iff_ne, ne_eq] at *); (try simp (disch := omega) only [wrap_id] at *); omega) | grind [wrap_id, chs_1, chs_2, chs_3, chs_4, chs_5]), (by first | exact True.intro | assumption | omega | ((try simp only [bif_tf, bif_ft, Bool.not_eq_true', Bool.not_eq_false', decide_eq_true_eq, decide_eq_false_iff_not, beq_iff_eq, bne_eq_false_iff_eq, beq_eq_false_iff_ne, bne_iff_ne, ne_eq] at *); (try simp (disch := omega) only [wrap_id] at *); omega) | grind [wrap_id, chs_1, chs_2, chs_3, chs_4, chs_5])⟩, by omega, ?_⟩
      have e : ZZ.R y0 y1 y2 = ZZ.R y0 y1 (wrap (y2 + 1)) := by
        have e1 : ZZ.R y0 y1 y2 = ZZ.S (ZZ.M y0 y1 y2) y0 y1 (wrap (y2 + 1)) := by unfold ZZ.R; rw [ZZ.S]; exact (cond_t h1).trans <| (cond_f h2).trans <| rfl
        rw [e1, hμ]
        rfl
      rw [e]
      rfl
  · have e : ZZ.R y0 y1 y2 = (1, (false, (y2, ()))) := by unfold ZZ.R; rw [ZZ.S]; exact (cond_f h1).trans <| rfl
    rw [e]
    rfl
theorem ZZ.g (hG : ∀ c ∈ [ZV.c], Good Try.prog c) : LGood Try.prog Try.f41.ntmps ZZ.d.ctr (bodyAt Try.f41 0) := by
  refine lgoodS (sp := []) (LL := []) hG (by kernel_rfl) (by rw [show loopsOf (bodyAt Try.f41 0) = [] from by kernel_rfl]; exact noL rfl) fun s hp => ?_
  refine Eq.mpr (ZZ.w s.1.1 s.2.1 s.2.2.1) ?_
  replace hp : ZZ.P s.1.1 s.2.1 s.2.2.1 := hp
  exact ZZ.v _ _ _ hp
def ZZ.E (y0 : List Ch) (y1 : Bool) (k : Nat) (a : Unit) : Option (Nat × Bool × Int × Unit) := bif bif bif !(ZV.S (y0.getD k zCh)) then true else (y0.getD k zCh).id != (wrap ((k : Int) + 1)) then true else bif decide (((y0.getD k zCh).knows.length : Int) > 0) then decide (((y0.getD k zCh).knows.getD (wrap (((y0.getD k zCh).knows.length : Int) - 1)).toNat 0) > ((y0.getD (wrap (1 - (k : Int))).toNat zCh).past.length : Int)) else false then some (0, (false, ((k : Int), ()))) else none
def ZZ.A (y0 : List Ch) (y1 : Bool) (k : Nat) (a : Unit) : Unit := bif bif bif !(ZV.S (y0.getD k zCh)) then true else (y0.getD k zCh).id != (wrap ((k : Int) + 1)) then true else bif decide (((y0.getD k zCh).knows.length : Int) > 0) then decide (((y0.getD k zCh).knows.getD (wrap (((y0.getD k zCh).knows.length : Int) - 1)).toNat 0) > ((y0.getD (wrap (1 - (k : Int))).toNat zCh).past.length : Int)) else false then a else ()
def ZZ.fin (y0 : List Ch) (y1 : Bool) (k : Nat) (a : Unit) : Nat × Bool × Int × Unit := (1, (false, ((k : Int), ())))
def ZZ.acc (y0 : List Ch) (y1 : Bool) (a : Unit) : Nat → Unit
  | 0 => a
  | k + 1 => ZZ.A y0 y1 k (ZZ.acc y0 y1 a k)
theorem ZZ.law (y0 : List Ch) (y1 : Bool) (a : Unit) (n : Nat) (hT : 2 = (n : Int)) (hn : (n : Int) ≤ 9223372036854775807) :
    ((∀ k, k < n → ZZ.E y0 y1 k (ZZ.acc y0 y1 a k) = none) ∧ ZZ.R y0 y1 0 = ZZ.fin y0 y1 n (ZZ.acc y0 y1 a n)) ∨ (∃ k r, k < n ∧ ZZ.E y0 y1 k (ZZ.acc y0 y1 a k) = some r ∧ (∀ j, j < k → ZZ.E y0 y1 j (ZZ.acc y0 y1 a j) = none) ∧ ZZ.R y0 y1 0 = r) := by
  have hM : ZZ.M y0 y1 0 + 1 = n + 1 := by simp only [ZZ.M]; omega
  unfold ZZ.R
  rw [hM]
  refine loopE (fun m i b => ZZ.S m y0 y1 i) n hn (ZZ.acc y0 y1 a) (ZZ.E y0 y1 ) (ZZ.fin y0 y1 ) fun m k hk => ?_
  have ha : ZZ.acc y0 y1 a (k + 1) = ZZ.A y0 y1 k (ZZ.acc y0 y1 a k) := rfl
  rw [ha]
  generalize ZZ.acc y0 y1 a k = b
  simp only [ZZ.S, ZZ.E, ZZ.A, ZZ.fin, hT, Int.toNat_natCast]
  all_goals grind
theorem Z0.w (a0 : List Ch) (K : AV → List Blk → Prop) : evFn (envS [ZV.c] []) [ZZ.d.ctr] [] [] Try.f41 [] (Z0.L.enc (a0, ())) K = (And (Imp (((a0.length : Int) != 2) = true) (K (.v (.c (.bool false))) ([]))) (Imp (((a0.length : Int) != 2) = false) (And (ZZ.P a0 false 0) (And (Imp (Nat.beq (ZZ.R a0 false 0).1 0 = true) (K (.v (.c (.bool (ZZ.R a0 false 0).2.1))) ([]))) (Imp (Nat.beq (ZZ.R a0 false 0).1 0 = false) (K (.v (.c (.bool true))) ([]))))))) := by kernel_rfl
theorem Z0.v (a0 : List Ch) (hf : chsFact a0 ∧ True) (K : AV → List Blk → Prop) (hK : K (Z0.enc (Z0.S a0)).1 (Z0.enc (Z0.S a0)).2) : And (Imp (((a0.length : Int) != 2) = true) (K (.v (.c (.bool false))) ([]))) (Imp (((a0.length : Int) != 2) = false) (And (ZZ.P a0 false 0) (And (Imp (Nat.beq (ZZ.R a0 false 0).1 0 = true) (K (.v (.c (.bool (ZZ.R a0 false 0).2.1))) ([]))) (Imp (Nat.beq (ZZ.R a0 false 0).1 0 = false) (K (.v (.c (.bool true))) ([])))))) := by
  obtain ⟨f0, -⟩ := hf
  try simp only [big] at *
  refine ⟨fun h1 => ?_, fun h1 => ?_⟩
  · have e : Z0.S a0 = (false) := by unfold Z0.S; exact (cond_t h1).trans <| rfl
    rw [e] at hK
    exact hK
  · refine ⟨by simp only [ZZ.P]; refine ⟨(by clear hK; first | exact True.intro | assumption | omega | ((try simp only [bif_tf, bif_ft, Bool.not_eq_true', Bool.not_eq_false', decide_eq_true_eq, decide_eq_false_iff_not, beq_iff_eq, bne_eq_false_iff_eq, beq_eq_false_iff_ne, bne_iff_ne, ne_eq] at *); (try simp (disch := omega) only [wrap_id] at *); omega) | grind [wrap_id, chs_1, chs_2, chs_3, chs_4, chs_5]), (by clear hK; first | exact True.intro | assumption | omega | ((try simp only [bif_tf, bif_ft, Bool.not_eq_true', Bool.not_eq_false', decide_eq_true_eq, decide_eq_false_iff_not, beq_iff_eq, bne_eq_false_iff_eq, beq_eq_false_iff_ne, bne_iff_ne, ne_eq] at *); (try simp (disch := omega) only [wrap_id] at *); omega) | grind [wrap_id, chs_1, chs_2, chs_3, chs_4, chs_5]), (by clear hK; first | exact True.intro | assumption | omega | ((try simp only [bif_tf, bif_ft, Bool.not_eq_true', Bool.not_eq_false', decide_eq_true_eq, decide_eq_false_iff_not, beq_iff_eq, bne_eq_false_iff_eq, beq_eq_false_iff_ne, bne_iff_ne, ne_eq] at *); (try simp (disch := omega) only [wrap_id] at *); omega) | grind [wrap_id, chs_1, chs_2, chs_3, chs_4, chs_5])⟩, ?_⟩
    refine ⟨fun h2 => ?_, fun h2 => ?_⟩
    · have e : Z0.S a0 = ((ZZ.R a0 false 0).2.1) := by unfold Z0.S; exact (cond_f h1).trans <| (cond_t h2).trans <| rfl
      rw [e] at hK
      exact hK
    · have e : Z0.S a0 = (true) := by unfold Z0.S; exact (cond_f h1).trans <| (cond_f h2).trans <| rfl
      rw [e] at hK
      exact hK
theorem Z0.good : Good Try.prog Z0.c :=
  vgood (sh := []) (sp := []) (LL := [ZZ.d.ctr]) (consG ZV.good noG) (fn := Try.f41) (by kernel_rfl) (by kernel_rfl) (by rw [show loopsOf (bodyOf Try.f41) = [(bodyAt Try.f41 0)] from by kernel_rfl]; exact consL (l := ZZ.d.ctr) (by kernel_rfl) (ZZ.g (consG ZV.good noG)) (noL rfl)) fun s hp hf => by
    exact Eq.mpr (Z0.w (s.1) (fun r bs' => And (r = (Z0.c.out s).1) (bs' = (Z0.c.out s).2))) (Z0.v (s.1) hf (fun r bs' => And (r = (Z0.c.out s).1) (bs' = (Z0.c.out s).2)) ⟨rfl, rfl⟩)
end
end Hw
end Go.Proofs.Ytfboldbfbmmahaa
