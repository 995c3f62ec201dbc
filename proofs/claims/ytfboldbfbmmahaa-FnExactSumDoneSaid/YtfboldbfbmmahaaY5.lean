/- Copies of chains: made by gen.py. -/
import Derived.Test.YtfboldbfbmmahaaY4
set_option linter.unusedVariables false
set_option linter.unusedSimpArgs false
set_option maxRecDepth 100000
set_option maxHeartbeats 4000000
namespace Go.Proofs.Ytfboldbfbmmahaa
namespace Hw
open Go
/-! ### laws.toChain -/
def laws_toChain.S (a0 : Ch) : Ch := ((⟨a0.id, (laws_toBank.S a0.bank), (laws_toState.S a0.st), (laws_toStateS.S a0.past), (laws_toIntS.S a0.knows)⟩ : Ch))
def laws_toChain.enc (r : Ch) : AV × List Blk := (.v (.agg [.int r.id, .own 0 1 3, .own 1 1 3, .int r.bank.locked, .int r.st.way, .int r.st.ver, .int r.st.want, .own 2 7 49, .own 3 1 4, .own 4 1 4, .own 5 1 3, .own 6 7 45, .own 7 1 3]), [.arr (.ints r.bank.own), .arr (.ints r.bank.notes), .arr (.pkts r.st.sent), .arr (.bools r.st.live), .arr (.bools r.st.back), .arr (.ints r.st.got), .arr (.sts r.past), .arr (.ints r.knows)])
def laws_toChain.P (a0 : Ch) : Prop := (a0.sm)
def laws_toChain.L : ShL := sCons sCh (sNil)
def laws_toChain.c : Ctr := vctr 69 laws_toChain.L (some fun s => laws_toChain.P s.1) (fun s => laws_toChain.enc (laws_toChain.S s.1))
theorem laws_toChain.w (a0 : Ch) (K : AV → List Blk → Prop) : evFn (env [laws_toBank.c, laws_toState.c, laws_toStateS.c, laws_toIntS.c]) [] [[none, some (.int, 3), some (.int, 3), none, none, none, none, some (.pkt, 49), some (.bool, 4), some (.bool, 4), some (.int, 3), some (.st, 45), some (.int, 3)]] Try.f69 [] (laws_toChain.L.enc (a0, ())) K = (And (laws_toBank.P a0.bank) (And (laws_toState.P a0.st) (And (laws_toStateS.P a0.past) (And (laws_toIntS.P a0.knows) (K (.v (.agg [.int a0.id, .own 0 1 3, .own 1 1 3, .int (laws_toBank.S a0.bank).locked, .int (laws_toState.S a0.st).way, .int (laws_toState.S a0.st).ver, .int (laws_toState.S a0.st).want, .own 2 7 49, .own 3 1 4, .own 4 1 4, .own 5 1 3, .own 6 7 45, .own 7 1 3])) ([.arr (.ints (laws_toBank.S a0.bank).own), .arr (.ints (laws_toBank.S a0.bank).notes), .arr (.pkts (laws_toState.S a0.st).sent), .arr (.bools (laws_toState.S a0.st).live), .arr (.bools (laws_toState.S a0.st).back), .arr (.ints (laws_toState.S a0.st).got), .arr (.sts (laws_toStateS.S a0.past)), .arr (.ints (laws_toIntS.S a0.knows))])))))) := by kernel_rfl
theorem laws_toChain.v (a0 : Ch) (hp : laws_toChain.P a0) (hf : Ch.fact a0 ∧ True) (K : AV → List Blk → Prop) (hK : K (laws_toChain.enc (laws_toChain.S a0)).1 (laws_toChain.enc (laws_toChain.S a0)).2) : And (laws_toBank.P a0.bank) (And (laws_toState.P a0.st) (And (laws_toStateS.P a0.past) (And (laws_toIntS.P a0.knows) (K (.v (.agg [.int a0.id, .own 0 1 3, .own 1 1 3, .int (laws_toBank.S a0.bank).locked, .int (laws_toState.S a0.st).way, .int (laws_toState.S a0.st).ver, .int (laws_toState.S a0.st).want, .own 2 7 49, .own 3 1 4, .own 4 1 4, .own 5 1 3, .own 6 7 45, .own 7 1 3])) ([.arr (.ints (laws_toBank.S a0.bank).own), .arr (.ints (laws_toBank.S a0.bank).notes), .arr (.pkts (laws_toState.S a0.st).sent), .arr (.bools (laws_toState.S a0.st).live), .arr (.bools (laws_toState.S a0.st).back), .arr (.ints (laws_toState.S a0.st).got), .arr (.sts (laws_toStateS.S a0.past)), .arr (.ints (laws_toIntS.S a0.knows))]))))) := by
  simp only [laws_toChain.P] at hp
  obtain ⟨f0, -⟩ := hf
  obtain ⟨⟨f0_0, f0_1⟩, ⟨f0_2, f0_3, f0_4, f0_5⟩, f0_6, f0_7⟩ := f0
  try simp only [big] at *
  refine ⟨by first | assumption | omega | grind [wrap_id, sts_1, sts_2, Ch.sm, laws_toBank.P, laws_toState.P, laws_toStateS.P, laws_toIntS.P], ?_⟩
  refine ⟨by first | assumption | omega | grind [wrap_id, sts_1, sts_2, Ch.sm, laws_toBank.P, laws_toState.P, laws_toStateS.P, laws_toIntS.P], ?_⟩
  refine ⟨by first | assumption | omega | grind [wrap_id, sts_1, sts_2, Ch.sm, laws_toBank.P, laws_toState.P, laws_toStateS.P, laws_toIntS.P], ?_⟩
  refine ⟨by first | assumption | omega | grind [wrap_id, sts_1, sts_2, Ch.sm, laws_toBank.P, laws_toState.P, laws_toStateS.P, laws_toIntS.P], ?_⟩
  have e : laws_toChain.S a0 = ((⟨a0.id, (laws_toBank.S a0.bank), (laws_toState.S a0.st), (laws_toStateS.S a0.past), (laws_toIntS.S a0.knows)⟩ : Ch)) := by simp only [laws_toChain.S, cond_true, cond_false]
  rw [e] at hK
  exact hK
theorem laws_toChain.good : Good Try.prog laws_toChain.c :=
  vgood (sh := [[none, some (.int, 3), some (.int, 3), none, none, none, none, some (.pkt, 49), some (.bool, 4), some (.bool, 4), some (.int, 3), some (.st, 45), some (.int, 3)]]) (LL := []) (consG laws_toBank.good (consG laws_toState.good (consG laws_toStateS.good (consG laws_toIntS.good noG)))) (fn := Try.f69) (by kernel_rfl) (by kernel_rfl) (by rw [show loopsOf (bodyOf Try.f69) = [] from by kernel_rfl]; exact noL rfl) fun s hp hf => by
    refine Eq.mpr (laws_toChain.w (s.1) _) ?_
    exact laws_toChain.v _ (hp _ rfl) hf (fun r bs' => And (r = (laws_toChain.c.out s).1) (bs' = (laws_toChain.c.out s).2)) ⟨rfl, rfl⟩
/-! ### laws.toChainS -/
def laws_toChainS_l3.S : Nat → (List Ch) → (List Ch) → Int → Nat × (List Ch) × Int × Unit
  | 0, _, _, _ => (0, ([], (0, ())))
  | n + 1, x3_0, x3_1, x3_2 => bif decide (x3_2 < (x3_0.length : Int)) then laws_toChainS_l3.S n x3_0 (x3_1.set (x3_2).toNat (laws_toChain.S (x3_0.getD (x3_2).toNat zCh))) (wrap (x3_2 + 1)) else (0, (x3_1, (x3_2, ())))
def laws_toChainS_l3.M (x3_0 : List Ch) (x3_1 : List Ch) (x3_2 : Int) : Nat := ((x3_0.length : Int) - x3_2).toNat
def laws_toChainS_l3.R (x3_0 : List Ch) (x3_1 : List Ch) (x3_2 : Int) : Nat × (List Ch) × Int × Unit := laws_toChainS_l3.S (laws_toChainS_l3.M x3_0 x3_1 x3_2 + 1) x3_0 x3_1 x3_2
def laws_toChainS_l3.P (x3_0 : List Ch) (x3_1 : List Ch) (x3_2 : Int) : Prop := (0 ≤ x3_2) ∧ ((x3_0.length : Int) ≤ 9223372036854775807) ∧ (chsFact x3_0) ∧ (x3_1.length = x3_0.length) ∧ (chsSm x3_0)
def laws_toChainS_l3.L : FL := fCons (fC (cArr false kChs)) (fCons (fC (cOwn kChs 65)) (fCons (fC cInt) (fNil)))
def laws_toChainS_l3.o0 (x3_0 : List Ch) (x3_1 : List Ch) (x3_2 : Int) (r : Nat × (List Ch) × Int × Unit) : Ex × List FV × List Blk := (.exit 0, [.c (.arr false (.chs x3_0)), .c (.own 0 13 65), .c (.int r.2.2.1)], [.arr (.chs r.2.1)])
def laws_toChainS_l3.o (x3_0 : List Ch) (x3_1 : List Ch) (x3_2 : Int) (r : Nat × (List Ch) × Int × Unit) : Ex × List FV × List Blk := pickAlt [] (laws_toChainS_l3.o0 x3_0 x3_1 x3_2 r)
def laws_toChainS_l3.d : LDat := ldat 3 [0, 3, 4] [] laws_toChainS_l3.L (fun s => laws_toChainS_l3.P s.1 s.2.1 s.2.2.1) (fun s => []) (fun s => laws_toChainS_l3.o0 s.1 s.2.1 s.2.2.1 (laws_toChainS_l3.R s.1 s.2.1 s.2.2.1)) (fun s => laws_toChainS_l3.M s.1 s.2.1 s.2.2.1)
def laws_toChainS.S (a0 : List Ch) : (List Ch) := ((laws_toChainS_l3.R a0 (List.replicate ((a0.length : Int)).toNat zCh) 0).2.1)
def laws_toChainS.enc (r : (List Ch)) : AV × List Blk := (.v (.c (.own 0 13 65)), [.arr (.chs r)])
def laws_toChainS.P (a0 : List Ch) : Prop := (chsSm a0)
def laws_toChainS.L : ShL := sCons sChs (sNil)
def laws_toChainS.c : Ctr := vctr 43 laws_toChainS.L (some fun s => laws_toChainS.P s.1) (fun s => laws_toChainS.enc (laws_toChainS.S s.1))
theorem laws_toChainS_l3.w (x3_0 : List Ch) (x3_1 : List Ch) (x3_2 : Int) : evBody (env [laws_toChain.c]) [] (bodyAt Try.f43 0) laws_toChainS_l3.d (x3_0, (x3_1, (x3_2, ()))) = (And (Imp ((decide (x3_2 < (x3_0.length : Int))) = true) (And ((0 : Int) ≤ x3_2 ∧ x3_2 < (x3_0.length : Int)) (And (laws_toChain.P (x3_0.getD (x3_2).toNat zCh)) (And ((0 : Int) ≤ x3_2 ∧ x3_2 < (x3_1.length : Int)) (And ((x3_2).toNat < x3_1.length) (And (laws_toChainS_l3.P x3_0 (x3_1.set (x3_2).toNat (laws_toChain.S (x3_0.getD (x3_2).toNat zCh))) (wrap (x3_2 + 1))) (And (laws_toChainS_l3.M x3_0 (x3_1.set (x3_2).toNat (laws_toChain.S (x3_0.getD (x3_2).toNat zCh))) (wrap (x3_2 + 1)) < laws_toChainS_l3.M x3_0 x3_1 x3_2) (laws_toChainS_l3.o x3_0 (x3_1.set (x3_2).toNat (laws_toChain.S (x3_0.getD (x3_2).toNat zCh))) (wrap (x3_2 + 1)) (laws_toChainS_l3.R x3_0 (x3_1.set (x3_2).toNat (laws_toChain.S (x3_0.getD (x3_2).toNat zCh))) (wrap (x3_2 + 1))) = laws_toChainS_l3.o x3_0 x3_1 x3_2 (laws_toChainS_l3.R x3_0 x3_1 x3_2))))))))) (Imp ((decide (x3_2 < (x3_0.length : Int))) = false) (laws_toChainS_l3.o x3_0 x3_1 x3_2 (laws_toChainS_l3.R x3_0 x3_1 x3_2) = (.exit 0, [.c (.arr false (.chs x3_0)), .c (.own 0 13 65), .c (.int x3_2)], [.arr (.chs x3_1)])))) := by kernel_rfl
theorem laws_toChainS_l3.v (x3_0 : List Ch) (x3_1 : List Ch) (x3_2 : Int) (hp : laws_toChainS_l3.P x3_0 x3_1 x3_2) : And (Imp ((decide (x3_2 < (x3_0.length : Int))) = true) (And ((0 : Int) ≤ x3_2 ∧ x3_2 < (x3_0.length : Int)) (And (laws_toChain.P (x3_0.getD (x3_2).toNat zCh)) (And ((0 : Int) ≤ x3_2 ∧ x3_2 < (x3_1.length : Int)) (And ((x3_2).toNat < x3_1.length) (And (laws_toChainS_l3.P x3_0 (x3_1.set (x3_2).toNat (laws_toChain.S (x3_0.getD (x3_2).toNat zCh))) (wrap (x3_2 + 1))) (And (laws_toChainS_l3.M x3_0 (x3_1.set (x3_2).toNat (laws_toChain.S (x3_0.getD (x3_2).toNat zCh))) (wrap (x3_2 + 1)) < laws_toChainS_l3.M x3_0 x3_1 x3_2) (laws_toChainS_l3.o x3_0 (x3_1.set (x3_2).toNat (laws_toChain.S (x3_0.getD (x3_2).toNat zCh))) (wrap (x3_2 + 1)) (laws_toChainS_l3.R x3_0 (x3_1.set (x3_2).toNat (laws_toChain.S (x3_0.getD (x3_2).toNat zCh))) (wrap (x3_2 + 1))) = laws_toChainS_l3.o x3_0 x3_1 x3_2 (laws_toChainS_l3.R x3_0 x3_1 x3_2))))))))) (Imp ((decide (x3_2 < (x3_0.length : Int))) = false) (laws_toChainS_l3.o x3_0 x3_1 x3_2 (laws_toChainS_l3.R x3_0 x3_1 x3_2) = (.exit 0, [.c (.arr false (.chs x3_0)), .c (.own 0 13 65), .c (.int x3_2)], [.arr (.chs x3_1)]))) := by
  simp only [laws_toChainS_l3.P] at hp
  obtain ⟨p0, p1, p2, p3, p4⟩ := hp
  refine ⟨fun h1 => ?_, fun h1 => ?_⟩
  · refine ⟨by first | assumption | omega | grind [wrap_id, chs_1, chs_2, chs_3, chs_4, chs_5, chsSm, laws_toChain.P], ?_⟩
    refine ⟨by first | assumption | omega | grind [wrap_id, chs_1, chs_2, chs_3, chs_4, chs_5, chsSm, laws_toChain.P], ?_⟩
    refine ⟨by first | assumption | omega | grind [wrap_id, chs_1, chs_2, chs_3, chs_4, chs_5, chsSm, laws_toChain.P], ?_⟩
    refine ⟨by first | assumption | omega | grind [wrap_id, chs_1, chs_2, chs_3, chs_4, chs_5, chsSm, laws_toChain.P], ?_⟩
    have hμ : laws_toChainS_l3.M x3_0 x3_1 x3_2 = laws_toChainS_l3.M x3_0 (x3_1.set (x3_2).toNat (laws_toChain.S (x3_0.getD (x3_2).toNat zCh))) (wrap (x3_2 + 1)) + 1 := by simp only [laws_toChainS_l3.M]; first | omega | grind [wrap_id]
    refine ⟨by simp only [laws_toChainS_l3.P]; refine ⟨(by first | assumption | omega | grind [wrap_id, chs_1, chs_2, chs_3, chs_4, chs_5, chsSm, laws_toChain.P]), (by first | assumption | omega | grind [wrap_id, chs_1, chs_2, chs_3, chs_4, chs_5, chsSm, laws_toChain.P]), (by first | assumption | omega | grind [wrap_id, chs_1, chs_2, chs_3, chs_4, chs_5, chsSm, laws_toChain.P]), (by first | assumption | omega | grind [wrap_id, chs_1, chs_2, chs_3, chs_4, chs_5, chsSm, laws_toChain.P]), (by first | assumption | omega | grind [wrap_id, chs_1, chs_2, chs_3, chs_4, chs_5, chsSm, laws_toChain.P])⟩, by omega, ?_⟩
    have e : laws_toChainS_l3.R x3_0 x3_1 x3_2 = laws_toChainS_l3.R x3_0 (x3_1.set (x3_2).toNat (laws_toChain.S (x3_0.getD (x3_2).toNat zCh))) (wrap (x3_2 + 1)) := by
      have e1 : laws_toChainS_l3.R x3_0 x3_1 x3_2 = laws_toChainS_l3.S (laws_toChainS_l3.M x3_0 x3_1 x3_2) x3_0 (x3_1.set (x3_2).toNat (laws_toChain.S (x3_0.getD (x3_2).toNat zCh))) (wrap (x3_2 + 1)) := by simp only [laws_toChainS_l3.R, laws_toChainS_l3.S, h1, cond_true, cond_false]
      rw [e1, hμ]
      rfl
    rw [e]
    rfl
  · have e : laws_toChainS_l3.R x3_0 x3_1 x3_2 = (0, (x3_1, (x3_2, ()))) := by simp only [laws_toChainS_l3.R, laws_toChainS_l3.S, h1, cond_true, cond_false]
    rw [e]
    rfl
theorem laws_toChainS_l3.g (hG : ∀ c ∈ [laws_toChain.c], Good Try.prog c) : LGood Try.prog Try.f43.ntmps laws_toChainS_l3.d.ctr (bodyAt Try.f43 0) := by
  refine lgood (LL := []) hG (by kernel_rfl) (by rw [show loopsOf (bodyAt Try.f43 0) = [] from by kernel_rfl]; exact noL rfl) fun s hp => ?_
  refine Eq.mpr (laws_toChainS_l3.w s.1 s.2.1 s.2.2.1) ?_
  replace hp : laws_toChainS_l3.P s.1 s.2.1 s.2.2.1 := hp
  exact laws_toChainS_l3.v _ _ _ hp
def laws_toChainS_l3.E (x3_0 : List Ch) (k : Nat) (a : (List Ch)) : Option (Nat × (List Ch) × Int × Unit) := none
def laws_toChainS_l3.A (x3_0 : List Ch) (k : Nat) (a : (List Ch)) : (List Ch) := (a.set k (laws_toChain.S (x3_0.getD k zCh)))
def laws_toChainS_l3.fin (x3_0 : List Ch) (k : Nat) (a : (List Ch)) : Nat × (List Ch) × Int × Unit := (0, (a, ((k : Int), ())))
def laws_toChainS_l3.acc (x3_0 : List Ch) (a : (List Ch)) : Nat → (List Ch)
  | 0 => a
  | k + 1 => laws_toChainS_l3.A x3_0 k (laws_toChainS_l3.acc x3_0 a k)
theorem laws_toChainS_l3.law (x3_0 : List Ch) (a : (List Ch)) (n : Nat) (hT : (x3_0.length : Int) = (n : Int)) (hn : (n : Int) ≤ 9223372036854775807) :
    ((∀ k, k < n → laws_toChainS_l3.E x3_0 k (laws_toChainS_l3.acc x3_0 a k) = none) ∧ laws_toChainS_l3.R x3_0 a 0 = laws_toChainS_l3.fin x3_0 n (laws_toChainS_l3.acc x3_0 a n)) ∨ (∃ k r, k < n ∧ laws_toChainS_l3.E x3_0 k (laws_toChainS_l3.acc x3_0 a k) = some r ∧ (∀ j, j < k → laws_toChainS_l3.E x3_0 j (laws_toChainS_l3.acc x3_0 a j) = none) ∧ laws_toChainS_l3.R x3_0 a 0 = r) := by
  have hM : laws_toChainS_l3.M x3_0 a 0 + 1 = n + 1 := by simp only [laws_toChainS_l3.M]; omega
  unfold laws_toChainS_l3.R
  rw [hM]
  refine loopE (fun m i b => laws_toChainS_l3.S m x3_0 b i) n hn (laws_toChainS_l3.acc x3_0 a) (laws_toChainS_l3.E x3_0 ) (laws_toChainS_l3.fin x3_0 ) fun m k hk => ?_
  have ha : laws_toChainS_l3.acc x3_0 a (k + 1) = laws_toChainS_l3.A x3_0 k (laws_toChainS_l3.acc x3_0 a k) := rfl
  rw [ha]
  generalize laws_toChainS_l3.acc x3_0 a k = b
  simp only [laws_toChainS_l3.S, laws_toChainS_l3.E, laws_toChainS_l3.A, laws_toChainS_l3.fin, hT, Int.toNat_natCast]
  all_goals grind
theorem laws_toChainS.w (a0 : List Ch) (K : AV → List Blk → Prop) : evFn (env [laws_toChain.c]) [laws_toChainS_l3.d.ctr] [[some (.ch, 65)]] Try.f43 [] (laws_toChainS.L.enc (a0, ())) K = (And (((a0.length : Int) : Int) = (a0.length : Int) ∧ 0 ≤ (a0.length : Int) ∧ (a0.length : Int) ≤ 4294967296) (And (laws_toChainS_l3.P a0 (List.replicate ((a0.length : Int)).toNat zCh) 0) (K (.v (.c (.own 0 13 65))) ([.arr (.chs (laws_toChainS_l3.R a0 (List.replicate ((a0.length : Int)).toNat zCh) 0).2.1)])))) := by kernel_rfl
theorem laws_toChainS.v (a0 : List Ch) (hp : laws_toChainS.P a0) (hf : chsFact a0 ∧ True) (K : AV → List Blk → Prop) (hK : K (laws_toChainS.enc (laws_toChainS.S a0)).1 (laws_toChainS.enc (laws_toChainS.S a0)).2) : And (((a0.length : Int) : Int) = (a0.length : Int) ∧ 0 ≤ (a0.length : Int) ∧ (a0.length : Int) ≤ 4294967296) (And (laws_toChainS_l3.P a0 (List.replicate ((a0.length : Int)).toNat zCh) 0) (K (.v (.c (.own 0 13 65))) ([.arr (.chs (laws_toChainS_l3.R a0 (List.replicate ((a0.length : Int)).toNat zCh) 0).2.1)]))) := by
  simp only [laws_toChainS.P] at hp
  obtain ⟨f0, -⟩ := hf
  try simp only [big] at *
  refine ⟨by first | assumption | omega | grind [wrap_id, chs_1, chs_2, chs_3, chs_4, chs_5, chsSm, laws_toChain.P], ?_⟩
  refine ⟨by simp only [laws_toChainS_l3.P]; refine ⟨(by first | assumption | omega | grind [wrap_id, chs_1, chs_2, chs_3, chs_4, chs_5, chsSm, laws_toChain.P]), (by first | assumption | omega | grind [wrap_id, chs_1, chs_2, chs_3, chs_4, chs_5, chsSm, laws_toChain.P]), (by first | assumption | omega | grind [wrap_id, chs_1, chs_2, chs_3, chs_4, chs_5, chsSm, laws_toChain.P]), (by first | assumption | omega | grind [wrap_id, chs_1, chs_2, chs_3, chs_4, chs_5, chsSm, laws_toChain.P]), (by first | assumption | omega | grind [wrap_id, chs_1, chs_2, chs_3, chs_4, chs_5, chsSm, laws_toChain.P])⟩, ?_⟩
  have e : laws_toChainS.S a0 = ((laws_toChainS_l3.R a0 (List.replicate ((a0.length : Int)).toNat zCh) 0).2.1) := by simp only [laws_toChainS.S, cond_true, cond_false]
  rw [e] at hK
  exact hK
theorem laws_toChainS.good : Good Try.prog laws_toChainS.c :=
  vgood (sh := [[some (.ch, 65)]]) (LL := [laws_toChainS_l3.d.ctr]) (consG laws_toChain.good noG) (fn := Try.f43) (by kernel_rfl) (by kernel_rfl) (by rw [show loopsOf (bodyOf Try.f43) = [(bodyAt Try.f43 0)] from by kernel_rfl]; exact consL (l := laws_toChainS_l3.d.ctr) (by kernel_rfl) (laws_toChainS_l3.g (consG laws_toChain.good noG)) (noL rfl)) fun s hp hf => by
    refine Eq.mpr (laws_toChainS.w (s.1) _) ?_
    exact laws_toChainS.v _ (hp _ rfl) hf (fun r bs' => And (r = (laws_toChainS.c.out s).1) (bs' = (laws_toChainS.c.out s).2)) ⟨rfl, rfl⟩
/-! ### laws.toWorld -/
def laws_toWorld.S (a0 : List Ch) : (List Ch) := ((laws_toChainS.S a0))
def laws_toWorld.enc (r : (List Ch)) : AV × List Blk := (.v (.agg [.own 0 13 65]), [.arr (.chs r)])
def laws_toWorld.P (a0 : List Ch) : Prop := (chsSm a0)
def laws_toWorld.L : ShL := sCons sW (sNil)
def laws_toWorld.c : Ctr := vctr 14 laws_toWorld.L (some fun s => laws_toWorld.P s.1) (fun s => laws_toWorld.enc (laws_toWorld.S s.1))
theorem laws_toWorld.w (a0 : List Ch) (K : AV → List Blk → Prop) : evFn (env [laws_toChainS.c]) [] [[some (.ch, 65)]] Try.f14 [] (laws_toWorld.L.enc (a0, ())) K = (And (laws_toChainS.P a0) (K (.v (.agg [.own 0 13 65])) ([.arr (.chs (laws_toChainS.S a0))]))) := by kernel_rfl
theorem laws_toWorld.v (a0 : List Ch) (hp : laws_toWorld.P a0) (hf : chsFact a0 ∧ True) (K : AV → List Blk → Prop) (hK : K (laws_toWorld.enc (laws_toWorld.S a0)).1 (laws_toWorld.enc (laws_toWorld.S a0)).2) : And (laws_toChainS.P a0) (K (.v (.agg [.own 0 13 65])) ([.arr (.chs (laws_toChainS.S a0))])) := by
  simp only [laws_toWorld.P] at hp
  obtain ⟨f0, -⟩ := hf
  try simp only [big] at *
  refine ⟨by first | assumption | omega | grind [wrap_id, chs_1, chs_2, chs_3, chs_4, chs_5, laws_toChainS.P], ?_⟩
  have e : laws_toWorld.S a0 = ((laws_toChainS.S a0)) := by simp only [laws_toWorld.S, cond_true, cond_false]
  rw [e] at hK
  exact hK
theorem laws_toWorld.good : Good Try.prog laws_toWorld.c :=
  vgood (sh := [[some (.ch, 65)]]) (LL := []) (consG laws_toChainS.good noG) (fn := Try.f14) (by kernel_rfl) (by kernel_rfl) (by rw [show loopsOf (bodyOf Try.f14) = [] from by kernel_rfl]; exact noL rfl) fun s hp hf => by
    refine Eq.mpr (laws_toWorld.w (s.1) _) ?_
    exact laws_toWorld.v _ (hp _ rfl) hf (fun r bs' => And (r = (laws_toWorld.c.out s).1) (bs' = (laws_toWorld.c.out s).2)) ⟨rfl, rfl⟩
end Hw
end Go.Proofs.Ytfboldbfbmmahaa
