/- Copies of chains: made by gen.py. -/
import Derived.Test.YtfboldbfbmmahaaY4
set_option linter.unusedVariables false
set_option linter.unusedSimpArgs false
set_option maxRecDepth 100000
set_option maxHeartbeats 400000
namespace Go.Proofs.Ytfboldbfbmmahaa
namespace Hw
open Go
noncomputable section
attribute [local irreducible] evFn evBody wrap wxor
def ZdJ.S (a0 : Ch) : Ch := ((⟨a0.id, (ZdA.S a0.bank), (ZdG.S a0.st), (ZdI.S a0.past), (Zdz.S a0.knows)⟩ : Ch))
def ZdJ.enc (r : Ch) : AV × List Blk := (.v (.agg [.int r.id, .own 0 1 3, .own 1 1 3, .int r.bank.locked, .int r.st.way, .int r.st.ver, .int r.st.want, .own 2 7 49, .own 3 1 4, .own 4 1 4, .own 5 1 3, .own 6 7 45, .own 7 1 3]), [.arr (.ints r.bank.own), .arr (.ints r.bank.notes), .arr (.pkts r.st.sent), .arr (.bools r.st.live), .arr (.bools r.st.back), .arr (.ints r.st.got), .arr (.sts r.past), .arr (.ints r.knows)])
def ZdJ.P (a0 : Ch) : Prop := (a0.sm)
def ZdJ.L : ShL := sCons sCh (sNil)
def ZdJ.c : Ctr := vctr 69 ZdJ.L (some fun s => ZdJ.P s.1) (fun s => ZdJ.enc (ZdJ.S s.1))
theorem ZdJ.w (a0 : Ch) (K : AV → List Blk → Prop) : evFn (envS [ZdA.c, ZdG.c, ZdI.c, Zdz.c] []) [] [[none, some (.int, 3), some (.int, 3), none, none, none, none, some (.pkt, 49), some (.bool, 4), some (.bool, 4), some (.int, 3), some (.st, 45), some (.int, 3)]] [] Try.f69 [] (ZdJ.L.enc (a0, ())) K = (And (ZdA.P a0.bank) (And (ZdG.P a0.st) (And (ZdI.P a0.past) (And (Zdz.P a0.knows) (K (.v (.agg [.int a0.id, .own 0 1 3, .own 1 1 3, .int (ZdA.S a0.bank).locked, .int (ZdG.S a0.st).way, .int (ZdG.S a0.st).ver, .int (ZdG.S a0.st).want, .own 2 7 49, .own 3 1 4, .own 4 1 4, .own 5 1 3, .own 6 7 45, .own 7 1 3])) ([.arr (.ints (ZdA.S a0.bank).own), .arr (.ints (ZdA.S a0.bank).notes), .arr (.pkts (ZdG.S a0.st).sent), .arr (.bools (ZdG.S a0.st).live), .arr (.bools (ZdG.S a0.st).back), .arr (.ints (ZdG.S a0.st).got), .arr (.sts (ZdI.S a0.past)), .arr (.ints (Zdz.S a0.knows))])))))) := by kernel_rfl
theorem ZdJ.v (a0 : Ch) (hp : ZdJ.P a0) (hf : Ch.fact a0 ∧ True) (K : AV → List Blk → Prop) (hK : K (ZdJ.enc (ZdJ.S a0)).1 (ZdJ.enc (ZdJ.S a0)).2) : And (ZdA.P a0.bank) (And (ZdG.P a0.st) (And (ZdI.P a0.past) (And (Zdz.P a0.knows) (K (.v (.agg [.int a0.id, .own 0 1 3, .own 1 1 3, .int (ZdA.S a0.bank).locked, .int (ZdG.S a0.st).way, .int (ZdG.S a0.st).ver, .int (ZdG.S a0.st).want, .own 2 7 49, .own 3 1 4, .own 4 1 4, .own 5 1 3, .own 6 7 45, .own 7 1 3])) ([.arr (.ints (ZdA.S a0.bank).own), .arr (.ints (ZdA.S a0.bank).notes), .arr (.pkts (ZdG.S a0.st).sent), .arr (.bools (ZdG.S a0.st).live), .arr (.bools (ZdG.S a0.st).back), .arr (.ints (ZdG.S a0.st).got), .arr (.sts (ZdI.S a0.past)), .arr (.ints (Zdz.S a0.knows))]))))) := by
  simp only [ZdJ.P] at hp
  obtain ⟨f0, -⟩ := hf
  obtain ⟨⟨f0_0, f0_1⟩, ⟨f0_2, f0_3, f0_4, f0_5⟩, f0_6, f0_7⟩ := f0
  try simp only [big] at *
  refine ⟨by clear hK; first | exact True.intro | assumption | omega | grind [wrap_id, sts_1, sts_2, Ch.sm, ZdA.P, ZdG.P, ZdI.P, Zdz.P], ?_⟩
  refine ⟨by clear hK; first | exact True.intro | assumption | omega | grind [wrap_id, sts_1, sts_2, Ch.sm, ZdA.P, ZdG.P, ZdI.P, Zdz.P], ?_⟩
  refine ⟨by clear hK; first | exact True.intro | assumption | omega | grind [wrap_id, sts_1, sts_2, Ch.sm, ZdA.P, ZdG.P, ZdI.P, Zdz.P], ?_⟩
  refine ⟨by clear hK; first | exact True.intro | assumption | omega | grind [wrap_id, sts_1, sts_2, Ch.sm, ZdA.P, ZdG.P, ZdI.P, Zdz.P], ?_⟩
  have e : ZdJ.S a0 = ((⟨a0.id, (ZdA.S a0.bank), (ZdG.S a0.st), (ZdI.S a0.past), (Zdz.S a0.knows)⟩ : Ch)) := by unfold ZdJ.S; exact rfl
  rw [e] at hK
  exact hK
theorem ZdJ.good : Good Try.prog ZdJ.c :=
  vgood (sh := [[none, some (.int, 3), some (.int, 3), none, none, none, none, some (.pkt, 49), some (.bool, 4), some (.bool, 4), some (.int, 3), some (.st, 45), some (.int, 3)]]) (sp := []) (LL := []) (consG ZdA.good (consG ZdG.good (consG ZdI.good (consG Zdz.good noG)))) (fn := Try.f69) (by kernel_rfl) (by kernel_rfl) (by rw [show loopsOf (bodyOf Try.f69) = [] from by kernel_rfl]; exact noL rfl) fun s hp hf => by
    exact Eq.mpr (ZdJ.w (s.1) (fun r bs' => And (r = (ZdJ.c.out s).1) (bs' = (ZdJ.c.out s).2))) (ZdJ.v (s.1) (hp _ rfl) hf (fun r bs' => And (r = (ZdJ.c.out s).1) (bs' = (ZdJ.c.out s).2)) ⟨rfl, rfl⟩)
def ZdK.S : Nat → (List Ch) → (List Ch) → Int → Nat × (List Ch) × Int × Unit
  | 0, _, _, _ => (0, ([], (0, ())))
  | n + 1, y0, y1, y2 => bif decide (y2 < (y0.length : Int)) then ZdK.S n y0 (y1.set (y2).toNat (ZdJ.S (y0.getD (y2).toNat zCh))) (wrap (y2 + 1)) else (0, (y1, (y2, ())))
def ZdK.M (y0 : List Ch) (y1 : List Ch) (y2 : Int) : Nat := ((y0.length : Int) - y2).toNat
def ZdK.R (y0 : List Ch) (y1 : List Ch) (y2 : Int) : Nat × (List Ch) × Int × Unit := ZdK.S (ZdK.M y0 y1 y2 + 1) y0 y1 y2
def ZdK.P (y0 : List Ch) (y1 : List Ch) (y2 : Int) : Prop := (0 ≤ y2) ∧ ((y0.length : Int) ≤ 9223372036854775807) ∧ (chsFact y0) ∧ (y1.length = y0.length) ∧ (chsSm y0)
def ZdK.L : FL := fCons (fC (cArr false kChs)) (fCons (fC (cOwn kChs 65)) (fCons (fC cInt) (fNil)))
def ZdK.o0 (y0 : List Ch) (y1 : List Ch) (y2 : Int) (r : Nat × (List Ch) × Int × Unit) : Ex × List FV × List Blk := (.exit 0, [.c (.arr false (.chs y0)), .c (.own 0 13 65), .c (.int r.2.2.1)], [.arr (.chs r.2.1)])
def ZdK.o (y0 : List Ch) (y1 : List Ch) (y2 : Int) (r : Nat × (List Ch) × Int × Unit) : Ex × List FV × List Blk := pickAlt [] (ZdK.o0 y0 y1 y2 r)
def ZdK.d : LDat := ldat 3 [0, 3, 4] [] ZdK.L (fun s => ZdK.P s.1 s.2.1 s.2.2.1) (fun s => []) (fun s => ZdK.o0 s.1 s.2.1 s.2.2.1 (ZdK.R s.1 s.2.1 s.2.2.1)) (fun s => ZdK.M s.1 s.2.1 s.2.2.1)
def ZdL.S (a0 : List Ch) : (List Ch) := ((ZdK.R a0 (List.replicate ((a0.length : Int)).toNat zCh) 0).2.1)
def ZdL.enc (r : (List Ch)) : AV × List Blk := (.v (.c (.own 0 13 65)), [.arr (.chs r)])
def ZdL.P (a0 : List Ch) : Prop := (chsSm a0)
def ZdL.L : ShL := sCons sChs (sNil)
def ZdL.c : Ctr := vctr 43 ZdL.L (some fun s => ZdL.P s.1) (fun s => ZdL.enc (ZdL.S s.1))
theorem ZdK.w (y0 : List Ch) (y1 : List Ch) (y2 : Int) : evBody (envS [ZdJ.c] []) [] (bodyAt Try.f43 0) ZdK.d (y0, (y1, (y2, ()))) = (And (Imp ((decide (y2 < (y0.length : Int))) = true) (And ((0 : Int) ≤ y2 ∧ y2 < (y0.length : Int)) (And (ZdJ.P (y0.getD (y2).toNat zCh)) (And ((0 : Int) ≤ y2 ∧ y2 < (y1.length : Int)) (And ((y2).toNat < y1.length) (And (ZdK.P y0 (y1.set (y2).toNat (ZdJ.S (y0.getD (y2).toNat zCh))) (wrap (y2 + 1))) (And (ZdK.M y0 (y1.set (y2).toNat (ZdJ.S (y0.getD (y2).toNat zCh))) (wrap (y2 + 1)) < ZdK.M y0 y1 y2) (ZdK.o y0 (y1.set (y2).toNat (ZdJ.S (y0.getD (y2).toNat zCh))) (wrap (y2 + 1)) (ZdK.R y0 (y1.set (y2).toNat (ZdJ.S (y0.getD (y2).toNat zCh))) (wrap (y2 + 1))) = ZdK.o y0 y1 y2 (ZdK.R y0 y1 y2))))))))) (Imp ((decide (y2 < (y0.length : Int))) = false) (ZdK.o y0 y1 y2 (ZdK.R y0 y1 y2) = (.exit 0, [.c (.arr false (.chs y0)), .c (.own 0 13 65), .c (.int y2)], [.arr (.chs y1)])))) := by kernel_rfl
theorem ZdK.v (y0 : List Ch) (y1 : List Ch) (y2 : Int) (hp : ZdK.P y0 y1 y2) : And (Imp ((decide (y2 < (y0.length : Int))) = true) (And ((0 : Int) ≤ y2 ∧ y2 < (y0.length : Int)) (And (ZdJ.P (y0.getD (y2).toNat zCh)) (And ((0 : Int) ≤ y2 ∧ y2 < (y1.length : Int)) (And ((y2).toNat < y1.length) (And (ZdK.P y0 (y1.set (y2).toNat (ZdJ.S (y0.getD (y2).toNat zCh))) (wrap (y2 + 1))) (And (ZdK.M y0 (y1.set (y2).toNat (ZdJ.S (y0.getD (y2).toNat zCh))) (wrap (y2 + 1)) < ZdK.M y0 y1 y2) (ZdK.o y0 (y1.set (y2).toNat (ZdJ.S (y0.getD (y2).toNat zCh))) (wrap (y2 + 1)) (ZdK.R y0 (y1.set (y2).toNat (ZdJ.S (y0.getD (y2).toNat zCh))) (wrap (y2 + 1))) = ZdK.o y0 y1 y2 (ZdK.R y0 y1 y2))))))))) (Imp ((decide (y2 < (y0.length : Int))) = false) (ZdK.o y0 y1 y2 (ZdK.R y0 y1 y2) = (.exit 0, [.c (.arr false (.chs y0)), .c (.own 0 13 65), .c (.int y2)], [.arr (.chs y1)]))) := by
  simp only [ZdK.P] at hp
  obtain ⟨p0, p1, p2, p3, p4⟩ := hp
  refine ⟨fun h1 => ?_, fun h1 => ?_⟩
  · refine ⟨by first | exact True.intro | assumption | omega | grind [wrap_id, chs_1, chs_2, chs_3, chs_4, chs_5, chsSm, ZdJ.P], ?_⟩
    refine ⟨by first | exact True.intro | assumption | omega | grind [wrap_id, chs_1, chs_2, chs_3, chs_4, chs_5, chsSm, ZdJ.P], ?_⟩
    refine ⟨by first | exact True.intro | assumption | omega | grind [wrap_id, chs_1, chs_2, chs_3, chs_4, chs_5, chsSm, ZdJ.P], ?_⟩
    refine ⟨by first | exact True.intro | assumption | omega | grind [wrap_id, chs_1, chs_2, chs_3, chs_4, chs_5, chsSm, ZdJ.P], ?_⟩
    have hμ : ZdK.M y0 y1 y2 = ZdK.M y0 (y1.set (y2).toNat (ZdJ.S (y0.getD (y2).toNat zCh))) (wrap (y2 + 1)) + 1 := by simp only [ZdK.M]; first | omega | grind [wrap_id]
    refine ⟨by simp only [ZdK.P]; refine ⟨(by first | exact True.intro | assumption | omega | grind [wrap_id, chs_1, chs_2, chs_3, chs_4, chs_5, chsSm, ZdJ.P]), (by first | exact True.intro | assumption | omega | grind [wrap_id, chs_1, chs_2, chs_3, chs_4, chs_5, chsSm, ZdJ.P]), (by first | exact True.intro | assumption | omega | grind [wrap_id, chs_1, chs_2, chs_3, chs_4, chs_5, chsSm, ZdJ.P]), (by first | exact True.intro | assumption | omega | grind [wrap_id, chs_1, chs_2, chs_3, chs_4, chs_5, chsSm, ZdJ.P]), (by first | exact True.intro | assumption | omega | grind [wrap_id, chs_1, chs_2, chs_3, chs_4, chs_5, chsSm, ZdJ.P])⟩, by omega, ?_⟩
    have e : ZdK.R y0 y1 y2 = ZdK.R y0 (y1.set (y2).toNat (ZdJ.S (y0.getD (y2).toNat zCh))) (wrap (y2 + 1)) := by
      have e1 : ZdK.R y0 y1 y2 = ZdK.S (ZdK.M y0 y1 y2) y0 (y1.set (y2).toNat (ZdJ.S (y0.getD (y2).toNat zCh))) (wrap (y2 + 1)) := by unfold ZdK.R; rw [ZdK.S]; exact (cond_t h1).trans <| rfl
      rw [e1, hμ]
      rfl
    rw [e]
    rfl
  · have e : ZdK.R y0 y1 y2 = (0, (y1, (y2, ()))) := by unfold ZdK.R; rw [ZdK.S]; exact (cond_f h1).trans <| rfl
    rw [e]
    rfl
theorem ZdK.g (hG : ∀ c ∈ [ZdJ.c], Good Try.prog c) : LGood Try.prog Try.f43.ntmps ZdK.d.ctr (bodyAt Try.f43 0) := by
  refine lgoodS (sp := []) (LL := []) hG (by kernel_rfl) (by rw [show loopsOf (bodyAt Try.f43 0) = [] from by kernel_rfl]; exact noL rfl) fun s hp => ?_
  refine Eq.mpr (ZdK.w s.1 s.2.1 s.2.2.1) ?_
  replace hp : ZdK.P s.1 s.2.1 s.2.2.1 := hp
  exact ZdK.v _ _ _ hp
def ZdK.E (y0 : List Ch) (k : Nat) (a : (List Ch)) : Option (Nat × (List Ch) × Int × Unit) := none
def ZdK.A (y0 : List Ch) (k : Nat) (a : (List Ch)) : (List Ch) := (a.set k (ZdJ.S (y0.getD k zCh)))
def ZdK.fin (y0 : List Ch) (k : Nat) (a : (List Ch)) : Nat × (List Ch) × Int × Unit := (0, (a, ((k : Int), ())))
def ZdK.acc (y0 : List Ch) (a : (List Ch)) : Nat → (List Ch)
  | 0 => a
  | k + 1 => ZdK.A y0 k (ZdK.acc y0 a k)
theorem ZdK.law (y0 : List Ch) (a : (List Ch)) (n : Nat) (hT : (y0.length : Int) = (n : Int)) (hn : (n : Int) ≤ 9223372036854775807) :
    ((∀ k, k < n → ZdK.E y0 k (ZdK.acc y0 a k) = none) ∧ ZdK.R y0 a 0 = ZdK.fin y0 n (ZdK.acc y0 a n)) ∨ (∃ k r, k < n ∧ ZdK.E y0 k (ZdK.acc y0 a k) = some r ∧ (∀ j, j < k → ZdK.E y0 j (ZdK.acc y0 a j) = none) ∧ ZdK.R y0 a 0 = r) := by
  have hM : ZdK.M y0 a 0 + 1 = n + 1 := by simp only [ZdK.M]; omega
  unfold ZdK.R
  rw [hM]
  refine loopE (fun m i b => ZdK.S m y0 b i) n hn (ZdK.acc y0 a) (ZdK.E y0 ) (ZdK.fin y0 ) fun m k hk => ?_
  have ha : ZdK.acc y0 a (k + 1) = ZdK.A y0 k (ZdK.acc y0 a k) := rfl
  rw [ha]
  generalize ZdK.acc y0 a k = b
  simp only [ZdK.S, ZdK.E, ZdK.A, ZdK.fin, hT, Int.toNat_natCast]
  all_goals grind
theorem ZdL.w (a0 : List Ch) (K : AV → List Blk → Prop) : evFn (envS [ZdJ.c] []) [ZdK.d.ctr] [[some (.ch, 65)]] [] Try.f43 [] (ZdL.L.enc (a0, ())) K = (And (((a0.length : Int) : Int) = (a0.length : Int) ∧ (0 : Int) ≤ (a0.length : Int) ∧ ((a0.length : Int) : Int) ≤ 4294967296) (And (ZdK.P a0 (List.replicate ((a0.length : Int)).toNat zCh) 0) (K (.v (.c (.own 0 13 65))) ([.arr (.chs (ZdK.R a0 (List.replicate ((a0.length : Int)).toNat zCh) 0).2.1)])))) := by kernel_rfl
theorem ZdL.v (a0 : List Ch) (hp : ZdL.P a0) (hf : chsFact a0 ∧ True) (K : AV → List Blk → Prop) (hK : K (ZdL.enc (ZdL.S a0)).1 (ZdL.enc (ZdL.S a0)).2) : And (((a0.length : Int) : Int) = (a0.length : Int) ∧ (0 : Int) ≤ (a0.length : Int) ∧ ((a0.length : Int) : Int) ≤ 4294967296) (And (ZdK.P a0 (List.replicate ((a0.length : Int)).toNat zCh) 0) (K (.v (.c (.own 0 13 65))) ([.arr (.chs (ZdK.R a0 (List.replicate ((a0.length : Int)).toNat zCh) 0).2.1)]))) := by
  simp only [ZdL.P] at hp
  obtain ⟨f0, -⟩ := hf
  try simp only [big] at *
  refine ⟨by clear hK; first | exact True.intro | assumption | omega | grind [wrap_id, chs_1, chs_2, chs_3, chs_4, chs_5, chsSm, ZdJ.P], ?_⟩
  refine ⟨by simp only [ZdK.P]; refine ⟨(by clear hK; first | exact True.intro | assumption | omega | grind [wrap_id, chs_1, chs_2, chs_3, chs_4, chs_5, chsSm, ZdJ.P]), (by clear hK; first | exact True.intro | assumption | omega | grind [wrap_id, chs_1, chs_2, chs_3, chs_4, chs_5, chsSm, ZdJ.P]), (by clear hK; first | exact True.intro | assumption | omega | grind [wrap_id, chs_1, chs_2, chs_3, chs_4, chs_5, chsSm, ZdJ.P]), (by clear hK; first | exact True.intro | assumption | omega | grind [wrap_id, chs_1, chs_2, chs_3, chs_4, chs_5, chsSm, ZdJ.P]), (by clear hK; first | exact True.intro | assumption | omega | grind [wrap_id, chs_1, chs_2, chs_3, chs_4, chs_5, chsSm, ZdJ.P])⟩, ?_⟩
  have e : ZdL.S a0 = ((ZdK.R a0 (List.replicate ((a0.length : Int)).toNat zCh) 0).2.1) := by unfold ZdL.S; exact rfl
  rw [e] at hK
  exact hK
theorem ZdL.good : Good Try.prog ZdL.c :=
  vgood (sh := [[some (.ch, 65)]]) (sp := []) (LL := [ZdK.d.ctr]) (consG ZdJ.good noG) (fn := Try.f43) (by kernel_rfl) (by kernel_rfl) (by rw [show loopsOf (bodyOf Try.f43) = [(bodyAt Try.f43 0)] from by kernel_rfl]; exact consL (l := ZdK.d.ctr) (by kernel_rfl) (ZdK.g (consG ZdJ.good noG)) (noL rfl)) fun s hp hf => by
    exact Eq.mpr (ZdL.w (s.1) (fun r bs' => And (r = (ZdL.c.out s).1) (bs' = (ZdL.c.out s).2))) (ZdL.v (s.1) (hp _ rfl) hf (fun r bs' => And (r = (ZdL.c.out s).1) (bs' = (ZdL.c.out s).2)) ⟨rfl, rfl⟩)
def ZdM.S (a0 : List Ch) : (List Ch) := ((ZdL.S a0))
def ZdM.enc (r : (List Ch)) : AV × List Blk := (.v (.agg [.own 0 13 65]), [.arr (.chs r)])
def ZdM.P (a0 : List Ch) : Prop := (chsSm a0)
def ZdM.L : ShL := sCons sW (sNil)
def ZdM.c : Ctr := vctr 14 ZdM.L (some fun s => ZdM.P s.1) (fun s => ZdM.enc (ZdM.S s.1))
theorem ZdM.w (a0 : List Ch) (K : AV → List Blk → Prop) : evFn (envS [ZdL.c] []) [] [[some (.ch, 65)]] [] Try.f14 [] (ZdM.L.enc (a0, ())) K = (And (ZdL.P a0) (K (.v (.agg [.own 0 13 65])) ([.arr (.chs (ZdL.S a0))]))) := by kernel_rfl
theorem ZdM.v (a0 : List Ch) (hp : ZdM.P a0) (hf : chsFact a0 ∧ True) (K : AV → List Blk → Prop) (hK : K (ZdM.enc (ZdM.S a0)).1 (ZdM.enc (ZdM.S a0)).2) : And (ZdL.P a0) (K (.v (.agg [.own 0 13 65])) ([.arr (.chs (ZdL.S a0))])) := by
  simp only [ZdM.P] at hp
  obtain ⟨f0, -⟩ := hf
  try simp only [big] at *
  refine ⟨by clear hK; first | exact True.intro | assumption | omega | grind [wrap_id, chs_1, chs_2, chs_3, chs_4, chs_5, ZdL.P], ?_⟩
  have e : ZdM.S a0 = ((ZdL.S a0)) := by unfold ZdM.S; exact rfl
  rw [e] at hK
  exact hK
theorem ZdM.good : Good Try.prog ZdM.c :=
  vgood (sh := [[some (.ch, 65)]]) (sp := []) (LL := []) (consG ZdL.good noG) (fn := Try.f14) (by kernel_rfl) (by kernel_rfl) (by rw [show loopsOf (bodyOf Try.f14) = [] from by kernel_rfl]; exact noL rfl) fun s hp hf => by
    exact Eq.mpr (ZdM.w (s.1) (fun r bs' => And (r = (ZdM.c.out s).1) (bs' = (ZdM.c.out s).2))) (ZdM.v (s.1) (hp _ rfl) hf (fun r bs' => And (r = (ZdM.c.out s).1) (bs' = (ZdM.c.out s).2)) ⟨rfl, rfl⟩)
end
end Hw
end Go.Proofs.Ytfboldbfbmmahaa
