/- Copies: made by gen.py. -/
import Derived.Test.YtfboldbfbmmahaaY3
set_option linter.unusedVariables false
set_option linter.unusedSimpArgs false
set_option maxRecDepth 100000
set_option maxHeartbeats 400000
namespace Go.Proofs.Ytfboldbfbmmahaa
namespace Hw
open Go
noncomputable section
attribute [local irreducible] evFn evBody wrap wxor
def Zdy.S : Nat → (List Int) → (List Int) → Int → Nat × (List Int) × Int × Unit
  | 0, _, _, _ => (0, ([], (0, ())))
  | n + 1, y0, y1, y2 => bif decide (y2 < (y0.length : Int)) then Zdy.S n y0 (y1.set (y2).toNat (y0.getD (y2).toNat 0)) (wrap (y2 + 1)) else (0, (y1, (y2, ())))
def Zdy.M (y0 : List Int) (y1 : List Int) (y2 : Int) : Nat := ((y0.length : Int) - y2).toNat
def Zdy.R (y0 : List Int) (y1 : List Int) (y2 : Int) : Nat × (List Int) × Int × Unit := Zdy.S (Zdy.M y0 y1 y2 + 1) y0 y1 y2
def Zdy.P (y0 : List Int) (y1 : List Int) (y2 : Int) : Prop := (0 ≤ y2) ∧ ((y0.length : Int) ≤ 9223372036854775807) ∧ (y1.length = y0.length)
def Zdy.L : FL := fCons (fC (cArr false kInts)) (fCons (fC (cOwn kInts 3)) (fCons (fC cInt) (fNil)))
def Zdy.o0 (y0 : List Int) (y1 : List Int) (y2 : Int) (r : Nat × (List Int) × Int × Unit) : Ex × List FV × List Blk := (.exit 0, [.c (.arr false (.ints y0)), .c (.own 0 1 3), .c (.int r.2.2.1)], [.arr (.ints r.2.1)])
def Zdy.o (y0 : List Int) (y1 : List Int) (y2 : Int) (r : Nat × (List Int) × Int × Unit) : Ex × List FV × List Blk := pickAlt [] (Zdy.o0 y0 y1 y2 r)
def Zdy.d : LDat := ldat 3 [0, 3, 4] [] Zdy.L (fun s => Zdy.P s.1 s.2.1 s.2.2.1) (fun s => []) (fun s => Zdy.o0 s.1 s.2.1 s.2.2.1 (Zdy.R s.1 s.2.1 s.2.2.1)) (fun s => Zdy.M s.1 s.2.1 s.2.2.1)
def Zdz.S (a0 : List Int) : (List Int) := ((Zdy.R a0 (List.replicate ((a0.length : Int)).toNat 0) 0).2.1)
def Zdz.enc (r : (List Int)) : AV × List Blk := (.v (.c (.own 0 1 3)), [.arr (.ints r)])
def Zdz.P (a0 : List Int) : Prop := (a0.length ≤ 4294967296)
def Zdz.L : ShL := sCons sInts (sNil)
def Zdz.c : Ctr := vctr 86 Zdz.L (some fun s => Zdz.P s.1) (fun s => Zdz.enc (Zdz.S s.1))
theorem Zdy.w (y0 : List Int) (y1 : List Int) (y2 : Int) : evBody (envS [] []) [] (bodyAt Try.f86 0) Zdy.d (y0, (y1, (y2, ()))) = (And (Imp ((decide (y2 < (y0.length : Int))) = true) (And ((0 : Int) ≤ y2 ∧ y2 < (y0.length : Int)) (And ((0 : Int) ≤ y2 ∧ y2 < (y1.length : Int)) (And ((y2).toNat < y1.length) (And (Zdy.P y0 (y1.set (y2).toNat (y0.getD (y2).toNat 0)) (wrap (y2 + 1))) (And (Zdy.M y0 (y1.set (y2).toNat (y0.getD (y2).toNat 0)) (wrap (y2 + 1)) < Zdy.M y0 y1 y2) (Zdy.o y0 (y1.set (y2).toNat (y0.getD (y2).toNat 0)) (wrap (y2 + 1)) (Zdy.R y0 (y1.set (y2).toNat (y0.getD (y2).toNat 0)) (wrap (y2 + 1))) = Zdy.o y0 y1 y2 (Zdy.R y0 y1 y2)))))))) (Imp ((decide (y2 < (y0.length : Int))) = false) (Zdy.o y0 y1 y2 (Zdy.R y0 y1 y2) = (.exit 0, [.c (.arr false (.ints y0)), .c (.own 0 1 3), .c (.int y2)], [.arr (.ints y1)])))) := by kernel_rfl
theorem Zdy.v (y0 : List Int) (y1 : List Int) (y2 : Int) (hp : Zdy.P y0 y1 y2) : And (Imp ((decide (y2 < (y0.length : Int))) = true) (And ((0 : Int) ≤ y2 ∧ y2 < (y0.length : Int)) (And ((0 : Int) ≤ y2 ∧ y2 < (y1.length : Int)) (And ((y2).toNat < y1.length) (And (Zdy.P y0 (y1.set (y2).toNat (y0.getD (y2).toNat 0)) (wrap (y2 + 1))) (And (Zdy.M y0 (y1.set (y2).toNat (y0.getD (y2).toNat 0)) (wrap (y2 + 1)) < Zdy.M y0 y1 y2) (Zdy.o y0 (y1.set (y2).toNat (y0.getD (y2).toNat 0)) (wrap (y2 + 1)) (Zdy.R y0 (y1.set (y2).toNat (y0.getD (y2).toNat 0)) (wrap (y2 + 1))) = Zdy.o y0 y1 y2 (Zdy.R y0 y1 y2)))))))) (Imp ((decide (y2 < (y0.length : Int))) = false) (Zdy.o y0 y1 y2 (Zdy.R y0 y1 y2) = (.exit 0, [.c (.arr false (.ints y0)), .c (.own 0 1 3), .c (.int y2)], [.arr (.ints y1)]))) := by
  simp only [Zdy.P] at hp
  obtain ⟨p0, p1, p2⟩ := hp
  refine ⟨fun h1 => ?_, fun h1 => ?_⟩
  · refine ⟨by first | exact True.intro | assumption | omega | grind [wrap_id], ?_⟩
    refine ⟨by first | exact True.intro | assumption | omega | grind [wrap_id], ?_⟩
    refine ⟨by first | exact True.intro | assumption | omega | grind [wrap_id], ?_⟩
    have hμ : Zdy.M y0 y1 y2 = Zdy.M y0 (y1.set (y2).toNat (y0.getD (y2).toNat 0)) (wrap (y2 + 1)) + 1 := by simp only [Zdy.M]; first | omega | grind [wrap_id]
    refine ⟨by simp only [Zdy.P]; refine ⟨(by first | exact True.intro | assumption | omega | grind [wrap_id]), (by first | exact True.intro | assumption | omega | grind [wrap_id]), (by first | exact True.intro | assumption | omega | grind [wrap_id])⟩, by omega, ?_⟩
    have e : Zdy.R y0 y1 y2 = Zdy.R y0 (y1.set (y2).toNat (y0.getD (y2).toNat 0)) (wrap (y2 + 1)) := by
      have e1 : Zdy.R y0 y1 y2 = Zdy.S (Zdy.M y0 y1 y2) y0 (y1.set (y2).toNat (y0.getD (y2).toNat 0)) (wrap (y2 + 1)) := by unfold Zdy.R; rw [Zdy.S]; exact (cond_t h1).trans <| rfl
      rw [e1, hμ]
      rfl
    rw [e]
    rfl
  · have e : Zdy.R y0 y1 y2 = (0, (y1, (y2, ()))) := by unfold Zdy.R; rw [Zdy.S]; exact (cond_f h1).trans <| rfl
    rw [e]
    rfl
theorem Zdy.g (hG : ∀ c ∈ [], Good Try.prog c) : LGood Try.prog Try.f86.ntmps Zdy.d.ctr (bodyAt Try.f86 0) := by
  refine lgoodS (sp := []) (LL := []) hG (by kernel_rfl) (by rw [show loopsOf (bodyAt Try.f86 0) = [] from by kernel_rfl]; exact noL rfl) fun s hp => ?_
  refine Eq.mpr (Zdy.w s.1 s.2.1 s.2.2.1) ?_
  replace hp : Zdy.P s.1 s.2.1 s.2.2.1 := hp
  exact Zdy.v _ _ _ hp
def Zdy.E (y0 : List Int) (k : Nat) (a : (List Int)) : Option (Nat × (List Int) × Int × Unit) := none
def Zdy.A (y0 : List Int) (k : Nat) (a : (List Int)) : (List Int) := (a.set k (y0.getD k 0))
def Zdy.fin (y0 : List Int) (k : Nat) (a : (List Int)) : Nat × (List Int) × Int × Unit := (0, (a, ((k : Int), ())))
def Zdy.acc (y0 : List Int) (a : (List Int)) : Nat → (List Int)
  | 0 => a
  | k + 1 => Zdy.A y0 k (Zdy.acc y0 a k)
theorem Zdy.law (y0 : List Int) (a : (List Int)) (n : Nat) (hT : (y0.length : Int) = (n : Int)) (hn : (n : Int) ≤ 9223372036854775807) :
    ((∀ k, k < n → Zdy.E y0 k (Zdy.acc y0 a k) = none) ∧ Zdy.R y0 a 0 = Zdy.fin y0 n (Zdy.acc y0 a n)) ∨ (∃ k r, k < n ∧ Zdy.E y0 k (Zdy.acc y0 a k) = some r ∧ (∀ j, j < k → Zdy.E y0 j (Zdy.acc y0 a j) = none) ∧ Zdy.R y0 a 0 = r) := by
  have hM : Zdy.M y0 a 0 + 1 = n + 1 := by simp only [Zdy.M]; omega
  unfold Zdy.R
  rw [hM]
  refine loopE (fun m i b => Zdy.S m y0 b i) n hn (Zdy.acc y0 a) (Zdy.E y0 ) (Zdy.fin y0 ) fun m k hk => ?_
  have ha : Zdy.acc y0 a (k + 1) = Zdy.A y0 k (Zdy.acc y0 a k) := rfl
  rw [ha]
  generalize Zdy.acc y0 a k = b
  simp only [Zdy.S, Zdy.E, Zdy.A, Zdy.fin, hT, Int.toNat_natCast]
  all_goals grind
theorem Zdz.w (a0 : List Int) (K : AV → List Blk → Prop) : evFn (envS [] []) [Zdy.d.ctr] [[some (.int, 3)]] [] Try.f86 [] (Zdz.L.enc (a0, ())) K = (And (((a0.length : Int) : Int) = (a0.length : Int) ∧ (0 : Int) ≤ (a0.length : Int) ∧ ((a0.length : Int) : Int) ≤ 4294967296) (And (Zdy.P a0 (List.replicate ((a0.length : Int)).toNat 0) 0) (K (.v (.c (.own 0 1 3))) ([.arr (.ints (Zdy.R a0 (List.replicate ((a0.length : Int)).toNat 0) 0).2.1)])))) := by kernel_rfl
theorem Zdz.v (a0 : List Int) (hp : Zdz.P a0) (hf : (a0.length : Int) ≤ 9223372036854775807 ∧ True) (K : AV → List Blk → Prop) (hK : K (Zdz.enc (Zdz.S a0)).1 (Zdz.enc (Zdz.S a0)).2) : And (((a0.length : Int) : Int) = (a0.length : Int) ∧ (0 : Int) ≤ (a0.length : Int) ∧ ((a0.length : Int) : Int) ≤ 4294967296) (And (Zdy.P a0 (List.replicate ((a0.length : Int)).toNat 0) 0) (K (.v (.c (.own 0 1 3))) ([.arr (.ints (Zdy.R a0 (List.replicate ((a0.length : Int)).toNat 0) 0).2.1)]))) := by
  simp only [Zdz.P] at hp
  obtain ⟨f0, -⟩ := hf
  try simp only [big] at *
  refine ⟨by clear hK; first | exact True.intro | assumption | omega | grind [wrap_id], ?_⟩
  refine ⟨by simp only [Zdy.P]; refine ⟨(by clear hK; first | exact True.intro | assumption | omega | grind [wrap_id]), (by clear hK; first | exact True.intro | assumption | omega | grind [wrap_id]), (by clear hK; first | exact True.intro | assumption | omega | grind [wrap_id])⟩, ?_⟩
  have e : Zdz.S a0 = ((Zdy.R a0 (List.replicate ((a0.length : Int)).toNat 0) 0).2.1) := by unfold Zdz.S; exact rfl
  rw [e] at hK
  exact hK
theorem Zdz.good : Good Try.prog Zdz.c :=
  vgood (sh := [[some (.int, 3)]]) (sp := []) (LL := [Zdy.d.ctr]) noG (fn := Try.f86) (by kernel_rfl) (by kernel_rfl) (by rw [show loopsOf (bodyOf Try.f86) = [(bodyAt Try.f86 0)] from by kernel_rfl]; exact consL (l := Zdy.d.ctr) (by kernel_rfl) (Zdy.g noG) (noL rfl)) fun s hp hf => by
    exact Eq.mpr (Zdz.w (s.1) (fun r bs' => And (r = (Zdz.c.out s).1) (bs' = (Zdz.c.out s).2))) (Zdz.v (s.1) (hp _ rfl) hf (fun r bs' => And (r = (Zdz.c.out s).1) (bs' = (Zdz.c.out s).2)) ⟨rfl, rfl⟩)
def ZdA.S (a0 : Bk) : Bk := ((⟨(Zdz.S a0.own), (Zdz.S a0.notes), a0.locked⟩ : Bk))
def ZdA.enc (r : Bk) : AV × List Blk := (.v (.agg [.own 0 1 3, .own 1 1 3, .int r.locked]), [.arr (.ints r.own), .arr (.ints r.notes)])
def ZdA.P (a0 : Bk) : Prop := (a0.sm)
def ZdA.L : ShL := sCons sBk (sNil)
def ZdA.c : Ctr := vctr 83 ZdA.L (some fun s => ZdA.P s.1) (fun s => ZdA.enc (ZdA.S s.1))
theorem ZdA.w (a0 : Bk) (K : AV → List Blk → Prop) : evFn (envS [Zdz.c] []) [] [[some (.int, 3), some (.int, 3), none]] [] Try.f83 [] (ZdA.L.enc (a0, ())) K = (And (Zdz.P a0.own) (And (Zdz.P a0.notes) (K (.v (.agg [.own 0 1 3, .own 1 1 3, .int a0.locked])) ([.arr (.ints (Zdz.S a0.own)), .arr (.ints (Zdz.S a0.notes))])))) := by kernel_rfl
theorem ZdA.v (a0 : Bk) (hp : ZdA.P a0) (hf : Bk.fact a0 ∧ True) (K : AV → List Blk → Prop) (hK : K (ZdA.enc (ZdA.S a0)).1 (ZdA.enc (ZdA.S a0)).2) : And (Zdz.P a0.own) (And (Zdz.P a0.notes) (K (.v (.agg [.own 0 1 3, .own 1 1 3, .int a0.locked])) ([.arr (.ints (Zdz.S a0.own)), .arr (.ints (Zdz.S a0.notes))]))) := by
  simp only [ZdA.P] at hp
  obtain ⟨f0, -⟩ := hf
  obtain ⟨f0_0, f0_1⟩ := f0
  try simp only [big] at *
  refine ⟨by clear hK; first | exact True.intro | assumption | omega | grind [wrap_id, Bk.sm, Zdz.P], ?_⟩
  refine ⟨by clear hK; first | exact True.intro | assumption | omega | grind [wrap_id, Bk.sm, Zdz.P], ?_⟩
  have e : ZdA.S a0 = ((⟨(Zdz.S a0.own), (Zdz.S a0.notes), a0.locked⟩ : Bk)) := by unfold ZdA.S; exact rfl
  rw [e] at hK
  exact hK
theorem ZdA.good : Good Try.prog ZdA.c :=
  vgood (sh := [[some (.int, 3), some (.int, 3), none]]) (sp := []) (LL := []) (consG Zdz.good noG) (fn := Try.f83) (by kernel_rfl) (by kernel_rfl) (by rw [show loopsOf (bodyOf Try.f83) = [] from by kernel_rfl]; exact noL rfl) fun s hp hf => by
    exact Eq.mpr (ZdA.w (s.1) (fun r bs' => And (r = (ZdA.c.out s).1) (bs' = (ZdA.c.out s).2))) (ZdA.v (s.1) (hp _ rfl) hf (fun r bs' => And (r = (ZdA.c.out s).1) (bs' = (ZdA.c.out s).2)) ⟨rfl, rfl⟩)
def ZdB.S (a0 : Pkt) : Pkt := (a0)
def ZdB.enc (r : Pkt) : AV × List Blk := (.v (.agg [.int r.seq, .int r.kind, .int r.frm, .int r.to, .int r.sum, .int r.til, .int r.ver]), [])
def ZdB.L : ShL := sCons sPkt (sNil)
def ZdB.c : Ctr := vctr 108 ZdB.L none (fun s => ZdB.enc (ZdB.S s.1))
theorem ZdB.w (a0 : Pkt) (K : AV → List Blk → Prop) : evFn (envS [] []) [] [] [] Try.f108 [] (ZdB.L.enc (a0, ())) K = (K (.v (.agg [.int a0.seq, .int a0.kind, .int a0.frm, .int a0.to, .int a0.sum, .int a0.til, .int a0.ver])) ([])) := by kernel_rfl
theorem ZdB.v (a0 : Pkt) (hf : True ∧ True) (K : AV → List Blk → Prop) (hK : K (ZdB.enc (ZdB.S a0)).1 (ZdB.enc (ZdB.S a0)).2) : K (.v (.agg [.int a0.seq, .int a0.kind, .int a0.frm, .int a0.to, .int a0.sum, .int a0.til, .int a0.ver])) ([]) := by
  clear hf
  have e : ZdB.S a0 = (a0) := by unfold ZdB.S; exact rfl
  rw [e] at hK
  exact hK
theorem ZdB.good : Good Try.prog ZdB.c :=
  vgood (sh := []) (sp := []) (LL := []) noG (fn := Try.f108) (by kernel_rfl) (by kernel_rfl) (by rw [show loopsOf (bodyOf Try.f108) = [] from by kernel_rfl]; exact noL rfl) fun s hp hf => by
    exact Eq.mpr (ZdB.w (s.1) (fun r bs' => And (r = (ZdB.c.out s).1) (bs' = (ZdB.c.out s).2))) (ZdB.v (s.1) hf (fun r bs' => And (r = (ZdB.c.out s).1) (bs' = (ZdB.c.out s).2)) ⟨rfl, rfl⟩)
def ZdC.S : Nat → (List Pkt) → (List Pkt) → Int → Nat × (List Pkt) × Int × Unit
  | 0, _, _, _ => (0, ([], (0, ())))
  | n + 1, y0, y1, y2 => bif decide (y2 < (y0.length : Int)) then ZdC.S n y0 (y1.set (y2).toNat (ZdB.S (y0.getD (y2).toNat zPkt))) (wrap (y2 + 1)) else (0, (y1, (y2, ())))
def ZdC.M (y0 : List Pkt) (y1 : List Pkt) (y2 : Int) : Nat := ((y0.length : Int) - y2).toNat
def ZdC.R (y0 : List Pkt) (y1 : List Pkt) (y2 : Int) : Nat × (List Pkt) × Int × Unit := ZdC.S (ZdC.M y0 y1 y2 + 1) y0 y1 y2
def ZdC.P (y0 : List Pkt) (y1 : List Pkt) (y2 : Int) : Prop := (0 ≤ y2) ∧ ((y0.length : Int) ≤ 9223372036854775807) ∧ (y1.length = y0.length)
def ZdC.L : FL := fCons (fC (cArr false kPkts)) (fCons (fC (cOwn kPkts 49)) (fCons (fC cInt) (fNil)))
def ZdC.o0 (y0 : List Pkt) (y1 : List Pkt) (y2 : Int) (r : Nat × (List Pkt) × Int × Unit) : Ex × List FV × List Blk := (.exit 0, [.c (.arr false (.pkts y0)), .c (.own 0 7 49), .c (.int r.2.2.1)], [.arr (.pkts r.2.1)])
def ZdC.o (y0 : List Pkt) (y1 : List Pkt) (y2 : Int) (r : Nat × (List Pkt) × Int × Unit) : Ex × List FV × List Blk := pickAlt [] (ZdC.o0 y0 y1 y2 r)
def ZdC.d : LDat := ldat 3 [0, 3, 4] [] ZdC.L (fun s => ZdC.P s.1 s.2.1 s.2.2.1) (fun s => []) (fun s => ZdC.o0 s.1 s.2.1 s.2.2.1 (ZdC.R s.1 s.2.1 s.2.2.1)) (fun s => ZdC.M s.1 s.2.1 s.2.2.1)
def ZdD.S (a0 : List Pkt) : (List Pkt) := ((ZdC.R a0 (List.replicate ((a0.length : Int)).toNat zPkt) 0).2.1)
def ZdD.enc (r : (List Pkt)) : AV × List Blk := (.v (.c (.own 0 7 49)), [.arr (.pkts r)])
def ZdD.P (a0 : List Pkt) : Prop := (a0.length ≤ 4294967296)
def ZdD.L : ShL := sCons sPkts (sNil)
def ZdD.c : Ctr := vctr 99 ZdD.L (some fun s => ZdD.P s.1) (fun s => ZdD.enc (ZdD.S s.1))
theorem ZdC.w (y0 : List Pkt) (y1 : List Pkt) (y2 : Int) : evBody (envS [ZdB.c] []) [] (bodyAt Try.f99 0) ZdC.d (y0, (y1, (y2, ()))) = (And (Imp ((decide (y2 < (y0.length : Int))) = true) (And ((0 : Int) ≤ y2 ∧ y2 < (y0.length : Int)) (And ((0 : Int) ≤ y2 ∧ y2 < (y1.length : Int)) (And ((y2).toNat < y1.length) (And (ZdC.P y0 (y1.set (y2).toNat (ZdB.S (y0.getD (y2).toNat zPkt))) (wrap (y2 + 1))) (And (ZdC.M y0 (y1.set (y2).toNat (ZdB.S (y0.getD (y2).toNat zPkt))) (wrap (y2 + 1)) < ZdC.M y0 y1 y2) (ZdC.o y0 (y1.set (y2).toNat (ZdB.S (y0.getD (y2).toNat zPkt))) (wrap (y2 + 1)) (ZdC.R y0 (y1.set (y2).toNat (ZdB.S (y0.getD (y2).toNat zPkt))) (wrap (y2 + 1))) = ZdC.o y0 y1 y2 (ZdC.R y0 y1 y2)))))))) (Imp ((decide (y2 < (y0.length : Int))) = false) (ZdC.o y0 y1 y2 (ZdC.R y0 y1 y2) = (.exit 0, [.c (.arr false (.pkts y0)), .c (.own 0 7 49), .c (.int y2)], [.arr (.pkts y1)])))) := by kernel_rfl
theorem ZdC.v (y0 : List Pkt) (y1 : List Pkt) (y2 : Int) (hp : ZdC.P y0 y1 y2) : And (Imp ((decide (y2 < (y0.length : Int))) = true) (And ((0 : Int) ≤ y2 ∧ y2 < (y0.length : Int)) (And ((0 : Int) ≤ y2 ∧ y2 < (y1.length : Int)) (And ((y2).toNat < y1.length) (And (ZdC.P y0 (y1.set (y2).toNat (ZdB.S (y0.getD (y2).toNat zPkt))) (wrap (y2 + 1))) (And (ZdC.M y0 (y1.set (y2).toNat (ZdB.S (y0.getD (y2).toNat zPkt))) (wrap (y2 + 1)) < ZdC.M y0 y1 y2) (ZdC.o y0 (y1.set (y2).toNat (ZdB.S (y0.getD (y2).toNat zPkt))) (wrap (y2 + 1)) (ZdC.R y0 (y1.set (y2).toNat (ZdB.S (y0.getD (y2).toNat zPkt))) (wrap (y2 + 1))) = ZdC.o y0 y1 y2 (ZdC.R y0 y1 y2)))))))) (Imp ((decide (y2 < (y0.length : Int))) = false) (ZdC.o y0 y1 y2 (ZdC.R y0 y1 y2) = (.exit 0, [.c (.arr false (.pkts y0)), .c (.own 0 7 49), .c (.int y2)], [.arr (.pkts y1)]))) := by
  simp only [ZdC.P] at hp
  obtain ⟨p0, p1, p2⟩ := hp
  refine ⟨fun h1 => ?_, fun h1 => ?_⟩
  · refine ⟨by first | exact True.intro | assumption | omega | grind [wrap_id], ?_⟩
    refine ⟨by first | exact True.intro | assumption | omega | grind [wrap_id], ?_⟩
    refine ⟨by first | exact True.intro | assumption | omega | grind [wrap_id], ?_⟩
    have hμ : ZdC.M y0 y1 y2 = ZdC.M y0 (y1.set (y2).toNat (ZdB.S (y0.getD (y2).toNat zPkt))) (wrap (y2 + 1)) + 1 := by simp only [ZdC.M]; first | omega | grind [wrap_id]
    refine ⟨by simp only [ZdC.P]; refine ⟨(by first | exact True.intro | assumption | omega | grind [wrap_id]), (by first | exact True.intro | assumption | omega | grind [wrap_id]), (by first | exact True.intro | assumption | omega | grind [wrap_id])⟩, by omega, ?_⟩
    have e : ZdC.R y0 y1 y2 = ZdC.R y0 (y1.set (y2).toNat (ZdB.S (y0.getD (y2).toNat zPkt))) (wrap (y2 + 1)) := by
      have e1 : ZdC.R y0 y1 y2 = ZdC.S (ZdC.M y0 y1 y2) y0 (y1.set (y2).toNat (ZdB.S (y0.getD (y2).toNat zPkt))) (wrap (y2 + 1)) := by unfold ZdC.R; rw [ZdC.S]; exact (cond_t h1).trans <| rfl
      rw [e1, hμ]
      rfl
    rw [e]
    rfl
  · have e : ZdC.R y0 y1 y2 = (0, (y1, (y2, ()))) := by unfold ZdC.R; rw [ZdC.S]; exact (cond_f h1).trans <| rfl
    rw [e]
    rfl
theorem ZdC.g (hG : ∀ c ∈ [ZdB.c], Good Try.prog c) : LGood Try.prog Try.f99.ntmps ZdC.d.ctr (bodyAt Try.f99 0) := by
  refine lgoodS (sp := []) (LL := []) hG (by kernel_rfl) (by rw [show loopsOf (bodyAt Try.f99 0) = [] from by kernel_rfl]; exact noL rfl) fun s hp => ?_
  refine Eq.mpr (ZdC.w s.1 s.2.1 s.2.2.1) ?_
  replace hp : ZdC.P s.1 s.2.1 s.2.2.1 := hp
  exact ZdC.v _ _ _ hp
def ZdC.E (y0 : List Pkt) (k : Nat) (a : (List Pkt)) : Option (Nat × (List Pkt) × Int × Unit) := none
def ZdC.A (y0 : List Pkt) (k : Nat) (a : (List Pkt)) : (List Pkt) := (a.set k (ZdB.S (y0.getD k zPkt)))
def ZdC.fin (y0 : List Pkt) (k : Nat) (a : (List Pkt)) : Nat × (List Pkt) × Int × Unit := (0, (a, ((k : Int), ())))
def ZdC.acc (y0 : List Pkt) (a : (List Pkt)) : Nat → (List Pkt)
  | 0 => a
  | k + 1 => ZdC.A y0 k (ZdC.acc y0 a k)
theorem ZdC.law (y0 : List Pkt) (a : (List Pkt)) (n : Nat) (hT : (y0.length : Int) = (n : Int)) (hn : (n : Int) ≤ 9223372036854775807) :
    ((∀ k, k < n → ZdC.E y0 k (ZdC.acc y0 a k) = none) ∧ ZdC.R y0 a 0 = ZdC.fin y0 n (ZdC.acc y0 a n)) ∨ (∃ k r, k < n ∧ ZdC.E y0 k (ZdC.acc y0 a k) = some r ∧ (∀ j, j < k → ZdC.E y0 j (ZdC.acc y0 a j) = none) ∧ ZdC.R y0 a 0 = r) := by
  have hM : ZdC.M y0 a 0 + 1 = n + 1 := by simp only [ZdC.M]; omega
  unfold ZdC.R
  rw [hM]
  refine loopE (fun m i b => ZdC.S m y0 b i) n hn (ZdC.acc y0 a) (ZdC.E y0 ) (ZdC.fin y0 ) fun m k hk => ?_
  have ha : ZdC.acc y0 a (k + 1) = ZdC.A y0 k (ZdC.acc y0 a k) := rfl
  rw [ha]
  generalize ZdC.acc y0 a k = b
  simp only [ZdC.S, ZdC.E, ZdC.A, ZdC.fin, hT, Int.toNat_natCast]
  all_goals grind
theorem ZdD.w (a0 : List Pkt) (K : AV → List Blk → Prop) : evFn (envS [ZdB.c] []) [ZdC.d.ctr] [[some (.pkt, 49)]] [] Try.f99 [] (ZdD.L.enc (a0, ())) K = (And (((a0.length : Int) : Int) = (a0.length : Int) ∧ (0 : Int) ≤ (a0.length : Int) ∧ ((a0.length : Int) : Int) ≤ 4294967296) (And (ZdC.P a0 (List.replicate ((a0.length : Int)).toNat zPkt) 0) (K (.v (.c (.own 0 7 49))) ([.arr (.pkts (ZdC.R a0 (List.replicate ((a0.length : Int)).toNat zPkt) 0).2.1)])))) := by kernel_rfl
theorem ZdD.v (a0 : List Pkt) (hp : ZdD.P a0) (hf : (a0.length : Int) ≤ 9223372036854775807 ∧ True) (K : AV → List Blk → Prop) (hK : K (ZdD.enc (ZdD.S a0)).1 (ZdD.enc (ZdD.S a0)).2) : And (((a0.length : Int) : Int) = (a0.length : Int) ∧ (0 : Int) ≤ (a0.length : Int) ∧ ((a0.length : Int) : Int) ≤ 4294967296) (And (ZdC.P a0 (List.replicate ((a0.length : Int)).toNat zPkt) 0) (K (.v (.c (.own 0 7 49))) ([.arr (.pkts (ZdC.R a0 (List.replicate ((a0.length : Int)).toNat zPkt) 0).2.1)]))) := by
  simp only [ZdD.P] at hp
  obtain ⟨f0, -⟩ := hf
  try simp only [big] at *
  refine ⟨by clear hK; first | exact True.intro | assumption | omega | grind [wrap_id], ?_⟩
  refine ⟨by simp only [ZdC.P]; refine ⟨(by clear hK; first | exact True.intro | assumption | omega | grind [wrap_id]), (by clear hK; first | exact True.intro | assumption | omega | grind [wrap_id]), (by clear hK; first | exact True.intro | assumption | omega | grind [wrap_id])⟩, ?_⟩
  have e : ZdD.S a0 = ((ZdC.R a0 (List.replicate ((a0.length : Int)).toNat zPkt) 0).2.1) := by unfold ZdD.S; exact rfl
  rw [e] at hK
  exact hK
theorem ZdD.good : Good Try.prog ZdD.c :=
  vgood (sh := [[some (.pkt, 49)]]) (sp := []) (LL := [ZdC.d.ctr]) (consG ZdB.good noG) (fn := Try.f99) (by kernel_rfl) (by kernel_rfl) (by rw [show loopsOf (bodyOf Try.f99) = [(bodyAt Try.f99 0)] from by kernel_rfl]; exact consL (l := ZdC.d.ctr) (by kernel_rfl) (ZdC.g (consG ZdB.good noG)) (noL rfl)) fun s hp hf => by
    exact Eq.mpr (ZdD.w (s.1) (fun r bs' => And (r = (ZdD.c.out s).1) (bs' = (ZdD.c.out s).2))) (ZdD.v (s.1) (hp _ rfl) hf (fun r bs' => And (r = (ZdD.c.out s).1) (bs' = (ZdD.c.out s).2)) ⟨rfl, rfl⟩)
def ZdE.S : Nat → (List Bool) → (List Bool) → Int → Nat × (List Bool) × Int × Unit
  | 0, _, _, _ => (0, ([], (0, ())))
  | n + 1, y0, y1, y2 => bif decide (y2 < (y0.length : Int)) then ZdE.S n y0 (y1.set (y2).toNat (y0.getD (y2).toNat false)) (wrap (y2 + 1)) else (0, (y1, (y2, ())))
def ZdE.M (y0 : List Bool) (y1 : List Bool) (y2 : Int) : Nat := ((y0.length : Int) - y2).toNat
def ZdE.R (y0 : List Bool) (y1 : List Bool) (y2 : Int) : Nat × (List Bool) × Int × Unit := ZdE.S (ZdE.M y0 y1 y2 + 1) y0 y1 y2
def ZdE.P (y0 : List Bool) (y1 : List Bool) (y2 : Int) : Prop := (0 ≤ y2) ∧ ((y0.length : Int) ≤ 9223372036854775807) ∧ (y1.length = y0.length)
def ZdE.L : FL := fCons (fC (cArr false kBools)) (fCons (fC (cOwn kBools 4)) (fCons (fC cInt) (fNil)))
def ZdE.o0 (y0 : List Bool) (y1 : List Bool) (y2 : Int) (r : Nat × (List Bool) × Int × Unit) : Ex × List FV × List Blk := (.exit 0, [.c (.arr false (.bools y0)), .c (.own 0 1 4), .c (.int r.2.2.1)], [.arr (.bools r.2.1)])
def ZdE.o (y0 : List Bool) (y1 : List Bool) (y2 : Int) (r : Nat × (List Bool) × Int × Unit) : Ex × List FV × List Blk := pickAlt [] (ZdE.o0 y0 y1 y2 r)
def ZdE.d : LDat := ldat 3 [0, 3, 4] [] ZdE.L (fun s => ZdE.P s.1 s.2.1 s.2.2.1) (fun s => []) (fun s => ZdE.o0 s.1 s.2.1 s.2.2.1 (ZdE.R s.1 s.2.1 s.2.2.1)) (fun s => ZdE.M s.1 s.2.1 s.2.2.1)
def ZdF.S (a0 : List Bool) : (List Bool) := ((ZdE.R a0 (List.replicate ((a0.length : Int)).toNat false) 0).2.1)
def ZdF.enc (r : (List Bool)) : AV × List Blk := (.v (.c (.own 0 1 4)), [.arr (.bools r)])
def ZdF.P (a0 : List Bool) : Prop := (a0.length ≤ 4294967296)
def ZdF.L : ShL := sCons sBools (sNil)
def ZdF.c : Ctr := vctr 100 ZdF.L (some fun s => ZdF.P s.1) (fun s => ZdF.enc (ZdF.S s.1))
theorem ZdE.w (y0 : List Bool) (y1 : List Bool) (y2 : Int) : evBody (envS [] []) [] (bodyAt Try.f100 0) ZdE.d (y0, (y1, (y2, ()))) = (And (Imp ((decide (y2 < (y0.length : Int))) = true) (And ((0 : Int) ≤ y2 ∧ y2 < (y0.length : Int)) (And ((0 : Int) ≤ y2 ∧ y2 < (y1.length : Int)) (And ((y2).toNat < y1.length) (And (ZdE.P y0 (y1.set (y2).toNat (y0.getD (y2).toNat false)) (wrap (y2 + 1))) (And (ZdE.M y0 (y1.set (y2).toNat (y0.getD (y2).toNat false)) (wrap (y2 + 1)) < ZdE.M y0 y1 y2) (ZdE.o y0 (y1.set (y2).toNat (y0.getD (y2).toNat false)) (wrap (y2 + 1)) (ZdE.R y0 (y1.set (y2).toNat (y0.getD (y2).toNat false)) (wrap (y2 + 1))) = ZdE.o y0 y1 y2 (ZdE.R y0 y1 y2)))))))) (Imp ((decide (y2 < (y0.length : Int))) = false) (ZdE.o y0 y1 y2 (ZdE.R y0 y1 y2) = (.exit 0, [.c (.arr false (.bools y0)), .c (.own 0 1 4), .c (.int y2)], [.arr (.bools y1)])))) := by kernel_rfl
theorem ZdE.v (y0 : List Bool) (y1 : List Bool) (y2 : Int) (hp : ZdE.P y0 y1 y2) : And (Imp ((decide (y2 < (y0.length : Int))) = true) (And ((0 : Int) ≤ y2 ∧ y2 < (y0.length : Int)) (And ((0 : Int) ≤ y2 ∧ y2 < (y1.length : Int)) (And ((y2).toNat < y1.length) (And (ZdE.P y0 (y1.set (y2).toNat (y0.getD (y2).toNat false)) (wrap (y2 + 1))) (And (ZdE.M y0 (y1.set (y2).toNat (y0.getD (y2).toNat false)) (wrap (y2 + 1)) < ZdE.M y0 y1 y2) (ZdE.o y0 (y1.set (y2).toNat (y0.getD (y2).toNat false)) (wrap (y2 + 1)) (ZdE.R y0 (y1.set (y2).toNat (y0.getD (y2).toNat false)) (wrap (y2 + 1))) = ZdE.o y0 y1 y2 (ZdE.R y0 y1 y2)))))))) (Imp ((decide (y2 < (y0.length : Int))) = false) (ZdE.o y0 y1 y2 (ZdE.R y0 y1 y2) = (.exit 0, [.c (.arr false (.bools y0)), .c (.own 0 1 4), .c (.int y2)], [.arr (.bools y1)]))) := by
  simp only [ZdE.P] at hp
  obtain ⟨p0, p1, p2⟩ := hp
  refine ⟨fun h1 => ?_, fun h1 => ?_⟩
  · refine ⟨by first | exact True.intro | assumption | omega | grind [wrap_id], ?_⟩
    refine ⟨by first | exact True.intro | assumption | omega | grind [wrap_id], ?_⟩
    refine ⟨by first | exact True.intro | assumption | omega | grind [wrap_id], ?_⟩
    have hμ : ZdE.M y0 y1 y2 = ZdE.M y0 (y1.set (y2).toNat (y0.getD (y2).toNat false)) (wrap (y2 + 1)) + 1 := by simp only [ZdE.M]; first | omega | grind [wrap_id]
    refine ⟨by simp only [ZdE.P]; refine ⟨(by first | exact True.intro | assumption | omega | grind [wrap_id]), (by first | exact True.intro | assumption | omega | grind [wrap_id]), (by first | exact True.intro | assumption | omega | grind [wrap_id])⟩, by omega, ?_⟩
    have e : ZdE.R y0 y1 y2 = ZdE.R y0 (y1.set (y2).toNat (y0.getD (y2).toNat false)) (wrap (y2 + 1)) := by
      have e1 : ZdE.R y0 y1 y2 = ZdE.S (ZdE.M y0 y1 y2) y0 (y1.set (y2).toNat (y0.getD (y2).toNat false)) (wrap (y2 + 1)) := by unfold ZdE.R; rw [ZdE.S]; exact (cond_t h1).trans <| rfl
      rw [e1, hμ]
      rfl
    rw [e]
    rfl
  · have e : ZdE.R y0 y1 y2 = (0, (y1, (y2, ()))) := by unfold ZdE.R; rw [ZdE.S]; exact (cond_f h1).trans <| rfl
    rw [e]
    rfl
theorem ZdE.g (hG : ∀ c ∈ [], Good Try.prog c) : LGood Try.prog Try.f100.ntmps ZdE.d.ctr (bodyAt Try.f100 0) := by
  refine lgoodS (sp := []) (LL := []) hG (by kernel_rfl) (by rw [show loopsOf (bodyAt Try.f100 0) = [] from by kernel_rfl]; exact noL rfl) fun s hp => ?_
  refine Eq.mpr (ZdE.w s.1 s.2.1 s.2.2.1) ?_
  replace hp : ZdE.P s.1 s.2.1 s.2.2.1 := hp
  exact ZdE.v _ _ _ hp
def ZdE.E (y0 : List Bool) (k : Nat) (a : (List Bool)) : Option (Nat × (List Bool) × Int × Unit) := none
def ZdE.A (y0 : List Bool) (k : Nat) (a : (List Bool)) : (List Bool) := (a.set k (y0.getD k false))
def ZdE.fin (y0 : List Bool) (k : Nat) (a : (List Bool)) : Nat × (List Bool) × Int × Unit := (0, (a, ((k : Int), ())))
def ZdE.acc (y0 : List Bool) (a : (List Bool)) : Nat → (List Bool)
  | 0 => a
  | k + 1 => ZdE.A y0 k (ZdE.acc y0 a k)
theorem ZdE.law (y0 : List Bool) (a : (List Bool)) (n : Nat) (hT : (y0.length : Int) = (n : Int)) (hn : (n : Int) ≤ 9223372036854775807) :
    ((∀ k, k < n → ZdE.E y0 k (ZdE.acc y0 a k) = none) ∧ ZdE.R y0 a 0 = ZdE.fin y0 n (ZdE.acc y0 a n)) ∨ (∃ k r, k < n ∧ ZdE.E y0 k (ZdE.acc y0 a k) = some r ∧ (∀ j, j < k → ZdE.E y0 j (ZdE.acc y0 a j) = none) ∧ ZdE.R y0 a 0 = r) := by
  have hM : ZdE.M y0 a 0 + 1 = n + 1 := by simp only [ZdE.M]; omega
  unfold ZdE.R
  rw [hM]
  refine loopE (fun m i b => ZdE.S m y0 b i) n hn (ZdE.acc y0 a) (ZdE.E y0 ) (ZdE.fin y0 ) fun m k hk => ?_
  have ha : ZdE.acc y0 a (k + 1) = ZdE.A y0 k (ZdE.acc y0 a k) := rfl
  rw [ha]
  generalize ZdE.acc y0 a k = b
  simp only [ZdE.S, ZdE.E, ZdE.A, ZdE.fin, hT, Int.toNat_natCast]
  all_goals grind
theorem ZdF.w (a0 : List Bool) (K : AV → List Blk → Prop) : evFn (envS [] []) [ZdE.d.ctr] [[some (.bool, 4)]] [] Try.f100 [] (ZdF.L.enc (a0, ())) K = (And (((a0.length : Int) : Int) = (a0.length : Int) ∧ (0 : Int) ≤ (a0.length : Int) ∧ ((a0.length : Int) : Int) ≤ 4294967296) (And (ZdE.P a0 (List.replicate ((a0.length : Int)).toNat false) 0) (K (.v (.c (.own 0 1 4))) ([.arr (.bools (ZdE.R a0 (List.replicate ((a0.length : Int)).toNat false) 0).2.1)])))) := by kernel_rfl
theorem ZdF.v (a0 : List Bool) (hp : ZdF.P a0) (hf : (a0.length : Int) ≤ 9223372036854775807 ∧ True) (K : AV → List Blk → Prop) (hK : K (ZdF.enc (ZdF.S a0)).1 (ZdF.enc (ZdF.S a0)).2) : And (((a0.length : Int) : Int) = (a0.length : Int) ∧ (0 : Int) ≤ (a0.length : Int) ∧ ((a0.length : Int) : Int) ≤ 4294967296) (And (ZdE.P a0 (List.replicate ((a0.length : Int)).toNat false) 0) (K (.v (.c (.own 0 1 4))) ([.arr (.bools (ZdE.R a0 (List.replicate ((a0.length : Int)).toNat false) 0).2.1)]))) := by
  simp only [ZdF.P] at hp
  obtain ⟨f0, -⟩ := hf
  try simp only [big] at *
  refine ⟨by clear hK; first | exact True.intro | assumption | omega | grind [wrap_id], ?_⟩
  refine ⟨by simp only [ZdE.P]; refine ⟨(by clear hK; first | exact True.intro | assumption | omega | grind [wrap_id]), (by clear hK; first | exact True.intro | assumption | omega | grind [wrap_id]), (by clear hK; first | exact True.intro | assumption | omega | grind [wrap_id])⟩, ?_⟩
  have e : ZdF.S a0 = ((ZdE.R a0 (List.replicate ((a0.length : Int)).toNat false) 0).2.1) := by unfold ZdF.S; exact rfl
  rw [e] at hK
  exact hK
theorem ZdF.good : Good Try.prog ZdF.c :=
  vgood (sh := [[some (.bool, 4)]]) (sp := []) (LL := [ZdE.d.ctr]) noG (fn := Try.f100) (by kernel_rfl) (by kernel_rfl) (by rw [show loopsOf (bodyOf Try.f100) = [(bodyAt Try.f100 0)] from by kernel_rfl]; exact consL (l := ZdE.d.ctr) (by kernel_rfl) (ZdE.g noG) (noL rfl)) fun s hp hf => by
    exact Eq.mpr (ZdF.w (s.1) (fun r bs' => And (r = (ZdF.c.out s).1) (bs' = (ZdF.c.out s).2))) (ZdF.v (s.1) (hp _ rfl) hf (fun r bs' => And (r = (ZdF.c.out s).1) (bs' = (ZdF.c.out s).2)) ⟨rfl, rfl⟩)
def ZdG.S (a0 : St) : St := ((⟨a0.way, a0.ver, a0.want, (ZdD.S a0.sent), (ZdF.S a0.live), (ZdF.S a0.back), (Zdz.S a0.got)⟩ : St))
def ZdG.enc (r : St) : AV × List Blk := (.v (.agg [.int r.way, .int r.ver, .int r.want, .own 0 7 49, .own 1 1 4, .own 2 1 4, .own 3 1 3]), [.arr (.pkts r.sent), .arr (.bools r.live), .arr (.bools r.back), .arr (.ints r.got)])
def ZdG.P (a0 : St) : Prop := (a0.sm)
def ZdG.L : ShL := sCons sSt (sNil)
def ZdG.c : Ctr := vctr 84 ZdG.L (some fun s => ZdG.P s.1) (fun s => ZdG.enc (ZdG.S s.1))
theorem ZdG.w (a0 : St) (K : AV → List Blk → Prop) : evFn (envS [ZdD.c, ZdF.c, Zdz.c] []) [] [[none, none, none, some (.pkt, 49), some (.bool, 4), some (.bool, 4), some (.int, 3)]] [] Try.f84 [] (ZdG.L.enc (a0, ())) K = (And (ZdD.P a0.sent) (And (ZdF.P a0.live) (And (ZdF.P a0.back) (And (Zdz.P a0.got) (K (.v (.agg [.int a0.way, .int a0.ver, .int a0.want, .own 0 7 49, .own 1 1 4, .own 2 1 4, .own 3 1 3])) ([.arr (.pkts (ZdD.S a0.sent)), .arr (.bools (ZdF.S a0.live)), .arr (.bools (ZdF.S a0.back)), .arr (.ints (Zdz.S a0.got))])))))) := by kernel_rfl
theorem ZdG.v (a0 : St) (hp : ZdG.P a0) (hf : St.fact a0 ∧ True) (K : AV → List Blk → Prop) (hK : K (ZdG.enc (ZdG.S a0)).1 (ZdG.enc (ZdG.S a0)).2) : And (ZdD.P a0.sent) (And (ZdF.P a0.live) (And (ZdF.P a0.back) (And (Zdz.P a0.got) (K (.v (.agg [.int a0.way, .int a0.ver, .int a0.want, .own 0 7 49, .own 1 1 4, .own 2 1 4, .own 3 1 3])) ([.arr (.pkts (ZdD.S a0.sent)), .arr (.bools (ZdF.S a0.live)), .arr (.bools (ZdF.S a0.back)), .arr (.ints (Zdz.S a0.got))]))))) := by
  simp only [ZdG.P] at hp
  obtain ⟨f0, -⟩ := hf
  obtain ⟨f0_0, f0_1, f0_2, f0_3⟩ := f0
  try simp only [big] at *
  refine ⟨by clear hK; first | exact True.intro | assumption | omega | grind [wrap_id, St.sm, ZdD.P, ZdF.P, Zdz.P], ?_⟩
  refine ⟨by clear hK; first | exact True.intro | assumption | omega | grind [wrap_id, St.sm, ZdD.P, ZdF.P, Zdz.P], ?_⟩
  refine ⟨by clear hK; first | exact True.intro | assumption | omega | grind [wrap_id, St.sm, ZdD.P, ZdF.P, Zdz.P], ?_⟩
  refine ⟨by clear hK; first | exact True.intro | assumption | omega | grind [wrap_id, St.sm, ZdD.P, ZdF.P, Zdz.P], ?_⟩
  have e : ZdG.S a0 = ((⟨a0.way, a0.ver, a0.want, (ZdD.S a0.sent), (ZdF.S a0.live), (ZdF.S a0.back), (Zdz.S a0.got)⟩ : St)) := by unfold ZdG.S; exact rfl
  rw [e] at hK
  exact hK
theorem ZdG.good : Good Try.prog ZdG.c :=
  vgood (sh := [[none, none, none, some (.pkt, 49), some (.bool, 4), some (.bool, 4), some (.int, 3)]]) (sp := []) (LL := []) (consG ZdD.good (consG ZdF.good (consG Zdz.good noG))) (fn := Try.f84) (by kernel_rfl) (by kernel_rfl) (by rw [show loopsOf (bodyOf Try.f84) = [] from by kernel_rfl]; exact noL rfl) fun s hp hf => by
    exact Eq.mpr (ZdG.w (s.1) (fun r bs' => And (r = (ZdG.c.out s).1) (bs' = (ZdG.c.out s).2))) (ZdG.v (s.1) (hp _ rfl) hf (fun r bs' => And (r = (ZdG.c.out s).1) (bs' = (ZdG.c.out s).2)) ⟨rfl, rfl⟩)
def ZdH.S : Nat → (List St) → (List St) → Int → Nat × (List St) × Int × Unit
  | 0, _, _, _ => (0, ([], (0, ())))
  | n + 1, y0, y1, y2 => bif decide (y2 < (y0.length : Int)) then ZdH.S n y0 (y1.set (y2).toNat (ZdG.S (y0.getD (y2).toNat zSt))) (wrap (y2 + 1)) else (0, (y1, (y2, ())))
def ZdH.M (y0 : List St) (y1 : List St) (y2 : Int) : Nat := ((y0.length : Int) - y2).toNat
def ZdH.R (y0 : List St) (y1 : List St) (y2 : Int) : Nat × (List St) × Int × Unit := ZdH.S (ZdH.M y0 y1 y2 + 1) y0 y1 y2
def ZdH.P (y0 : List St) (y1 : List St) (y2 : Int) : Prop := (0 ≤ y2) ∧ ((y0.length : Int) ≤ 9223372036854775807) ∧ (stsFact y0) ∧ (y1.length = y0.length) ∧ (stsSm y0)
def ZdH.L : FL := fCons (fC (cArr false kSts)) (fCons (fC (cOwn kSts 45)) (fCons (fC cInt) (fNil)))
def ZdH.o0 (y0 : List St) (y1 : List St) (y2 : Int) (r : Nat × (List St) × Int × Unit) : Ex × List FV × List Blk := (.exit 0, [.c (.arr false (.sts y0)), .c (.own 0 7 45), .c (.int r.2.2.1)], [.arr (.sts r.2.1)])
def ZdH.o (y0 : List St) (y1 : List St) (y2 : Int) (r : Nat × (List St) × Int × Unit) : Ex × List FV × List Blk := pickAlt [] (ZdH.o0 y0 y1 y2 r)
def ZdH.d : LDat := ldat 3 [0, 3, 4] [] ZdH.L (fun s => ZdH.P s.1 s.2.1 s.2.2.1) (fun s => []) (fun s => ZdH.o0 s.1 s.2.1 s.2.2.1 (ZdH.R s.1 s.2.1 s.2.2.1)) (fun s => ZdH.M s.1 s.2.1 s.2.2.1)
def ZdI.S (a0 : List St) : (List St) := ((ZdH.R a0 (List.replicate ((a0.length : Int)).toNat zSt) 0).2.1)
def ZdI.enc (r : (List St)) : AV × List Blk := (.v (.c (.own 0 7 45)), [.arr (.sts r)])
def ZdI.P (a0 : List St) : Prop := (stsSm a0)
def ZdI.L : ShL := sCons sSts (sNil)
def ZdI.c : Ctr := vctr 85 ZdI.L (some fun s => ZdI.P s.1) (fun s => ZdI.enc (ZdI.S s.1))
theorem ZdH.w (y0 : List St) (y1 : List St) (y2 : Int) : evBody (envS [ZdG.c] []) [] (bodyAt Try.f85 0) ZdH.d (y0, (y1, (y2, ()))) = (And (Imp ((decide (y2 < (y0.length : Int))) = true) (And ((0 : Int) ≤ y2 ∧ y2 < (y0.length : Int)) (And (ZdG.P (y0.getD (y2).toNat zSt)) (And ((0 : Int) ≤ y2 ∧ y2 < (y1.length : Int)) (And ((y2).toNat < y1.length) (And (ZdH.P y0 (y1.set (y2).toNat (ZdG.S (y0.getD (y2).toNat zSt))) (wrap (y2 + 1))) (And (ZdH.M y0 (y1.set (y2).toNat (ZdG.S (y0.getD (y2).toNat zSt))) (wrap (y2 + 1)) < ZdH.M y0 y1 y2) (ZdH.o y0 (y1.set (y2).toNat (ZdG.S (y0.getD (y2).toNat zSt))) (wrap (y2 + 1)) (ZdH.R y0 (y1.set (y2).toNat (ZdG.S (y0.getD (y2).toNat zSt))) (wrap (y2 + 1))) = ZdH.o y0 y1 y2 (ZdH.R y0 y1 y2))))))))) (Imp ((decide (y2 < (y0.length : Int))) = false) (ZdH.o y0 y1 y2 (ZdH.R y0 y1 y2) = (.exit 0, [.c (.arr false (.sts y0)), .c (.own 0 7 45), .c (.int y2)], [.arr (.sts y1)])))) := by kernel_rfl
theorem ZdH.v (y0 : List St) (y1 : List St) (y2 : Int) (hp : ZdH.P y0 y1 y2) : And (Imp ((decide (y2 < (y0.length : Int))) = true) (And ((0 : Int) ≤ y2 ∧ y2 < (y0.length : Int)) (And (ZdG.P (y0.getD (y2).toNat zSt)) (And ((0 : Int) ≤ y2 ∧ y2 < (y1.length : Int)) (And ((y2).toNat < y1.length) (And (ZdH.P y0 (y1.set (y2).toNat (ZdG.S (y0.getD (y2).toNat zSt))) (wrap (y2 + 1))) (And (ZdH.M y0 (y1.set (y2).toNat (ZdG.S (y0.getD (y2).toNat zSt))) (wrap (y2 + 1)) < ZdH.M y0 y1 y2) (ZdH.o y0 (y1.set (y2).toNat (ZdG.S (y0.getD (y2).toNat zSt))) (wrap (y2 + 1)) (ZdH.R y0 (y1.set (y2).toNat (ZdG.S (y0.getD (y2).toNat zSt))) (wrap (y2 + 1))) = ZdH.o y0 y1 y2 (ZdH.R y0 y1 y2))))))))) (Imp ((decide (y2 < (y0.length : Int))) = false) (ZdH.o y0 y1 y2 (ZdH.R y0 y1 y2) = (.exit 0, [.c (.arr false (.sts y0)), .c (.own 0 7 45), .c (.int y2)], [.arr (.sts y1)]))) := by
  simp only [ZdH.P] at hp
  obtain ⟨p0, p1, p2, p3, p4⟩ := hp
  refine ⟨fun h1 => ?_, fun h1 => ?_⟩
  · refine ⟨by first | exact True.intro | assumption | omega | grind [wrap_id, sts_1, sts_2, stsSm, ZdG.P], ?_⟩
    refine ⟨by first | exact True.intro | assumption | omega | grind [wrap_id, sts_1, sts_2, stsSm, ZdG.P], ?_⟩
    refine ⟨by first | exact True.intro | assumption | omega | grind [wrap_id, sts_1, sts_2, stsSm, ZdG.P], ?_⟩
    refine ⟨by first | exact True.intro | assumption | omega | grind [wrap_id, sts_1, sts_2, stsSm, ZdG.P], ?_⟩
    have hμ : ZdH.M y0 y1 y2 = ZdH.M y0 (y1.set (y2).toNat (ZdG.S (y0.getD (y2).toNat zSt))) (wrap (y2 + 1)) + 1 := by simp only [ZdH.M]; first | omega | grind [wrap_id]
    refine ⟨by simp only [ZdH.P]; refine ⟨(by first | exact True.intro | assumption | omega | grind [wrap_id, sts_1, sts_2, stsSm, ZdG.P]), (by first | exact True.intro | assumption | omega | grind [wrap_id, sts_1, sts_2, stsSm, ZdG.P]), (by first | exact True.intro | assumption | omega | grind [wrap_id, sts_1, sts_2, stsSm, ZdG.P]), (by first | exact True.intro | assumption | omega | grind [wrap_id, sts_1, sts_2, stsSm, ZdG.P]), (by first | exact True.intro | assumption | omega | grind [wrap_id, sts_1, sts_2, stsSm, ZdG.P])⟩, by omega, ?_⟩
    have e : ZdH.R y0 y1 y2 = ZdH.R y0 (y1.set (y2).toNat (ZdG.S (y0.getD (y2).toNat zSt))) (wrap (y2 + 1)) := by
      have e1 : ZdH.R y0 y1 y2 = ZdH.S (ZdH.M y0 y1 y2) y0 (y1.set (y2).toNat (ZdG.S (y0.getD (y2).toNat zSt))) (wrap (y2 + 1)) := by unfold ZdH.R; rw [ZdH.S]; exact (cond_t h1).trans <| rfl
      rw [e1, hμ]
      rfl
    rw [e]
    rfl
  · have e : ZdH.R y0 y1 y2 = (0, (y1, (y2, ()))) := by unfold ZdH.R; rw [ZdH.S]; exact (cond_f h1).trans <| rfl
    rw [e]
    rfl
theorem ZdH.g (hG : ∀ c ∈ [ZdG.c], Good Try.prog c) : LGood Try.prog Try.f85.ntmps ZdH.d.ctr (bodyAt Try.f85 0) := by
  refine lgoodS (sp := []) (LL := []) hG (by kernel_rfl) (by rw [show loopsOf (bodyAt Try.f85 0) = [] from by kernel_rfl]; exact noL rfl) fun s hp => ?_
  refine Eq.mpr (ZdH.w s.1 s.2.1 s.2.2.1) ?_
  replace hp : ZdH.P s.1 s.2.1 s.2.2.1 := hp
  exact ZdH.v _ _ _ hp
def ZdH.E (y0 : List St) (k : Nat) (a : (List St)) : Option (Nat × (List St) × Int × Unit) := none
def ZdH.A (y0 : List St) (k : Nat) (a : (List St)) : (List St) := (a.set k (ZdG.S (y0.getD k zSt)))
def ZdH.fin (y0 : List St) (k : Nat) (a : (List St)) : Nat × (List St) × Int × Unit := (0, (a, ((k : Int), ())))
def ZdH.acc (y0 : List St) (a : (List St)) : Nat → (List St)
  | 0 => a
  | k + 1 => ZdH.A y0 k (ZdH.acc y0 a k)
theorem ZdH.law (y0 : List St) (a : (List St)) (n : Nat) (hT : (y0.length : Int) = (n : Int)) (hn : (n : Int) ≤ 9223372036854775807) :
    ((∀ k, k < n → ZdH.E y0 k (ZdH.acc y0 a k) = none) ∧ ZdH.R y0 a 0 = ZdH.fin y0 n (ZdH.acc y0 a n)) ∨ (∃ k r, k < n ∧ ZdH.E y0 k (ZdH.acc y0 a k) = some r ∧ (∀ j, j < k → ZdH.E y0 j (ZdH.acc y0 a j) = none) ∧ ZdH.R y0 a 0 = r) := by
  have hM : ZdH.M y0 a 0 + 1 = n + 1 := by simp only [ZdH.M]; omega
  unfold ZdH.R
  rw [hM]
  refine loopE (fun m i b => ZdH.S m y0 b i) n hn (ZdH.acc y0 a) (ZdH.E y0 ) (ZdH.fin y0 ) fun m k hk => ?_
  have ha : ZdH.acc y0 a (k + 1) = ZdH.A y0 k (ZdH.acc y0 a k) := rfl
  rw [ha]
  generalize ZdH.acc y0 a k = b
  simp only [ZdH.S, ZdH.E, ZdH.A, ZdH.fin, hT, Int.toNat_natCast]
  all_goals grind
theorem ZdI.w (a0 : List St) (K : AV → List Blk → Prop) : evFn (envS [ZdG.c] []) [ZdH.d.ctr] [[some (.st, 45)]] [] Try.f85 [] (ZdI.L.enc (a0, ())) K = (And (((a0.length : Int) : Int) = (a0.length : Int) ∧ (0 : Int) ≤ (a0.length : Int) ∧ ((a0.length : Int) : Int) ≤ 4294967296) (And (ZdH.P a0 (List.replicate ((a0.length : Int)).toNat zSt) 0) (K (.v (.c (.own 0 7 45))) ([.arr (.sts (ZdH.R a0 (List.replicate ((a0.length : Int)).toNat zSt) 0).2.1)])))) := by kernel_rfl
theorem ZdI.v (a0 : List St) (hp : ZdI.P a0) (hf : stsFact a0 ∧ True) (K : AV → List Blk → Prop) (hK : K (ZdI.enc (ZdI.S a0)).1 (ZdI.enc (ZdI.S a0)).2) : And (((a0.length : Int) : Int) = (a0.length : Int) ∧ (0 : Int) ≤ (a0.length : Int) ∧ ((a0.length : Int) : Int) ≤ 4294967296) (And (ZdH.P a0 (List.replicate ((a0.length : Int)).toNat zSt) 0) (K (.v (.c (.own 0 7 45))) ([.arr (.sts (ZdH.R a0 (List.replicate ((a0.length : Int)).toNat zSt) 0).2.1)]))) := by
  simp only [ZdI.P] at hp
  obtain ⟨f0, -⟩ := hf
  try simp only [big] at *
  refine ⟨by clear hK; first | exact True.intro | assumption | omega | grind [wrap_id, sts_1, sts_2, stsSm, ZdG.P], ?_⟩
  refine ⟨by simp only [ZdH.P]; refine ⟨(by clear hK; first | exact True.intro | assumption | omega | grind [wrap_id, sts_1, sts_2, stsSm, ZdG.P]), (by clear hK; first | exact True.intro | assumption | omega | grind [wrap_id, sts_1, sts_2, stsSm, ZdG.P]), (by clear hK; first | exact True.intro | assumption | omega | grind [wrap_id, sts_1, sts_2, stsSm, ZdG.P]), (by clear hK; first | exact True.intro | assumption | omega | grind [wrap_id, sts_1, sts_2, stsSm, ZdG.P]), (by clear hK; first | exact True.intro | assumption | omega | grind [wrap_id, sts_1, sts_2, stsSm, ZdG.P])⟩, ?_⟩
  have e : ZdI.S a0 = ((ZdH.R a0 (List.replicate ((a0.length : Int)).toNat zSt) 0).2.1) := by unfold ZdI.S; exact rfl
  rw [e] at hK
  exact hK
theorem ZdI.good : Good Try.prog ZdI.c :=
  vgood (sh := [[some (.st, 45)]]) (sp := []) (LL := [ZdH.d.ctr]) (consG ZdG.good noG) (fn := Try.f85) (by kernel_rfl) (by kernel_rfl) (by rw [show loopsOf (bodyOf Try.f85) = [(bodyAt Try.f85 0)] from by kernel_rfl]; exact consL (l := ZdH.d.ctr) (by kernel_rfl) (ZdH.g (consG ZdG.good noG)) (noL rfl)) fun s hp hf => by
    exact Eq.mpr (ZdI.w (s.1) (fun r bs' => And (r = (ZdI.c.out s).1) (bs' = (ZdI.c.out s).2))) (ZdI.v (s.1) (hp _ rfl) hf (fun r bs' => And (r = (ZdI.c.out s).1) (bs' = (ZdI.c.out s).2)) ⟨rfl, rfl⟩)
end
end Hw
end Go.Proofs.Ytfboldbfbmmahaa
