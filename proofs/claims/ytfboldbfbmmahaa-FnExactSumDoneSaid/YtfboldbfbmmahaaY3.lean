/- Sizes: made by gen.py. -/
import Derived.Test.YtfboldbfbmmahaaY2
set_option linter.unusedVariables false
set_option linter.unusedSimpArgs false
set_option maxRecDepth 100000
set_option maxHeartbeats 4000000
namespace Go.Proofs.Ytfboldbfbmmahaa
namespace Hw
open Go
/-! ### laws.szIntS -/
def laws_szIntS.S (a0 : List Int) (a1 : Int) : Int := bif decide ((wrap (a1 - (a0.length : Int))) < 0) then ((-1)) else (wrap (a1 - (a0.length : Int)))
def laws_szIntS.enc (r : Int) : AV × List Blk := (.v (.c (.int r)), [])
def laws_szIntS.L : ShL := sCons sInts (sCons sInt (sNil))
def laws_szIntS.c : Ctr := vctr 81 laws_szIntS.L none (fun s => laws_szIntS.enc (laws_szIntS.S s.1 s.2.1))
theorem laws_szIntS.w (a0 : List Int) (a1 : Int) (K : AV → List Blk → Prop) : evFn (env []) [] [] Try.f81 [] (laws_szIntS.L.enc (a0, (a1, ()))) K = (And (Imp ((decide ((wrap (a1 - (a0.length : Int))) < 0)) = true) (K (.v (.c (.int (-1)))) ([]))) (Imp ((decide ((wrap (a1 - (a0.length : Int))) < 0)) = false) (K (.v (.c (.int (wrap (a1 - (a0.length : Int)))))) ([])))) := by kernel_rfl
theorem laws_szIntS.v (a0 : List Int) (a1 : Int) (hf : (a0.length : Int) ≤ 9223372036854775807 ∧ True ∧ True) (K : AV → List Blk → Prop) (hK : K (laws_szIntS.enc (laws_szIntS.S a0 a1)).1 (laws_szIntS.enc (laws_szIntS.S a0 a1)).2) : And (Imp ((decide ((wrap (a1 - (a0.length : Int))) < 0)) = true) (K (.v (.c (.int (-1)))) ([]))) (Imp ((decide ((wrap (a1 - (a0.length : Int))) < 0)) = false) (K (.v (.c (.int (wrap (a1 - (a0.length : Int)))))) ([]))) := by
  obtain ⟨f0, -, -⟩ := hf
  try simp only [big] at *
  refine ⟨fun h1 => ?_, fun h1 => ?_⟩
  · have e : laws_szIntS.S a0 a1 = ((-1)) := by simp only [laws_szIntS.S, h1, cond_true, cond_false]
    rw [e] at hK
    exact hK
  · have e : laws_szIntS.S a0 a1 = (wrap (a1 - (a0.length : Int))) := by simp only [laws_szIntS.S, h1, cond_true, cond_false]
    rw [e] at hK
    exact hK
theorem laws_szIntS.good : Good Try.prog laws_szIntS.c :=
  vgood (sh := []) (LL := []) noG (fn := Try.f81) (by kernel_rfl) (by kernel_rfl) (by rw [show loopsOf (bodyOf Try.f81) = [] from by kernel_rfl]; exact noL rfl) fun s hp hf => by
    refine Eq.mpr (laws_szIntS.w (s.1) (s.2.1) _) ?_
    exact laws_szIntS.v _ _ hf (fun r bs' => And (r = (laws_szIntS.c.out s).1) (bs' = (laws_szIntS.c.out s).2)) ⟨rfl, rfl⟩
/-! ### laws.szBank -/
def laws_szBank.S (a0 : Bk) (a1 : Int) : Int := bif decide ((laws_szIntS.S a0.own a1) < 0) then ((-1)) else bif decide ((laws_szIntS.S a0.notes (laws_szIntS.S a0.own a1)) < 0) then ((-1)) else ((laws_szIntS.S a0.notes (laws_szIntS.S a0.own a1)))
def laws_szBank.enc (r : Int) : AV × List Blk := (.v (.c (.int r)), [])
def laws_szBank.L : ShL := sCons sBk (sCons sInt (sNil))
def laws_szBank.c : Ctr := vctr 78 laws_szBank.L none (fun s => laws_szBank.enc (laws_szBank.S s.1 s.2.1))
theorem laws_szBank.w (a0 : Bk) (a1 : Int) (K : AV → List Blk → Prop) : evFn (env [laws_szIntS.c]) [] [] Try.f78 [] (laws_szBank.L.enc (a0, (a1, ()))) K = (And (Imp ((decide ((laws_szIntS.S a0.own a1) < 0)) = true) (K (.v (.c (.int (-1)))) ([]))) (Imp ((decide ((laws_szIntS.S a0.own a1) < 0)) = false) (And (Imp ((decide ((laws_szIntS.S a0.notes (laws_szIntS.S a0.own a1)) < 0)) = true) (K (.v (.c (.int (-1)))) ([]))) (Imp ((decide ((laws_szIntS.S a0.notes (laws_szIntS.S a0.own a1)) < 0)) = false) (K (.v (.c (.int (laws_szIntS.S a0.notes (laws_szIntS.S a0.own a1))))) ([])))))) := by kernel_rfl
theorem laws_szBank.v (a0 : Bk) (a1 : Int) (hf : Bk.fact a0 ∧ True ∧ True) (K : AV → List Blk → Prop) (hK : K (laws_szBank.enc (laws_szBank.S a0 a1)).1 (laws_szBank.enc (laws_szBank.S a0 a1)).2) : And (Imp ((decide ((laws_szIntS.S a0.own a1) < 0)) = true) (K (.v (.c (.int (-1)))) ([]))) (Imp ((decide ((laws_szIntS.S a0.own a1) < 0)) = false) (And (Imp ((decide ((laws_szIntS.S a0.notes (laws_szIntS.S a0.own a1)) < 0)) = true) (K (.v (.c (.int (-1)))) ([]))) (Imp ((decide ((laws_szIntS.S a0.notes (laws_szIntS.S a0.own a1)) < 0)) = false) (K (.v (.c (.int (laws_szIntS.S a0.notes (laws_szIntS.S a0.own a1))))) ([]))))) := by
  obtain ⟨f0, -, -⟩ := hf
  obtain ⟨f0_0, f0_1⟩ := f0
  try simp only [big] at *
  refine ⟨fun h1 => ?_, fun h1 => ?_⟩
  · have e : laws_szBank.S a0 a1 = ((-1)) := by simp only [laws_szBank.S, h1, cond_true, cond_false]
    rw [e] at hK
    exact hK
  · refine ⟨fun h2 => ?_, fun h2 => ?_⟩
    · have e : laws_szBank.S a0 a1 = ((-1)) := by simp only [laws_szBank.S, h1, h2, cond_true, cond_false]
      rw [e] at hK
      exact hK
    · have e : laws_szBank.S a0 a1 = ((laws_szIntS.S a0.notes (laws_szIntS.S a0.own a1))) := by simp only [laws_szBank.S, h1, h2, cond_true, cond_false]
      rw [e] at hK
      exact hK
theorem laws_szBank.good : Good Try.prog laws_szBank.c :=
  vgood (sh := []) (LL := []) (consG laws_szIntS.good noG) (fn := Try.f78) (by kernel_rfl) (by kernel_rfl) (by rw [show loopsOf (bodyOf Try.f78) = [] from by kernel_rfl]; exact noL rfl) fun s hp hf => by
    refine Eq.mpr (laws_szBank.w (s.1) (s.2.1) _) ?_
    exact laws_szBank.v _ _ hf (fun r bs' => And (r = (laws_szBank.c.out s).1) (bs' = (laws_szBank.c.out s).2)) ⟨rfl, rfl⟩
/-! ### laws.szPacketS -/
def laws_szPacketS.S (a0 : List Pkt) (a1 : Int) : Int := bif decide ((wrap (a1 - (a0.length : Int))) < 0) then ((-1)) else (wrap (a1 - (a0.length : Int)))
def laws_szPacketS.enc (r : Int) : AV × List Blk := (.v (.c (.int r)), [])
def laws_szPacketS.L : ShL := sCons sPkts (sCons sInt (sNil))
def laws_szPacketS.c : Ctr := vctr 96 laws_szPacketS.L none (fun s => laws_szPacketS.enc (laws_szPacketS.S s.1 s.2.1))
theorem laws_szPacketS.w (a0 : List Pkt) (a1 : Int) (K : AV → List Blk → Prop) : evFn (env []) [] [] Try.f96 [] (laws_szPacketS.L.enc (a0, (a1, ()))) K = (And (Imp ((decide ((wrap (a1 - (a0.length : Int))) < 0)) = true) (K (.v (.c (.int (-1)))) ([]))) (Imp ((decide ((wrap (a1 - (a0.length : Int))) < 0)) = false) (K (.v (.c (.int (wrap (a1 - (a0.length : Int)))))) ([])))) := by kernel_rfl
theorem laws_szPacketS.v (a0 : List Pkt) (a1 : Int) (hf : (a0.length : Int) ≤ 9223372036854775807 ∧ True ∧ True) (K : AV → List Blk → Prop) (hK : K (laws_szPacketS.enc (laws_szPacketS.S a0 a1)).1 (laws_szPacketS.enc (laws_szPacketS.S a0 a1)).2) : And (Imp ((decide ((wrap (a1 - (a0.length : Int))) < 0)) = true) (K (.v (.c (.int (-1)))) ([]))) (Imp ((decide ((wrap (a1 - (a0.length : Int))) < 0)) = false) (K (.v (.c (.int (wrap (a1 - (a0.length : Int)))))) ([]))) := by
  obtain ⟨f0, -, -⟩ := hf
  try simp only [big] at *
  refine ⟨fun h1 => ?_, fun h1 => ?_⟩
  · have e : laws_szPacketS.S a0 a1 = ((-1)) := by simp only [laws_szPacketS.S, h1, cond_true, cond_false]
    rw [e] at hK
    exact hK
  · have e : laws_szPacketS.S a0 a1 = (wrap (a1 - (a0.length : Int))) := by simp only [laws_szPacketS.S, h1, cond_true, cond_false]
    rw [e] at hK
    exact hK
theorem laws_szPacketS.good : Good Try.prog laws_szPacketS.c :=
  vgood (sh := []) (LL := []) noG (fn := Try.f96) (by kernel_rfl) (by kernel_rfl) (by rw [show loopsOf (bodyOf Try.f96) = [] from by kernel_rfl]; exact noL rfl) fun s hp hf => by
    refine Eq.mpr (laws_szPacketS.w (s.1) (s.2.1) _) ?_
    exact laws_szPacketS.v _ _ hf (fun r bs' => And (r = (laws_szPacketS.c.out s).1) (bs' = (laws_szPacketS.c.out s).2)) ⟨rfl, rfl⟩
/-! ### laws.szBoolS -/
def laws_szBoolS.S (a0 : List Bool) (a1 : Int) : Int := bif decide ((wrap (a1 - (a0.length : Int))) < 0) then ((-1)) else (wrap (a1 - (a0.length : Int)))
def laws_szBoolS.enc (r : Int) : AV × List Blk := (.v (.c (.int r)), [])
def laws_szBoolS.L : ShL := sCons sBools (sCons sInt (sNil))
def laws_szBoolS.c : Ctr := vctr 97 laws_szBoolS.L none (fun s => laws_szBoolS.enc (laws_szBoolS.S s.1 s.2.1))
theorem laws_szBoolS.w (a0 : List Bool) (a1 : Int) (K : AV → List Blk → Prop) : evFn (env []) [] [] Try.f97 [] (laws_szBoolS.L.enc (a0, (a1, ()))) K = (And (Imp ((decide ((wrap (a1 - (a0.length : Int))) < 0)) = true) (K (.v (.c (.int (-1)))) ([]))) (Imp ((decide ((wrap (a1 - (a0.length : Int))) < 0)) = false) (K (.v (.c (.int (wrap (a1 - (a0.length : Int)))))) ([])))) := by kernel_rfl
theorem laws_szBoolS.v (a0 : List Bool) (a1 : Int) (hf : (a0.length : Int) ≤ 9223372036854775807 ∧ True ∧ True) (K : AV → List Blk → Prop) (hK : K (laws_szBoolS.enc (laws_szBoolS.S a0 a1)).1 (laws_szBoolS.enc (laws_szBoolS.S a0 a1)).2) : And (Imp ((decide ((wrap (a1 - (a0.length : Int))) < 0)) = true) (K (.v (.c (.int (-1)))) ([]))) (Imp ((decide ((wrap (a1 - (a0.length : Int))) < 0)) = false) (K (.v (.c (.int (wrap (a1 - (a0.length : Int)))))) ([]))) := by
  obtain ⟨f0, -, -⟩ := hf
  try simp only [big] at *
  refine ⟨fun h1 => ?_, fun h1 => ?_⟩
  · have e : laws_szBoolS.S a0 a1 = ((-1)) := by simp only [laws_szBoolS.S, h1, cond_true, cond_false]
    rw [e] at hK
    exact hK
  · have e : laws_szBoolS.S a0 a1 = (wrap (a1 - (a0.length : Int))) := by simp only [laws_szBoolS.S, h1, cond_true, cond_false]
    rw [e] at hK
    exact hK
theorem laws_szBoolS.good : Good Try.prog laws_szBoolS.c :=
  vgood (sh := []) (LL := []) noG (fn := Try.f97) (by kernel_rfl) (by kernel_rfl) (by rw [show loopsOf (bodyOf Try.f97) = [] from by kernel_rfl]; exact noL rfl) fun s hp hf => by
    refine Eq.mpr (laws_szBoolS.w (s.1) (s.2.1) _) ?_
    exact laws_szBoolS.v _ _ hf (fun r bs' => And (r = (laws_szBoolS.c.out s).1) (bs' = (laws_szBoolS.c.out s).2)) ⟨rfl, rfl⟩
/-! ### laws.szState -/
def laws_szState.S (a0 : St) (a1 : Int) : Int := bif decide ((laws_szPacketS.S a0.sent a1) < 0) then ((-1)) else bif decide ((laws_szBoolS.S a0.live (laws_szPacketS.S a0.sent a1)) < 0) then ((-1)) else bif decide ((laws_szBoolS.S a0.back (laws_szBoolS.S a0.live (laws_szPacketS.S a0.sent a1))) < 0) then ((-1)) else bif decide ((laws_szIntS.S a0.got (laws_szBoolS.S a0.back (laws_szBoolS.S a0.live (laws_szPacketS.S a0.sent a1)))) < 0) then ((-1)) else ((laws_szIntS.S a0.got (laws_szBoolS.S a0.back (laws_szBoolS.S a0.live (laws_szPacketS.S a0.sent a1)))))
def laws_szState.enc (r : Int) : AV × List Blk := (.v (.c (.int r)), [])
def laws_szState.L : ShL := sCons sSt (sCons sInt (sNil))
def laws_szState.c : Ctr := vctr 79 laws_szState.L none (fun s => laws_szState.enc (laws_szState.S s.1 s.2.1))
theorem laws_szState.w (a0 : St) (a1 : Int) (K : AV → List Blk → Prop) : evFn (env [laws_szPacketS.c, laws_szBoolS.c, laws_szIntS.c]) [] [] Try.f79 [] (laws_szState.L.enc (a0, (a1, ()))) K = (And (Imp ((decide ((laws_szPacketS.S a0.sent a1) < 0)) = true) (K (.v (.c (.int (-1)))) ([]))) (Imp ((decide ((laws_szPacketS.S a0.sent a1) < 0)) = false) (And (Imp ((decide ((laws_szBoolS.S a0.live (laws_szPacketS.S a0.sent a1)) < 0)) = true) (K (.v (.c (.int (-1)))) ([]))) (Imp ((decide ((laws_szBoolS.S a0.live (laws_szPacketS.S a0.sent a1)) < 0)) = false) (And (Imp ((decide ((laws_szBoolS.S a0.back (laws_szBoolS.S a0.live (laws_szPacketS.S a0.sent a1))) < 0)) = true) (K (.v (.c (.int (-1)))) ([]))) (Imp ((decide ((laws_szBoolS.S a0.back (laws_szBoolS.S a0.live (laws_szPacketS.S a0.sent a1))) < 0)) = false) (And (Imp ((decide ((laws_szIntS.S a0.got (laws_szBoolS.S a0.back (laws_szBoolS.S a0.live (laws_szPacketS.S a0.sent a1)))) < 0)) = true) (K (.v (.c (.int (-1)))) ([]))) (Imp ((decide ((laws_szIntS.S a0.got (laws_szBoolS.S a0.back (laws_szBoolS.S a0.live (laws_szPacketS.S a0.sent a1)))) < 0)) = false) (K (.v (.c (.int (laws_szIntS.S a0.got (laws_szBoolS.S a0.back (laws_szBoolS.S a0.live (laws_szPacketS.S a0.sent a1))))))) ([])))))))))) := by kernel_rfl
theorem laws_szState.v (a0 : St) (a1 : Int) (hf : St.fact a0 ∧ True ∧ True) (K : AV → List Blk → Prop) (hK : K (laws_szState.enc (laws_szState.S a0 a1)).1 (laws_szState.enc (laws_szState.S a0 a1)).2) : And (Imp ((decide ((laws_szPacketS.S a0.sent a1) < 0)) = true) (K (.v (.c (.int (-1)))) ([]))) (Imp ((decide ((laws_szPacketS.S a0.sent a1) < 0)) = false) (And (Imp ((decide ((laws_szBoolS.S a0.live (laws_szPacketS.S a0.sent a1)) < 0)) = true) (K (.v (.c (.int (-1)))) ([]))) (Imp ((decide ((laws_szBoolS.S a0.live (laws_szPacketS.S a0.sent a1)) < 0)) = false) (And (Imp ((decide ((laws_szBoolS.S a0.back (laws_szBoolS.S a0.live (laws_szPacketS.S a0.sent a1))) < 0)) = true) (K (.v (.c (.int (-1)))) ([]))) (Imp ((decide ((laws_szBoolS.S a0.back (laws_szBoolS.S a0.live (laws_szPacketS.S a0.sent a1))) < 0)) = false) (And (Imp ((decide ((laws_szIntS.S a0.got (laws_szBoolS.S a0.back (laws_szBoolS.S a0.live (laws_szPacketS.S a0.sent a1)))) < 0)) = true) (K (.v (.c (.int (-1)))) ([]))) (Imp ((decide ((laws_szIntS.S a0.got (laws_szBoolS.S a0.back (laws_szBoolS.S a0.live (laws_szPacketS.S a0.sent a1)))) < 0)) = false) (K (.v (.c (.int (laws_szIntS.S a0.got (laws_szBoolS.S a0.back (laws_szBoolS.S a0.live (laws_szPacketS.S a0.sent a1))))))) ([]))))))))) := by
  obtain ⟨f0, -, -⟩ := hf
  obtain ⟨f0_0, f0_1, f0_2, f0_3⟩ := f0
  try simp only [big] at *
  refine ⟨fun h1 => ?_, fun h1 => ?_⟩
  · have e : laws_szState.S a0 a1 = ((-1)) := by simp only [laws_szState.S, h1, cond_true, cond_false]
    rw [e] at hK
    exact hK
  · refine ⟨fun h2 => ?_, fun h2 => ?_⟩
    · have e : laws_szState.S a0 a1 = ((-1)) := by simp only [laws_szState.S, h1, h2, cond_true, cond_false]
      rw [e] at hK
      exact hK
    · refine ⟨fun h3 => ?_, fun h3 => ?_⟩
      · have e : laws_szState.S a0 a1 = ((-1)) := by simp only [laws_szState.S, h1, h2, h3, cond_true, cond_false]
        rw [e] at hK
        exact hK
      · refine ⟨fun h4 => ?_, fun h4 => ?_⟩
        · have e : laws_szState.S a0 a1 = ((-1)) := by simp only [laws_szState.S, h1, h2, h3, h4, cond_true, cond_false]
          rw [e] at hK
          exact hK
        · have e : laws_szState.S a0 a1 = ((laws_szIntS.S a0.got (laws_szBoolS.S a0.back (laws_szBoolS.S a0.live (laws_szPacketS.S a0.sent a1))))) := by simp only [laws_szState.S, h1, h2, h3, h4, cond_true, cond_false]
          rw [e] at hK
          exact hK
theorem laws_szState.good : Good Try.prog laws_szState.c :=
  vgood (sh := []) (LL := []) (consG laws_szPacketS.good (consG laws_szBoolS.good (consG laws_szIntS.good noG))) (fn := Try.f79) (by kernel_rfl) (by kernel_rfl) (by rw [show loopsOf (bodyOf Try.f79) = [] from by kernel_rfl]; exact noL rfl) fun s hp hf => by
    refine Eq.mpr (laws_szState.w (s.1) (s.2.1) _) ?_
    exact laws_szState.v _ _ hf (fun r bs' => And (r = (laws_szState.c.out s).1) (bs' = (laws_szState.c.out s).2)) ⟨rfl, rfl⟩
/-! ### laws.szStateS -/
def laws_szStateS_l5.S : Nat → (List St) → Int → Int → Int → Nat × Int × Int × Int × Unit
  | 0, _, _, _, _ => (0, (0, (0, (0, ()))))
  | n + 1, x5_0, x5_1, x5_2, x5_3 => bif decide (x5_3 < (x5_0.length : Int)) then bif decide ((laws_szState.S (x5_0.getD (x5_3).toNat zSt) x5_1) < 0) then (0, ((laws_szState.S (x5_0.getD (x5_3).toNat zSt) x5_1), ((-1), (x5_3, ())))) else laws_szStateS_l5.S n x5_0 (laws_szState.S (x5_0.getD (x5_3).toNat zSt) x5_1) x5_2 (wrap (x5_3 + 1)) else (1, (x5_1, (x5_3, (0, ()))))
def laws_szStateS_l5.M (x5_0 : List St) (x5_1 : Int) (x5_2 : Int) (x5_3 : Int) : Nat := ((x5_0.length : Int) - x5_3).toNat
def laws_szStateS_l5.R (x5_0 : List St) (x5_1 : Int) (x5_2 : Int) (x5_3 : Int) : Nat × Int × Int × Int × Unit := laws_szStateS_l5.S (laws_szStateS_l5.M x5_0 x5_1 x5_2 x5_3 + 1) x5_0 x5_1 x5_2 x5_3
def laws_szStateS_l5.P (x5_0 : List St) (x5_1 : Int) (x5_2 : Int) (x5_3 : Int) : Prop := (0 ≤ x5_3) ∧ ((x5_0.length : Int) ≤ 9223372036854775807) ∧ (stsFact x5_0)
def laws_szStateS_l5.L : FL := fCons (fC (cArr false kSts)) (fCons (fC cInt) (fCons (fC cInt) (fCons (fC cInt) (fNil))))
def laws_szStateS_l5.o0 (x5_0 : List St) (x5_1 : Int) (x5_2 : Int) (x5_3 : Int) (r : Nat × Int × Int × Int × Unit) : Ex × List FV × List Blk := (.ret, [.c (.arr false (.sts x5_0)), .c (.int r.2.1), .c (.int r.2.2.1), .c (.int r.2.2.2.1)], [])
def laws_szStateS_l5.o1 (x5_0 : List St) (x5_1 : Int) (x5_2 : Int) (x5_3 : Int) (r : Nat × Int × Int × Int × Unit) : Ex × List FV × List Blk := (.exit 0, [.c (.arr false (.sts x5_0)), .c (.int r.2.1), .c (.int x5_2), .c (.int r.2.2.1)], [])
def laws_szStateS_l5.o (x5_0 : List St) (x5_1 : Int) (x5_2 : Int) (x5_3 : Int) (r : Nat × Int × Int × Int × Unit) : Ex × List FV × List Blk := pickAlt [(Nat.beq r.1 0, laws_szStateS_l5.o0 x5_0 x5_1 x5_2 x5_3 r)] (laws_szStateS_l5.o1 x5_0 x5_1 x5_2 x5_3 r)
def laws_szStateS_l5.d : LDat := ldat 5 [0, 1, 4, 5] [] laws_szStateS_l5.L (fun s => laws_szStateS_l5.P s.1 s.2.1 s.2.2.1 s.2.2.2.1) (fun s => [(Nat.beq (laws_szStateS_l5.R s.1 s.2.1 s.2.2.1 s.2.2.2.1).1 0, laws_szStateS_l5.o0 s.1 s.2.1 s.2.2.1 s.2.2.2.1 (laws_szStateS_l5.R s.1 s.2.1 s.2.2.1 s.2.2.2.1))]) (fun s => laws_szStateS_l5.o1 s.1 s.2.1 s.2.2.1 s.2.2.2.1 (laws_szStateS_l5.R s.1 s.2.1 s.2.2.1 s.2.2.2.1)) (fun s => laws_szStateS_l5.M s.1 s.2.1 s.2.2.1 s.2.2.2.1)
def laws_szStateS.S (a0 : List St) (a1 : Int) : Int := bif decide ((wrap (a1 - (a0.length : Int))) < 0) then ((-1)) else bif Nat.beq (laws_szStateS_l5.R a0 (wrap (a1 - (a0.length : Int))) 0 0).1 0 then ((laws_szStateS_l5.R a0 (wrap (a1 - (a0.length : Int))) 0 0).2.2.1) else ((laws_szStateS_l5.R a0 (wrap (a1 - (a0.length : Int))) 0 0).2.1)
def laws_szStateS.enc (r : Int) : AV × List Blk := (.v (.c (.int r)), [])
def laws_szStateS.L : ShL := sCons sSts (sCons sInt (sNil))
def laws_szStateS.c : Ctr := vctr 80 laws_szStateS.L none (fun s => laws_szStateS.enc (laws_szStateS.S s.1 s.2.1))
theorem laws_szStateS_l5.w (x5_0 : List St) (x5_1 : Int) (x5_2 : Int) (x5_3 : Int) : evBody (env [laws_szState.c]) [] (bodyAt Try.f80 0) laws_szStateS_l5.d (x5_0, (x5_1, (x5_2, (x5_3, ())))) = (And (Imp ((decide (x5_3 < (x5_0.length : Int))) = true) (And ((0 : Int) ≤ x5_3 ∧ x5_3 < (x5_0.length : Int)) (And (Imp ((decide ((laws_szState.S (x5_0.getD (x5_3).toNat zSt) x5_1) < 0)) = true) (laws_szStateS_l5.o x5_0 x5_1 x5_2 x5_3 (laws_szStateS_l5.R x5_0 x5_1 x5_2 x5_3) = (.ret, [.c (.arr false (.sts x5_0)), .c (.int (laws_szState.S (x5_0.getD (x5_3).toNat zSt) x5_1)), .c (.int (-1)), .c (.int x5_3)], []))) (Imp ((decide ((laws_szState.S (x5_0.getD (x5_3).toNat zSt) x5_1) < 0)) = false) (And (laws_szStateS_l5.P x5_0 (laws_szState.S (x5_0.getD (x5_3).toNat zSt) x5_1) x5_2 (wrap (x5_3 + 1))) (And (laws_szStateS_l5.M x5_0 (laws_szState.S (x5_0.getD (x5_3).toNat zSt) x5_1) x5_2 (wrap (x5_3 + 1)) < laws_szStateS_l5.M x5_0 x5_1 x5_2 x5_3) (laws_szStateS_l5.o x5_0 (laws_szState.S (x5_0.getD (x5_3).toNat zSt) x5_1) x5_2 (wrap (x5_3 + 1)) (laws_szStateS_l5.R x5_0 (laws_szState.S (x5_0.getD (x5_3).toNat zSt) x5_1) x5_2 (wrap (x5_3 + 1))) = laws_szStateS_l5.o x5_0 x5_1 x5_2 x5_3 (laws_szStateS_l5.R x5_0 x5_1 x5_2 x5_3)))))))) (Imp ((decide (x5_3 < (x5_0.length : Int))) = false) (laws_szStateS_l5.o x5_0 x5_1 x5_2 x5_3 (laws_szStateS_l5.R x5_0 x5_1 x5_2 x5_3) = (.exit 0, [.c (.arr false (.sts x5_0)), .c (.int x5_1), .c (.int x5_2), .c (.int x5_3)], [])))) := by kernel_rfl
theorem laws_szStateS_l5.v (x5_0 : List St) (x5_1 : Int) (x5_2 : Int) (x5_3 : Int) (hp : laws_szStateS_l5.P x5_0 x5_1 x5_2 x5_3) : And (Imp ((decide (x5_3 < (x5_0.length : Int))) = true) (And ((0 : Int) ≤ x5_3 ∧ x5_3 < (x5_0.length : Int)) (And (Imp ((decide ((laws_szState.S (x5_0.getD (x5_3).toNat zSt) x5_1) < 0)) = true) (laws_szStateS_l5.o x5_0 x5_1 x5_2 x5_3 (laws_szStateS_l5.R x5_0 x5_1 x5_2 x5_3) = (.ret, [.c (.arr false (.sts x5_0)), .c (.int (laws_szState.S (x5_0.getD (x5_3).toNat zSt) x5_1)), .c (.int (-1)), .c (.int x5_3)], []))) (Imp ((decide ((laws_szState.S (x5_0.getD (x5_3).toNat zSt) x5_1) < 0)) = false) (And (laws_szStateS_l5.P x5_0 (laws_szState.S (x5_0.getD (x5_3).toNat zSt) x5_1) x5_2 (wrap (x5_3 + 1))) (And (laws_szStateS_l5.M x5_0 (laws_szState.S (x5_0.getD (x5_3).toNat zSt) x5_1) x5_2 (wrap (x5_3 + 1)) < laws_szStateS_l5.M x5_0 x5_1 x5_2 x5_3) (laws_szStateS_l5.o x5_0 (laws_szState.S (x5_0.getD (x5_3).toNat zSt) x5_1) x5_2 (wrap (x5_3 + 1)) (laws_szStateS_l5.R x5_0 (laws_szState.S (x5_0.getD (x5_3).toNat zSt) x5_1) x5_2 (wrap (x5_3 + 1))) = laws_szStateS_l5.o x5_0 x5_1 x5_2 x5_3 (laws_szStateS_l5.R x5_0 x5_1 x5_2 x5_3)))))))) (Imp ((decide (x5_3 < (x5_0.length : Int))) = false) (laws_szStateS_l5.o x5_0 x5_1 x5_2 x5_3 (laws_szStateS_l5.R x5_0 x5_1 x5_2 x5_3) = (.exit 0, [.c (.arr false (.sts x5_0)), .c (.int x5_1), .c (.int x5_2), .c (.int x5_3)], []))) := by
  simp only [laws_szStateS_l5.P] at hp
  obtain ⟨p0, p1, p2⟩ := hp
  refine ⟨fun h1 => ?_, fun h1 => ?_⟩
  · refine ⟨by first | assumption | omega | grind [wrap_id, sts_1, sts_2], ?_⟩
    refine ⟨fun h2 => ?_, fun h2 => ?_⟩
    · have e : laws_szStateS_l5.R x5_0 x5_1 x5_2 x5_3 = (0, ((laws_szState.S (x5_0.getD (x5_3).toNat zSt) x5_1), ((-1), (x5_3, ())))) := by simp only [laws_szStateS_l5.R, laws_szStateS_l5.S, h1, h2, cond_true, cond_false]
      rw [e]
      rfl
    · have hμ : laws_szStateS_l5.M x5_0 x5_1 x5_2 x5_3 = laws_szStateS_l5.M x5_0 (laws_szState.S (x5_0.getD (x5_3).toNat zSt) x5_1) x5_2 (wrap (x5_3 + 1)) + 1 := by simp only [laws_szStateS_l5.M]; first | omega | grind [wrap_id]
      refine ⟨by simp only [laws_szStateS_l5.P]; refine ⟨(by first | assumption | omega | grind [wrap_id, sts_1, sts_2]), (by first | assumption | omega | grind [wrap_id, sts_1, sts_2]), (by first | assumption | omega | grind [wrap_id, sts_1, sts_2])⟩, by omega, ?_⟩
      have e : laws_szStateS_l5.R x5_0 x5_1 x5_2 x5_3 = laws_szStateS_l5.R x5_0 (laws_szState.S (x5_0.getD (x5_3).toNat zSt) x5_1) x5_2 (wrap (x5_3 + 1)) := by
        have e1 : laws_szStateS_l5.R x5_0 x5_1 x5_2 x5_3 = laws_szStateS_l5.S (laws_szStateS_l5.M x5_0 x5_1 x5_2 x5_3) x5_0 (laws_szState.S (x5_0.getD (x5_3).toNat zSt) x5_1) x5_2 (wrap (x5_3 + 1)) := by simp only [laws_szStateS_l5.R, laws_szStateS_l5.S, h1, h2, cond_true, cond_false]
        rw [e1, hμ]
        rfl
      rw [e]
      rfl
  · have e : laws_szStateS_l5.R x5_0 x5_1 x5_2 x5_3 = (1, (x5_1, (x5_3, (0, ())))) := by simp only [laws_szStateS_l5.R, laws_szStateS_l5.S, h1, cond_true, cond_false]
    rw [e]
    rfl
theorem laws_szStateS_l5.g (hG : ∀ c ∈ [laws_szState.c], Good Try.prog c) : LGood Try.prog Try.f80.ntmps laws_szStateS_l5.d.ctr (bodyAt Try.f80 0) := by
  refine lgood (LL := []) hG (by kernel_rfl) (by rw [show loopsOf (bodyAt Try.f80 0) = [] from by kernel_rfl]; exact noL rfl) fun s hp => ?_
  refine Eq.mpr (laws_szStateS_l5.w s.1 s.2.1 s.2.2.1 s.2.2.2.1) ?_
  replace hp : laws_szStateS_l5.P s.1 s.2.1 s.2.2.1 s.2.2.2.1 := hp
  exact laws_szStateS_l5.v _ _ _ _ hp
def laws_szStateS_l5.E (x5_0 : List St) (x5_2 : Int) (k : Nat) (a : Int) : Option (Nat × Int × Int × Int × Unit) := bif decide ((laws_szState.S (x5_0.getD k zSt) a) < 0) then some (0, ((laws_szState.S (x5_0.getD k zSt) a), ((-1), ((k : Int), ())))) else none
def laws_szStateS_l5.A (x5_0 : List St) (x5_2 : Int) (k : Nat) (a : Int) : Int := bif decide ((laws_szState.S (x5_0.getD k zSt) a) < 0) then a else ((laws_szState.S (x5_0.getD k zSt) a))
def laws_szStateS_l5.fin (x5_0 : List St) (x5_2 : Int) (k : Nat) (a : Int) : Nat × Int × Int × Int × Unit := (1, (a, ((k : Int), (0, ()))))
def laws_szStateS_l5.acc (x5_0 : List St) (x5_2 : Int) (a : Int) : Nat → Int
  | 0 => a
  | k + 1 => laws_szStateS_l5.A x5_0 x5_2 k (laws_szStateS_l5.acc x5_0 x5_2 a k)
theorem laws_szStateS_l5.law (x5_0 : List St) (x5_2 : Int) (a : Int) (n : Nat) (hT : (x5_0.length : Int) = (n : Int)) (hn : (n : Int) ≤ 9223372036854775807) :
    ((∀ k, k < n → laws_szStateS_l5.E x5_0 x5_2 k (laws_szStateS_l5.acc x5_0 x5_2 a k) = none) ∧ laws_szStateS_l5.R x5_0 a x5_2 0 = laws_szStateS_l5.fin x5_0 x5_2 n (laws_szStateS_l5.acc x5_0 x5_2 a n)) ∨ (∃ k r, k < n ∧ laws_szStateS_l5.E x5_0 x5_2 k (laws_szStateS_l5.acc x5_0 x5_2 a k) = some r ∧ (∀ j, j < k → laws_szStateS_l5.E x5_0 x5_2 j (laws_szStateS_l5.acc x5_0 x5_2 a j) = none) ∧ laws_szStateS_l5.R x5_0 a x5_2 0 = r) := by
  have hM : laws_szStateS_l5.M x5_0 a x5_2 0 + 1 = n + 1 := by simp only [laws_szStateS_l5.M]; omega
  unfold laws_szStateS_l5.R
  rw [hM]
  refine loopE (fun m i b => laws_szStateS_l5.S m x5_0 b x5_2 i) n hn (laws_szStateS_l5.acc x5_0 x5_2 a) (laws_szStateS_l5.E x5_0 x5_2 ) (laws_szStateS_l5.fin x5_0 x5_2 ) fun m k hk => ?_
  have ha : laws_szStateS_l5.acc x5_0 x5_2 a (k + 1) = laws_szStateS_l5.A x5_0 x5_2 k (laws_szStateS_l5.acc x5_0 x5_2 a k) := rfl
  rw [ha]
  generalize laws_szStateS_l5.acc x5_0 x5_2 a k = b
  simp only [laws_szStateS_l5.S, laws_szStateS_l5.E, laws_szStateS_l5.A, laws_szStateS_l5.fin, hT, Int.toNat_natCast]
  all_goals grind
theorem laws_szStateS.w (a0 : List St) (a1 : Int) (K : AV → List Blk → Prop) : evFn (env [laws_szState.c]) [laws_szStateS_l5.d.ctr] [] Try.f80 [] (laws_szStateS.L.enc (a0, (a1, ()))) K = (And (Imp ((decide ((wrap (a1 - (a0.length : Int))) < 0)) = true) (K (.v (.c (.int (-1)))) ([]))) (Imp ((decide ((wrap (a1 - (a0.length : Int))) < 0)) = false) (And (laws_szStateS_l5.P a0 (wrap (a1 - (a0.length : Int))) 0 0) (And (Imp (Nat.beq (laws_szStateS_l5.R a0 (wrap (a1 - (a0.length : Int))) 0 0).1 0 = true) (K (.v (.c (.int (laws_szStateS_l5.R a0 (wrap (a1 - (a0.length : Int))) 0 0).2.2.1))) ([]))) (Imp (Nat.beq (laws_szStateS_l5.R a0 (wrap (a1 - (a0.length : Int))) 0 0).1 0 = false) (K (.v (.c (.int (laws_szStateS_l5.R a0 (wrap (a1 - (a0.length : Int))) 0 0).2.1))) ([]))))))) := by kernel_rfl
theorem laws_szStateS.v (a0 : List St) (a1 : Int) (hf : stsFact a0 ∧ True ∧ True) (K : AV → List Blk → Prop) (hK : K (laws_szStateS.enc (laws_szStateS.S a0 a1)).1 (laws_szStateS.enc (laws_szStateS.S a0 a1)).2) : And (Imp ((decide ((wrap (a1 - (a0.length : Int))) < 0)) = true) (K (.v (.c (.int (-1)))) ([]))) (Imp ((decide ((wrap (a1 - (a0.length : Int))) < 0)) = false) (And (laws_szStateS_l5.P a0 (wrap (a1 - (a0.length : Int))) 0 0) (And (Imp (Nat.beq (laws_szStateS_l5.R a0 (wrap (a1 - (a0.length : Int))) 0 0).1 0 = true) (K (.v (.c (.int (laws_szStateS_l5.R a0 (wrap (a1 - (a0.length : Int))) 0 0).2.2.1))) ([]))) (Imp (Nat.beq (laws_szStateS_l5.R a0 (wrap (a1 - (a0.length : Int))) 0 0).1 0 = false) (K (.v (.c (.int (laws_szStateS_l5.R a0 (wrap (a1 - (a0.length : Int))) 0 0).2.1))) ([])))))) := by
  obtain ⟨f0, -, -⟩ := hf
  try simp only [big] at *
  refine ⟨fun h1 => ?_, fun h1 => ?_⟩
  · have e : laws_szStateS.S a0 a1 = ((-1)) := by simp only [laws_szStateS.S, h1, cond_true, cond_false]
    rw [e] at hK
    exact hK
  · refine ⟨by simp only [laws_szStateS_l5.P]; refine ⟨(by first | assumption | omega | grind [wrap_id, sts_1, sts_2]), (by first | assumption | omega | grind [wrap_id, sts_1, sts_2]), (by first | assumption | omega | grind [wrap_id, sts_1, sts_2])⟩, ?_⟩
    refine ⟨fun h2 => ?_, fun h2 => ?_⟩
    · have e : laws_szStateS.S a0 a1 = ((laws_szStateS_l5.R a0 (wrap (a1 - (a0.length : Int))) 0 0).2.2.1) := by simp only [laws_szStateS.S, h1, h2, cond_true, cond_false]
      rw [e] at hK
      exact hK
    · have e : laws_szStateS.S a0 a1 = ((laws_szStateS_l5.R a0 (wrap (a1 - (a0.length : Int))) 0 0).2.1) := by simp only [laws_szStateS.S, h1, h2, cond_true, cond_false]
      rw [e] at hK
      exact hK
theorem laws_szStateS.good : Good Try.prog laws_szStateS.c :=
  vgood (sh := []) (LL := [laws_szStateS_l5.d.ctr]) (consG laws_szState.good noG) (fn := Try.f80) (by kernel_rfl) (by kernel_rfl) (by rw [show loopsOf (bodyOf Try.f80) = [(bodyAt Try.f80 0)] from by kernel_rfl]; exact consL (l := laws_szStateS_l5.d.ctr) (by kernel_rfl) (laws_szStateS_l5.g (consG laws_szState.good noG)) (noL rfl)) fun s hp hf => by
    refine Eq.mpr (laws_szStateS.w (s.1) (s.2.1) _) ?_
    exact laws_szStateS.v _ _ hf (fun r bs' => And (r = (laws_szStateS.c.out s).1) (bs' = (laws_szStateS.c.out s).2)) ⟨rfl, rfl⟩
/-! ### laws.szChain -/
def laws_szChain.S (a0 : Ch) (a1 : Int) : Int := bif decide ((laws_szBank.S a0.bank a1) < 0) then ((-1)) else bif decide ((laws_szState.S a0.st (laws_szBank.S a0.bank a1)) < 0) then ((-1)) else bif decide ((laws_szStateS.S a0.past (laws_szState.S a0.st (laws_szBank.S a0.bank a1))) < 0) then ((-1)) else bif decide ((laws_szIntS.S a0.knows (laws_szStateS.S a0.past (laws_szState.S a0.st (laws_szBank.S a0.bank a1)))) < 0) then ((-1)) else ((laws_szIntS.S a0.knows (laws_szStateS.S a0.past (laws_szState.S a0.st (laws_szBank.S a0.bank a1)))))
def laws_szChain.enc (r : Int) : AV × List Blk := (.v (.c (.int r)), [])
def laws_szChain.L : ShL := sCons sCh (sCons sInt (sNil))
def laws_szChain.c : Ctr := vctr 67 laws_szChain.L none (fun s => laws_szChain.enc (laws_szChain.S s.1 s.2.1))
theorem laws_szChain.w (a0 : Ch) (a1 : Int) (K : AV → List Blk → Prop) : evFn (env [laws_szBank.c, laws_szState.c, laws_szStateS.c, laws_szIntS.c]) [] [] Try.f67 [] (laws_szChain.L.enc (a0, (a1, ()))) K = (And (Imp ((decide ((laws_szBank.S a0.bank a1) < 0)) = true) (K (.v (.c (.int (-1)))) ([]))) (Imp ((decide ((laws_szBank.S a0.bank a1) < 0)) = false) (And (Imp ((decide ((laws_szState.S a0.st (laws_szBank.S a0.bank a1)) < 0)) = true) (K (.v (.c (.int (-1)))) ([]))) (Imp ((decide ((laws_szState.S a0.st (laws_szBank.S a0.bank a1)) < 0)) = false) (And (Imp ((decide ((laws_szStateS.S a0.past (laws_szState.S a0.st (laws_szBank.S a0.bank a1))) < 0)) = true) (K (.v (.c (.int (-1)))) ([]))) (Imp ((decide ((laws_szStateS.S a0.past (laws_szState.S a0.st (laws_szBank.S a0.bank a1))) < 0)) = false) (And (Imp ((decide ((laws_szIntS.S a0.knows (laws_szStateS.S a0.past (laws_szState.S a0.st (laws_szBank.S a0.bank a1)))) < 0)) = true) (K (.v (.c (.int (-1)))) ([]))) (Imp ((decide ((laws_szIntS.S a0.knows (laws_szStateS.S a0.past (laws_szState.S a0.st (laws_szBank.S a0.bank a1)))) < 0)) = false) (K (.v (.c (.int (laws_szIntS.S a0.knows (laws_szStateS.S a0.past (laws_szState.S a0.st (laws_szBank.S a0.bank a1))))))) ([])))))))))) := by kernel_rfl
theorem laws_szChain.v (a0 : Ch) (a1 : Int) (hf : Ch.fact a0 ∧ True ∧ True) (K : AV → List Blk → Prop) (hK : K (laws_szChain.enc (laws_szChain.S a0 a1)).1 (laws_szChain.enc (laws_szChain.S a0 a1)).2) : And (Imp ((decide ((laws_szBank.S a0.bank a1) < 0)) = true) (K (.v (.c (.int (-1)))) ([]))) (Imp ((decide ((laws_szBank.S a0.bank a1) < 0)) = false) (And (Imp ((decide ((laws_szState.S a0.st (laws_szBank.S a0.bank a1)) < 0)) = true) (K (.v (.c (.int (-1)))) ([]))) (Imp ((decide ((laws_szState.S a0.st (laws_szBank.S a0.bank a1)) < 0)) = false) (And (Imp ((decide ((laws_szStateS.S a0.past (laws_szState.S a0.st (laws_szBank.S a0.bank a1))) < 0)) = true) (K (.v (.c (.int (-1)))) ([]))) (Imp ((decide ((laws_szStateS.S a0.past (laws_szState.S a0.st (laws_szBank.S a0.bank a1))) < 0)) = false) (And (Imp ((decide ((laws_szIntS.S a0.knows (laws_szStateS.S a0.past (laws_szState.S a0.st (laws_szBank.S a0.bank a1)))) < 0)) = true) (K (.v (.c (.int (-1)))) ([]))) (Imp ((decide ((laws_szIntS.S a0.knows (laws_szStateS.S a0.past (laws_szState.S a0.st (laws_szBank.S a0.bank a1)))) < 0)) = false) (K (.v (.c (.int (laws_szIntS.S a0.knows (laws_szStateS.S a0.past (laws_szState.S a0.st (laws_szBank.S a0.bank a1))))))) ([]))))))))) := by
  obtain ⟨f0, -, -⟩ := hf
  obtain ⟨⟨f0_0, f0_1⟩, ⟨f0_2, f0_3, f0_4, f0_5⟩, f0_6, f0_7⟩ := f0
  try simp only [big] at *
  refine ⟨fun h1 => ?_, fun h1 => ?_⟩
  · have e : laws_szChain.S a0 a1 = ((-1)) := by simp only [laws_szChain.S, h1, cond_true, cond_false]
    rw [e] at hK
    exact hK
  · refine ⟨fun h2 => ?_, fun h2 => ?_⟩
    · have e : laws_szChain.S a0 a1 = ((-1)) := by simp only [laws_szChain.S, h1, h2, cond_true, cond_false]
      rw [e] at hK
      exact hK
    · refine ⟨fun h3 => ?_, fun h3 => ?_⟩
      · have e : laws_szChain.S a0 a1 = ((-1)) := by simp only [laws_szChain.S, h1, h2, h3, cond_true, cond_false]
        rw [e] at hK
        exact hK
      · refine ⟨fun h4 => ?_, fun h4 => ?_⟩
        · have e : laws_szChain.S a0 a1 = ((-1)) := by simp only [laws_szChain.S, h1, h2, h3, h4, cond_true, cond_false]
          rw [e] at hK
          exact hK
        · have e : laws_szChain.S a0 a1 = ((laws_szIntS.S a0.knows (laws_szStateS.S a0.past (laws_szState.S a0.st (laws_szBank.S a0.bank a1))))) := by simp only [laws_szChain.S, h1, h2, h3, h4, cond_true, cond_false]
          rw [e] at hK
          exact hK
theorem laws_szChain.good : Good Try.prog laws_szChain.c :=
  vgood (sh := []) (LL := []) (consG laws_szBank.good (consG laws_szState.good (consG laws_szStateS.good (consG laws_szIntS.good noG)))) (fn := Try.f67) (by kernel_rfl) (by kernel_rfl) (by rw [show loopsOf (bodyOf Try.f67) = [] from by kernel_rfl]; exact noL rfl) fun s hp hf => by
    refine Eq.mpr (laws_szChain.w (s.1) (s.2.1) _) ?_
    exact laws_szChain.v _ _ hf (fun r bs' => And (r = (laws_szChain.c.out s).1) (bs' = (laws_szChain.c.out s).2)) ⟨rfl, rfl⟩
/-! ### laws.szChainS -/
def laws_szChainS_l5.S : Nat → (List Ch) → Int → Int → Int → Nat × Int × Int × Int × Unit
  | 0, _, _, _, _ => (0, (0, (0, (0, ()))))
  | n + 1, x5_0, x5_1, x5_2, x5_3 => bif decide (x5_3 < (x5_0.length : Int)) then bif decide ((laws_szChain.S (x5_0.getD (x5_3).toNat zCh) x5_1) < 0) then (0, ((laws_szChain.S (x5_0.getD (x5_3).toNat zCh) x5_1), ((-1), (x5_3, ())))) else laws_szChainS_l5.S n x5_0 (laws_szChain.S (x5_0.getD (x5_3).toNat zCh) x5_1) x5_2 (wrap (x5_3 + 1)) else (1, (x5_1, (x5_3, (0, ()))))
def laws_szChainS_l5.M (x5_0 : List Ch) (x5_1 : Int) (x5_2 : Int) (x5_3 : Int) : Nat := ((x5_0.length : Int) - x5_3).toNat
def laws_szChainS_l5.R (x5_0 : List Ch) (x5_1 : Int) (x5_2 : Int) (x5_3 : Int) : Nat × Int × Int × Int × Unit := laws_szChainS_l5.S (laws_szChainS_l5.M x5_0 x5_1 x5_2 x5_3 + 1) x5_0 x5_1 x5_2 x5_3
def laws_szChainS_l5.P (x5_0 : List Ch) (x5_1 : Int) (x5_2 : Int) (x5_3 : Int) : Prop := (0 ≤ x5_3) ∧ ((x5_0.length : Int) ≤ 9223372036854775807) ∧ (chsFact x5_0)
def laws_szChainS_l5.L : FL := fCons (fC (cArr false kChs)) (fCons (fC cInt) (fCons (fC cInt) (fCons (fC cInt) (fNil))))
def laws_szChainS_l5.o0 (x5_0 : List Ch) (x5_1 : Int) (x5_2 : Int) (x5_3 : Int) (r : Nat × Int × Int × Int × Unit) : Ex × List FV × List Blk := (.ret, [.c (.arr false (.chs x5_0)), .c (.int r.2.1), .c (.int r.2.2.1), .c (.int r.2.2.2.1)], [])
def laws_szChainS_l5.o1 (x5_0 : List Ch) (x5_1 : Int) (x5_2 : Int) (x5_3 : Int) (r : Nat × Int × Int × Int × Unit) : Ex × List FV × List Blk := (.exit 0, [.c (.arr false (.chs x5_0)), .c (.int r.2.1), .c (.int x5_2), .c (.int r.2.2.1)], [])
def laws_szChainS_l5.o (x5_0 : List Ch) (x5_1 : Int) (x5_2 : Int) (x5_3 : Int) (r : Nat × Int × Int × Int × Unit) : Ex × List FV × List Blk := pickAlt [(Nat.beq r.1 0, laws_szChainS_l5.o0 x5_0 x5_1 x5_2 x5_3 r)] (laws_szChainS_l5.o1 x5_0 x5_1 x5_2 x5_3 r)
def laws_szChainS_l5.d : LDat := ldat 5 [0, 1, 4, 5] [] laws_szChainS_l5.L (fun s => laws_szChainS_l5.P s.1 s.2.1 s.2.2.1 s.2.2.2.1) (fun s => [(Nat.beq (laws_szChainS_l5.R s.1 s.2.1 s.2.2.1 s.2.2.2.1).1 0, laws_szChainS_l5.o0 s.1 s.2.1 s.2.2.1 s.2.2.2.1 (laws_szChainS_l5.R s.1 s.2.1 s.2.2.1 s.2.2.2.1))]) (fun s => laws_szChainS_l5.o1 s.1 s.2.1 s.2.2.1 s.2.2.2.1 (laws_szChainS_l5.R s.1 s.2.1 s.2.2.1 s.2.2.2.1)) (fun s => laws_szChainS_l5.M s.1 s.2.1 s.2.2.1 s.2.2.2.1)
def laws_szChainS.S (a0 : List Ch) (a1 : Int) : Int := bif decide ((wrap (a1 - (a0.length : Int))) < 0) then ((-1)) else bif Nat.beq (laws_szChainS_l5.R a0 (wrap (a1 - (a0.length : Int))) 0 0).1 0 then ((laws_szChainS_l5.R a0 (wrap (a1 - (a0.length : Int))) 0 0).2.2.1) else ((laws_szChainS_l5.R a0 (wrap (a1 - (a0.length : Int))) 0 0).2.1)
def laws_szChainS.enc (r : Int) : AV × List Blk := (.v (.c (.int r)), [])
def laws_szChainS.L : ShL := sCons sChs (sCons sInt (sNil))
def laws_szChainS.c : Ctr := vctr 40 laws_szChainS.L none (fun s => laws_szChainS.enc (laws_szChainS.S s.1 s.2.1))
theorem laws_szChainS_l5.w (x5_0 : List Ch) (x5_1 : Int) (x5_2 : Int) (x5_3 : Int) : evBody (env [laws_szChain.c]) [] (bodyAt Try.f40 0) laws_szChainS_l5.d (x5_0, (x5_1, (x5_2, (x5_3, ())))) = (And (Imp ((decide (x5_3 < (x5_0.length : Int))) = true) (And ((0 : Int) ≤ x5_3 ∧ x5_3 < (x5_0.length : Int)) (And (Imp ((decide ((laws_szChain.S (x5_0.getD (x5_3).toNat zCh) x5_1) < 0)) = true) (laws_szChainS_l5.o x5_0 x5_1 x5_2 x5_3 (laws_szChainS_l5.R x5_0 x5_1 x5_2 x5_3) = (.ret, [.c (.arr false (.chs x5_0)), .c (.int (laws_szChain.S (x5_0.getD (x5_3).toNat zCh) x5_1)), .c (.int (-1)), .c (.int x5_3)], []))) (Imp ((decide ((laws_szChain.S (x5_0.getD (x5_3).toNat zCh) x5_1) < 0)) = false) (And (laws_szChainS_l5.P x5_0 (laws_szChain.S (x5_0.getD (x5_3).toNat zCh) x5_1) x5_2 (wrap (x5_3 + 1))) (And (laws_szChainS_l5.M x5_0 (laws_szChain.S (x5_0.getD (x5_3).toNat zCh) x5_1) x5_2 (wrap (x5_3 + 1)) < laws_szChainS_l5.M x5_0 x5_1 x5_2 x5_3) (laws_szChainS_l5.o x5_0 (laws_szChain.S (x5_0.getD (x5_3).toNat zCh) x5_1) x5_2 (wrap (x5_3 + 1)) (laws_szChainS_l5.R x5_0 (laws_szChain.S (x5_0.getD (x5_3).toNat zCh) x5_1) x5_2 (wrap (x5_3 + 1))) = laws_szChainS_l5.o x5_0 x5_1 x5_2 x5_3 (laws_szChainS_l5.R x5_0 x5_1 x5_2 x5_3)))))))) (Imp ((decide (x5_3 < (x5_0.length : Int))) = false) (laws_szChainS_l5.o x5_0 x5_1 x5_2 x5_3 (laws_szChainS_l5.R x5_0 x5_1 x5_2 x5_3) = (.exit 0, [.c (.arr false (.chs x5_0)), .c (.int x5_1), .c (.int x5_2), .c (.int x5_3)], [])))) := by kernel_rfl
theorem laws_szChainS_l5.v (x5_0 : List Ch) (x5_1 : Int) (x5_2 : Int) (x5_3 : Int) (hp : laws_szChainS_l5.P x5_0 x5_1 x5_2 x5_3) : And (Imp ((decide (x5_3 < (x5_0.length : Int))) = true) (And ((0 : Int) ≤ x5_3 ∧ x5_3 < (x5_0.length : Int)) (And (Imp ((decide ((laws_szChain.S (x5_0.getD (x5_3).toNat zCh) x5_1) < 0)) = true) (laws_szChainS_l5.o x5_0 x5_1 x5_2 x5_3 (laws_szChainS_l5.R x5_0 x5_1 x5_2 x5_3) = (.ret, [.c (.arr false (.chs x5_0)), .c (.int (laws_szChain.S (x5_0.getD (x5_3).toNat zCh) x5_1)), .c (.int (-1)), .c (.int x5_3)], []))) (Imp ((decide ((laws_szChain.S (x5_0.getD (x5_3).toNat zCh) x5_1) < 0)) = false) (And (laws_szChainS_l5.P x5_0 (laws_szChain.S (x5_0.getD (x5_3).toNat zCh) x5_1) x5_2 (wrap (x5_3 + 1))) (And (laws_szChainS_l5.M x5_0 (laws_szChain.S (x5_0.getD (x5_3).toNat zCh) x5_1) x5_2 (wrap (x5_3 + 1)) < laws_szChainS_l5.M x5_0 x5_1 x5_2 x5_3) (laws_szChainS_l5.o x5_0 (laws_szChain.S (x5_0.getD (x5_3).toNat zCh) x5_1) x5_2 (wrap (x5_3 + 1)) (laws_szChainS_l5.R x5_0 (laws_szChain.S (x5_0.getD (x5_3).toNat zCh) x5_1) x5_2 (wrap (x5_3 + 1))) = laws_szChainS_l5.o x5_0 x5_1 x5_2 x5_3 (laws_szChainS_l5.R x5_0 x5_1 x5_2 x5_3)))))))) (Imp ((decide (x5_3 < (x5_0.length : Int))) = false) (laws_szChainS_l5.o x5_0 x5_1 x5_2 x5_3 (laws_szChainS_l5.R x5_0 x5_1 x5_2 x5_3) = (.exit 0, [.c (.arr false (.chs x5_0)), .c (.int x5_1), .c (.int x5_2), .c (.int x5_3)], []))) := by
  simp only [laws_szChainS_l5.P] at hp
  obtain ⟨p0, p1, p2⟩ := hp
  refine ⟨fun h1 => ?_, fun h1 => ?_⟩
  · refine ⟨by first | assumption | omega | grind [wrap_id, chs_1, chs_2, chs_3, chs_4, chs_5], ?_⟩
    refine ⟨fun h2 => ?_, fun h2 => ?_⟩
    · have e : laws_szChainS_l5.R x5_0 x5_1 x5_2 x5_3 = (0, ((laws_szChain.S (x5_0.getD (x5_3).toNat zCh) x5_1), ((-1), (x5_3, ())))) := by simp only [laws_szChainS_l5.R, laws_szChainS_l5.S, h1, h2, cond_true, cond_false]
      rw [e]
      rfl
    · have hμ : laws_szChainS_l5.M x5_0 x5_1 x5_2 x5_3 = laws_szChainS_l5.M x5_0 (laws_szChain.S (x5_0.getD (x5_3).toNat zCh) x5_1) x5_2 (wrap (x5_3 + 1)) + 1 := by simp only [laws_szChainS_l5.M]; first | omega | grind [wrap_id]
      refine ⟨by simp only [laws_szChainS_l5.P]; refine ⟨(by first | assumption | omega | grind [wrap_id, chs_1, chs_2, chs_3, chs_4, chs_5]), (by first | assumption | omega | grind [wrap_id, chs_1, chs_2, chs_3, chs_4, chs_5]), (by first | assumption | omega | grind [wrap_id, chs_1, chs_2, chs_3, chs_4, chs_5])⟩, by omega, ?_⟩
      have e : laws_szChainS_l5.R x5_0 x5_1 x5_2 x5_3 = laws_szChainS_l5.R x5_0 (laws_szChain.S (x5_0.getD (x5_3).toNat zCh) x5_1) x5_2 (wrap (x5_3 + 1)) := by
        have e1 : laws_szChainS_l5.R x5_0 x5_1 x5_2 x5_3 = laws_szChainS_l5.S (laws_szChainS_l5.M x5_0 x5_1 x5_2 x5_3) x5_0 (laws_szChain.S (x5_0.getD (x5_3).toNat zCh) x5_1) x5_2 (wrap (x5_3 + 1)) := by simp only [laws_szChainS_l5.R, laws_szChainS_l5.S, h1, h2, cond_true, cond_false]
        rw [e1, hμ]
        rfl
      rw [e]
      rfl
  · have e : laws_szChainS_l5.R x5_0 x5_1 x5_2 x5_3 = (1, (x5_1, (x5_3, (0, ())))) := by simp only [laws_szChainS_l5.R, laws_szChainS_l5.S, h1, cond_true, cond_false]
    rw [e]
    rfl
theorem laws_szChainS_l5.g (hG : ∀ c ∈ [laws_szChain.c], Good Try.prog c) : LGood Try.prog Try.f40.ntmps laws_szChainS_l5.d.ctr (bodyAt Try.f40 0) := by
  refine lgood (LL := []) hG (by kernel_rfl) (by rw [show loopsOf (bodyAt Try.f40 0) = [] from by kernel_rfl]; exact noL rfl) fun s hp => ?_
  refine Eq.mpr (laws_szChainS_l5.w s.1 s.2.1 s.2.2.1 s.2.2.2.1) ?_
  replace hp : laws_szChainS_l5.P s.1 s.2.1 s.2.2.1 s.2.2.2.1 := hp
  exact laws_szChainS_l5.v _ _ _ _ hp
def laws_szChainS_l5.E (x5_0 : List Ch) (x5_2 : Int) (k : Nat) (a : Int) : Option (Nat × Int × Int × Int × Unit) := bif decide ((laws_szChain.S (x5_0.getD k zCh) a) < 0) then some (0, ((laws_szChain.S (x5_0.getD k zCh) a), ((-1), ((k : Int), ())))) else none
def laws_szChainS_l5.A (x5_0 : List Ch) (x5_2 : Int) (k : Nat) (a : Int) : Int := bif decide ((laws_szChain.S (x5_0.getD k zCh) a) < 0) then a else ((laws_szChain.S (x5_0.getD k zCh) a))
def laws_szChainS_l5.fin (x5_0 : List Ch) (x5_2 : Int) (k : Nat) (a : Int) : Nat × Int × Int × Int × Unit := (1, (a, ((k : Int), (0, ()))))
def laws_szChainS_l5.acc (x5_0 : List Ch) (x5_2 : Int) (a : Int) : Nat → Int
  | 0 => a
  | k + 1 => laws_szChainS_l5.A x5_0 x5_2 k (laws_szChainS_l5.acc x5_0 x5_2 a k)
theorem laws_szChainS_l5.law (x5_0 : List Ch) (x5_2 : Int) (a : Int) (n : Nat) (hT : (x5_0.length : Int) = (n : Int)) (hn : (n : Int) ≤ 9223372036854775807) :
    ((∀ k, k < n → laws_szChainS_l5.E x5_0 x5_2 k (laws_szChainS_l5.acc x5_0 x5_2 a k) = none) ∧ laws_szChainS_l5.R x5_0 a x5_2 0 = laws_szChainS_l5.fin x5_0 x5_2 n (laws_szChainS_l5.acc x5_0 x5_2 a n)) ∨ (∃ k r, k < n ∧ laws_szChainS_l5.E x5_0 x5_2 k (laws_szChainS_l5.acc x5_0 x5_2 a k) = some r ∧ (∀ j, j < k → laws_szChainS_l5.E x5_0 x5_2 j (laws_szChainS_l5.acc x5_0 x5_2 a j) = none) ∧ laws_szChainS_l5.R x5_0 a x5_2 0 = r) := by
  have hM : laws_szChainS_l5.M x5_0 a x5_2 0 + 1 = n + 1 := by simp only [laws_szChainS_l5.M]; omega
  unfold laws_szChainS_l5.R
  rw [hM]
  refine loopE (fun m i b => laws_szChainS_l5.S m x5_0 b x5_2 i) n hn (laws_szChainS_l5.acc x5_0 x5_2 a) (laws_szChainS_l5.E x5_0 x5_2 ) (laws_szChainS_l5.fin x5_0 x5_2 ) fun m k hk => ?_
  have ha : laws_szChainS_l5.acc x5_0 x5_2 a (k + 1) = laws_szChainS_l5.A x5_0 x5_2 k (laws_szChainS_l5.acc x5_0 x5_2 a k) := rfl
  rw [ha]
  generalize laws_szChainS_l5.acc x5_0 x5_2 a k = b
  simp only [laws_szChainS_l5.S, laws_szChainS_l5.E, laws_szChainS_l5.A, laws_szChainS_l5.fin, hT, Int.toNat_natCast]
  all_goals grind
theorem laws_szChainS.w (a0 : List Ch) (a1 : Int) (K : AV → List Blk → Prop) : evFn (env [laws_szChain.c]) [laws_szChainS_l5.d.ctr] [] Try.f40 [] (laws_szChainS.L.enc (a0, (a1, ()))) K = (And (Imp ((decide ((wrap (a1 - (a0.length : Int))) < 0)) = true) (K (.v (.c (.int (-1)))) ([]))) (Imp ((decide ((wrap (a1 - (a0.length : Int))) < 0)) = false) (And (laws_szChainS_l5.P a0 (wrap (a1 - (a0.length : Int))) 0 0) (And (Imp (Nat.beq (laws_szChainS_l5.R a0 (wrap (a1 - (a0.length : Int))) 0 0).1 0 = true) (K (.v (.c (.int (laws_szChainS_l5.R a0 (wrap (a1 - (a0.length : Int))) 0 0).2.2.1))) ([]))) (Imp (Nat.beq (laws_szChainS_l5.R a0 (wrap (a1 - (a0.length : Int))) 0 0).1 0 = false) (K (.v (.c (.int (laws_szChainS_l5.R a0 (wrap (a1 - (a0.length : Int))) 0 0).2.1))) ([]))))))) := by kernel_rfl
theorem laws_szChainS.v (a0 : List Ch) (a1 : Int) (hf : chsFact a0 ∧ True ∧ True) (K : AV → List Blk → Prop) (hK : K (laws_szChainS.enc (laws_szChainS.S a0 a1)).1 (laws_szChainS.enc (laws_szChainS.S a0 a1)).2) : And (Imp ((decide ((wrap (a1 - (a0.length : Int))) < 0)) = true) (K (.v (.c (.int (-1)))) ([]))) (Imp ((decide ((wrap (a1 - (a0.length : Int))) < 0)) = false) (And (laws_szChainS_l5.P a0 (wrap (a1 - (a0.length : Int))) 0 0) (And (Imp (Nat.beq (laws_szChainS_l5.R a0 (wrap (a1 - (a0.length : Int))) 0 0).1 0 = true) (K (.v (.c (.int (laws_szChainS_l5.R a0 (wrap (a1 - (a0.length : Int))) 0 0).2.2.1))) ([]))) (Imp (Nat.beq (laws_szChainS_l5.R a0 (wrap (a1 - (a0.length : Int))) 0 0).1 0 = false) (K (.v (.c (.int (laws_szChainS_l5.R a0 (wrap (a1 - (a0.length : Int))) 0 0).2.1))) ([])))))) := by
  obtain ⟨f0, -, -⟩ := hf
  try simp only [big] at *
  refine ⟨fun h1 => ?_, fun h1 => ?_⟩
  · have e : laws_szChainS.S a0 a1 = ((-1)) := by simp only [laws_szChainS.S, h1, cond_true, cond_false]
    rw [e] at hK
    exact hK
  · refine ⟨by simp only [laws_szChainS_l5.P]; refine ⟨(by first | assumption | omega | grind [wrap_id, chs_1, chs_2, chs_3, chs_4, chs_5]), (by first | assumption | omega | grind [wrap_id, chs_1, chs_2, chs_3, chs_4, chs_5]), (by first | assumption | omega | grind [wrap_id, chs_1, chs_2, chs_3, chs_4, chs_5])⟩, ?_⟩
    refine ⟨fun h2 => ?_, fun h2 => ?_⟩
    · have e : laws_szChainS.S a0 a1 = ((laws_szChainS_l5.R a0 (wrap (a1 - (a0.length : Int))) 0 0).2.2.1) := by simp only [laws_szChainS.S, h1, h2, cond_true, cond_false]
      rw [e] at hK
      exact hK
    · have e : laws_szChainS.S a0 a1 = ((laws_szChainS_l5.R a0 (wrap (a1 - (a0.length : Int))) 0 0).2.1) := by simp only [laws_szChainS.S, h1, h2, cond_true, cond_false]
      rw [e] at hK
      exact hK
theorem laws_szChainS.good : Good Try.prog laws_szChainS.c :=
  vgood (sh := []) (LL := [laws_szChainS_l5.d.ctr]) (consG laws_szChain.good noG) (fn := Try.f40) (by kernel_rfl) (by kernel_rfl) (by rw [show loopsOf (bodyOf Try.f40) = [(bodyAt Try.f40 0)] from by kernel_rfl]; exact consL (l := laws_szChainS_l5.d.ctr) (by kernel_rfl) (laws_szChainS_l5.g (consG laws_szChain.good noG)) (noL rfl)) fun s hp hf => by
    refine Eq.mpr (laws_szChainS.w (s.1) (s.2.1) _) ?_
    exact laws_szChainS.v _ _ hf (fun r bs' => And (r = (laws_szChainS.c.out s).1) (bs' = (laws_szChainS.c.out s).2)) ⟨rfl, rfl⟩
/-! ### laws.szWorld -/
def laws_szWorld.S (a0 : List Ch) (a1 : Int) : Int := bif decide ((laws_szChainS.S a0 a1) < 0) then ((-1)) else ((laws_szChainS.S a0 a1))
def laws_szWorld.enc (r : Int) : AV × List Blk := (.v (.c (.int r)), [])
def laws_szWorld.L : ShL := sCons sW (sCons sInt (sNil))
def laws_szWorld.c : Ctr := vctr 12 laws_szWorld.L none (fun s => laws_szWorld.enc (laws_szWorld.S s.1 s.2.1))
theorem laws_szWorld.w (a0 : List Ch) (a1 : Int) (K : AV → List Blk → Prop) : evFn (env [laws_szChainS.c]) [] [] Try.f12 [] (laws_szWorld.L.enc (a0, (a1, ()))) K = (And (Imp ((decide ((laws_szChainS.S a0 a1) < 0)) = true) (K (.v (.c (.int (-1)))) ([]))) (Imp ((decide ((laws_szChainS.S a0 a1) < 0)) = false) (K (.v (.c (.int (laws_szChainS.S a0 a1)))) ([])))) := by kernel_rfl
theorem laws_szWorld.v (a0 : List Ch) (a1 : Int) (hf : chsFact a0 ∧ True ∧ True) (K : AV → List Blk → Prop) (hK : K (laws_szWorld.enc (laws_szWorld.S a0 a1)).1 (laws_szWorld.enc (laws_szWorld.S a0 a1)).2) : And (Imp ((decide ((laws_szChainS.S a0 a1) < 0)) = true) (K (.v (.c (.int (-1)))) ([]))) (Imp ((decide ((laws_szChainS.S a0 a1) < 0)) = false) (K (.v (.c (.int (laws_szChainS.S a0 a1)))) ([]))) := by
  obtain ⟨f0, -, -⟩ := hf
  try simp only [big] at *
  refine ⟨fun h1 => ?_, fun h1 => ?_⟩
  · have e : laws_szWorld.S a0 a1 = ((-1)) := by simp only [laws_szWorld.S, h1, cond_true, cond_false]
    rw [e] at hK
    exact hK
  · have e : laws_szWorld.S a0 a1 = ((laws_szChainS.S a0 a1)) := by simp only [laws_szWorld.S, h1, cond_true, cond_false]
    rw [e] at hK
    exact hK
theorem laws_szWorld.good : Good Try.prog laws_szWorld.c :=
  vgood (sh := []) (LL := []) (consG laws_szChainS.good noG) (fn := Try.f12) (by kernel_rfl) (by kernel_rfl) (by rw [show loopsOf (bodyOf Try.f12) = [] from by kernel_rfl]; exact noL rfl) fun s hp hf => by
    refine Eq.mpr (laws_szWorld.w (s.1) (s.2.1) _) ?_
    exact laws_szWorld.v _ _ hf (fun r bs' => And (r = (laws_szWorld.c.out s).1) (bs' = (laws_szWorld.c.out s).2)) ⟨rfl, rfl⟩
end Hw
end Go.Proofs.Ytfboldbfbmmahaa
