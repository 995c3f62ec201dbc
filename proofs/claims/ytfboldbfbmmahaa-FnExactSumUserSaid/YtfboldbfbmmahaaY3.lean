/- Sizes: made by gen.py. -/
import Derived.Test.YtfboldbfbmmahaaY9
set_option linter.unusedVariables false
set_option linter.unusedSimpArgs false
set_option maxRecDepth 100000
set_option maxHeartbeats 400000
namespace Go.Proofs.Ytfboldbfbmmahaa
namespace Hw
open Go
noncomputable section
attribute [local irreducible] evFn evBody wrap wxor
def Zdn.S (a0 : List Int) (a1 : Int) : Int := bif decide ((wrap (a1 - (a0.length : Int))) < 0) then ((-1)) else (wrap (a1 - (a0.length : Int)))
def Zdn.enc (r : Int) : AV × List Blk := (.v (.c (.int r)), [])
def Zdn.L : ShL := sCons sInts (sCons sInt (sNil))
def Zdn.c : Ctr := vctr 81 Zdn.L none (fun s => Zdn.enc (Zdn.S s.1 s.2.1))
theorem Zdn.w (a0 : List Int) (a1 : Int) (K : AV → List Blk → Prop) : evFn (envS [] []) [] [] [] Try.f81 [] (Zdn.L.enc (a0, (a1, ()))) K = (And (Imp ((decide ((wrap (a1 - (a0.length : Int))) < 0)) = true) (K (.v (.c (.int (-1)))) ([]))) (Imp ((decide ((wrap (a1 - (a0.length : Int))) < 0)) = false) (K (.v (.c (.int (wrap (a1 - (a0.length : Int)))))) ([])))) := by kernel_rfl
theorem Zdn.v (a0 : List Int) (a1 : Int) (hf : (a0.length : Int) ≤ 9223372036854775807 ∧ True ∧ True) (K : AV → List Blk → Prop) (hK : K (Zdn.enc (Zdn.S a0 a1)).1 (Zdn.enc (Zdn.S a0 a1)).2) : And (Imp ((decide ((wrap (a1 - (a0.length : Int))) < 0)) = true) (K (.v (.c (.int (-1)))) ([]))) (Imp ((decide ((wrap (a1 - (a0.length : Int))) < 0)) = false) (K (.v (.c (.int (wrap (a1 - (a0.length : Int)))))) ([]))) := by
  obtain ⟨f0, -, -⟩ := hf
  try simp only [big] at *
  refine ⟨fun h1 => ?_, fun h1 => ?_⟩
  · have e : Zdn.S a0 a1 = ((-1)) := by unfold Zdn.S; exact (cond_t h1).trans <| rfl
    rw [e] at hK
    exact hK
  · have e : Zdn.S a0 a1 = (wrap (a1 - (a0.length : Int))) := by unfold Zdn.S; exact (cond_f h1).trans <| rfl
    rw [e] at hK
    exact hK
theorem Zdn.good : Good Try.prog Zdn.c :=
  vgood (sh := []) (sp := []) (LL := []) noG (fn := Try.f81) (by kernel_rfl) (by kernel_rfl) (by rw [show loopsOf (bodyOf Try.f81) = [] from by kernel_rfl]; exact noL rfl) fun s hp hf => by
    exact Eq.mpr (Zdn.w (s.1) (s.2.1) (fun r bs' => And (r = (Zdn.c.out s).1) (bs' = (Zdn.c.out s).2))) (Zdn.v (s.1) (s.2.1) hf (fun r bs' => And (r = (Zdn.c.out s).1) (bs' = (Zdn.c.out s).2)) ⟨rfl, rfl⟩)
def Zdo.S (a0 : Bk) (a1 : Int) : Int := bif decide ((Zdn.S a0.own a1) < 0) then ((-1)) else bif decide ((Zdn.S a0.notes (Zdn.S a0.own a1)) < 0) then ((-1)) else ((Zdn.S a0.notes (Zdn.S a0.own a1)))
def Zdo.enc (r : Int) : AV × List Blk := (.v (.c (.int r)), [])
def Zdo.L : ShL := sCons sBk (sCons sInt (sNil))
def Zdo.c : Ctr := vctr 78 Zdo.L none (fun s => Zdo.enc (Zdo.S s.1 s.2.1))
theorem Zdo.w (a0 : Bk) (a1 : Int) (K : AV → List Blk → Prop) : evFn (envS [Zdn.c] []) [] [] [] Try.f78 [] (Zdo.L.enc (a0, (a1, ()))) K = (And (Imp ((decide ((Zdn.S a0.own a1) < 0)) = true) (K (.v (.c (.int (-1)))) ([]))) (Imp ((decide ((Zdn.S a0.own a1) < 0)) = false) (And (Imp ((decide ((Zdn.S a0.notes (Zdn.S a0.own a1)) < 0)) = true) (K (.v (.c (.int (-1)))) ([]))) (Imp ((decide ((Zdn.S a0.notes (Zdn.S a0.own a1)) < 0)) = false) (K (.v (.c (.int (Zdn.S a0.notes (Zdn.S a0.own a1))))) ([])))))) := by kernel_rfl
theorem Zdo.v (a0 : Bk) (a1 : Int) (hf : Bk.fact a0 ∧ True ∧ True) (K : AV → List Blk → Prop) (hK : K (Zdo.enc (Zdo.S a0 a1)).1 (Zdo.enc (Zdo.S a0 a1)).2) : And (Imp ((decide ((Zdn.S a0.own a1) < 0)) = true) (K (.v (.c (.int (-1)))) ([]))) (Imp ((decide ((Zdn.S a0.own a1) < 0)) = false) (And (Imp ((decide ((Zdn.S a0.notes (Zdn.S a0.own a1)) < 0)) = true) (K (.v (.c (.int (-1)))) ([]))) (Imp ((decide ((Zdn.S a0.notes (Zdn.S a0.own a1)) < 0)) = false) (K (.v (.c (.int (Zdn.S a0.notes (Zdn.S a0.own a1))))) ([]))))) := by
  obtain ⟨f0, -, -⟩ := hf
  obtain ⟨f0_0, f0_1⟩ := f0
  try simp only [big] at *
  refine ⟨fun h1 => ?_, fun h1 => ?_⟩
  · have e : Zdo.S a0 a1 = ((-1)) := by unfold Zdo.S; exact (cond_t h1).trans <| rfl
    rw [e] at hK
    exact hK
  · refine ⟨fun h2 => ?_, fun h2 => ?_⟩
    · have e : Zdo.S a0 a1 = ((-1)) := by unfold Zdo.S; exact (cond_f h1).trans <| (cond_t h2).trans <| rfl
      rw [e] at hK
      exact hK
    · have e : Zdo.S a0 a1 = ((Zdn.S a0.notes (Zdn.S a0.own a1))) := by unfold Zdo.S; exact (cond_f h1).trans <| (cond_f h2).trans <| rfl
      rw [e] at hK
      exact hK
theorem Zdo.good : Good Try.prog Zdo.c :=
  vgood (sh := []) (sp := []) (LL := []) (consG Zdn.good noG) (fn := Try.f78) (by kernel_rfl) (by kernel_rfl) (by rw [show loopsOf (bodyOf Try.f78) = [] from by kernel_rfl]; exact noL rfl) fun s hp hf => by
    exact Eq.mpr (Zdo.w (s.1) (s.2.1) (fun r bs' => And (r = (Zdo.c.out s).1) (bs' = (Zdo.c.out s).2))) (Zdo.v (s.1) (s.2.1) hf (fun r bs' => And (r = (Zdo.c.out s).1) (bs' = (Zdo.c.out s).2)) ⟨rfl, rfl⟩)
def Zdp.S (a0 : List Pkt) (a1 : Int) : Int := bif decide ((wrap (a1 - (a0.length : Int))) < 0) then ((-1)) else (wrap (a1 - (a0.length : Int)))
def Zdp.enc (r : Int) : AV × List Blk := (.v (.c (.int r)), [])
def Zdp.L : ShL := sCons sPkts (sCons sInt (sNil))
def Zdp.c : Ctr := vctr 96 Zdp.L none (fun s => Zdp.enc (Zdp.S s.1 s.2.1))
theorem Zdp.w (a0 : List Pkt) (a1 : Int) (K : AV → List Blk → Prop) : evFn (envS [] []) [] [] [] Try.f96 [] (Zdp.L.enc (a0, (a1, ()))) K = (And (Imp ((decide ((wrap (a1 - (a0.length : Int))) < 0)) = true) (K (.v (.c (.int (-1)))) ([]))) (Imp ((decide ((wrap (a1 - (a0.length : Int))) < 0)) = false) (K (.v (.c (.int (wrap (a1 - (a0.length : Int)))))) ([])))) := by kernel_rfl
theorem Zdp.v (a0 : List Pkt) (a1 : Int) (hf : (a0.length : Int) ≤ 9223372036854775807 ∧ True ∧ True) (K : AV → List Blk → Prop) (hK : K (Zdp.enc (Zdp.S a0 a1)).1 (Zdp.enc (Zdp.S a0 a1)).2) : And (Imp ((decide ((wrap (a1 - (a0.length : Int))) < 0)) = true) (K (.v (.c (.int (-1)))) ([]))) (Imp ((decide ((wrap (a1 - (a0.length : Int))) < 0)) = false) (K (.v (.c (.int (wrap (a1 - (a0.length : Int)))))) ([]))) := by
  obtain ⟨f0, -, -⟩ := hf
  try simp only [big] at *
  refine ⟨fun h1 => ?_, fun h1 => ?_⟩
  · have e : Zdp.S a0 a1 = ((-1)) := by unfold Zdp.S; exact (cond_t h1).trans <| rfl
    rw [e] at hK
    exact hK
  · have e : Zdp.S a0 a1 = (wrap (a1 - (a0.length : Int))) := by unfold Zdp.S; exact (cond_f h1).trans <| rfl
    rw [e] at hK
    exact hK
theorem Zdp.good : Good Try.prog Zdp.c :=
  vgood (sh := []) (sp := []) (LL := []) noG (fn := Try.f96) (by kernel_rfl) (by kernel_rfl) (by rw [show loopsOf (bodyOf Try.f96) = [] from by kernel_rfl]; exact noL rfl) fun s hp hf => by
    exact Eq.mpr (Zdp.w (s.1) (s.2.1) (fun r bs' => And (r = (Zdp.c.out s).1) (bs' = (Zdp.c.out s).2))) (Zdp.v (s.1) (s.2.1) hf (fun r bs' => And (r = (Zdp.c.out s).1) (bs' = (Zdp.c.out s).2)) ⟨rfl, rfl⟩)
def Zdq.S (a0 : List Bool) (a1 : Int) : Int := bif decide ((wrap (a1 - (a0.length : Int))) < 0) then ((-1)) else (wrap (a1 - (a0.length : Int)))
def Zdq.enc (r : Int) : AV × List Blk := (.v (.c (.int r)), [])
def Zdq.L : ShL := sCons sBools (sCons sInt (sNil))
def Zdq.c : Ctr := vctr 97 Zdq.L none (fun s => Zdq.enc (Zdq.S s.1 s.2.1))
theorem Zdq.w (a0 : List Bool) (a1 : Int) (K : AV → List Blk → Prop) : evFn (envS [] []) [] [] [] Try.f97 [] (Zdq.L.enc (a0, (a1, ()))) K = (And (Imp ((decide ((wrap (a1 - (a0.length : Int))) < 0)) = true) (K (.v (.c (.int (-1)))) ([]))) (Imp ((decide ((wrap (a1 - (a0.length : Int))) < 0)) = false) (K (.v (.c (.int (wrap (a1 - (a0.length : Int)))))) ([])))) := by kernel_rfl
theorem Zdq.v (a0 : List Bool) (a1 : Int) (hf : (a0.length : Int) ≤ 9223372036854775807 ∧ True ∧ True) (K : AV → List Blk → Prop) (hK : K (Zdq.enc (Zdq.S a0 a1)).1 (Zdq.enc (Zdq.S a0 a1)).2) : And (Imp ((decide ((wrap (a1 - (a0.length : Int))) < 0)) = true) (K (.v (.c (.int (-1)))) ([]))) (Imp ((decide ((wrap (a1 - (a0.length : Int))) < 0)) = false) (K (.v (.c (.int (wrap (a1 - (a0.length : Int)))))) ([]))) := by
  obtain ⟨f0, -, -⟩ := hf
  try simp only [big] at *
  refine ⟨fun h1 => ?_, fun h1 => ?_⟩
  · have e : Zdq.S a0 a1 = ((-1)) := by unfold Zdq.S; exact (cond_t h1).trans <| rfl
    rw [e] at hK
    exact hK
  · have e : Zdq.S a0 a1 = (wrap (a1 - (a0.length : Int))) := by unfold Zdq.S; exact (cond_f h1).trans <| rfl
    rw [e] at hK
    exact hK
theorem Zdq.good : Good Try.prog Zdq.c :=
  vgood (sh := []) (sp := []) (LL := []) noG (fn := Try.f97) (by kernel_rfl) (by kernel_rfl) (by rw [show loopsOf (bodyOf Try.f97) = [] from by kernel_rfl]; exact noL rfl) fun s hp hf => by
    exact Eq.mpr (Zdq.w (s.1) (s.2.1) (fun r bs' => And (r = (Zdq.c.out s).1) (bs' = (Zdq.c.out s).2))) (Zdq.v (s.1) (s.2.1) hf (fun r bs' => And (r = (Zdq.c.out s).1) (bs' = (Zdq.c.out s).2)) ⟨rfl, rfl⟩)
def Zdr.S (a0 : St) (a1 : Int) : Int := bif decide ((Zdp.S a0.sent a1) < 0) then ((-1)) else bif decide ((Zdq.S a0.live (Zdp.S a0.sent a1)) < 0) then ((-1)) else bif decide ((Zdq.S a0.back (Zdq.S a0.live (Zdp.S a0.sent a1))) < 0) then ((-1)) else bif decide ((Zdn.S a0.got (Zdq.S a0.back (Zdq.S a0.live (Zdp.S a0.sent a1)))) < 0) then ((-1)) else ((Zdn.S a0.got (Zdq.S a0.back (Zdq.S a0.live (Zdp.S a0.sent a1)))))
def Zdr.enc (r : Int) : AV × List Blk := (.v (.c (.int r)), [])
def Zdr.L : ShL := sCons sSt (sCons sInt (sNil))
def Zdr.c : Ctr := vctr 79 Zdr.L none (fun s => Zdr.enc (Zdr.S s.1 s.2.1))
theorem Zdr.w (a0 : St) (a1 : Int) (K : AV → List Blk → Prop) : evFn (envS [Zdp.c, Zdq.c, Zdn.c] []) [] [] [] Try.f79 [] (Zdr.L.enc (a0, (a1, ()))) K = (And (Imp ((decide ((Zdp.S a0.sent a1) < 0)) = true) (K (.v (.c (.int (-1)))) ([]))) (Imp ((decide ((Zdp.S a0.sent a1) < 0)) = false) (And (Imp ((decide ((Zdq.S a0.live (Zdp.S a0.sent a1)) < 0)) = true) (K (.v (.c (.int (-1)))) ([]))) (Imp ((decide ((Zdq.S a0.live (Zdp.S a0.sent a1)) < 0)) = false) (And (Imp ((decide ((Zdq.S a0.back (Zdq.S a0.live (Zdp.S a0.sent a1))) < 0)) = true) (K (.v (.c (.int (-1)))) ([]))) (Imp ((decide ((Zdq.S a0.back (Zdq.S a0.live (Zdp.S a0.sent a1))) < 0)) = false) (And (Imp ((decide ((Zdn.S a0.got (Zdq.S a0.back (Zdq.S a0.live (Zdp.S a0.sent a1)))) < 0)) = true) (K (.v (.c (.int (-1)))) ([]))) (Imp ((decide ((Zdn.S a0.got (Zdq.S a0.back (Zdq.S a0.live (Zdp.S a0.sent a1)))) < 0)) = false) (K (.v (.c (.int (Zdn.S a0.got (Zdq.S a0.back (Zdq.S a0.live (Zdp.S a0.sent a1))))))) ([])))))))))) := by kernel_rfl
theorem Zdr.v (a0 : St) (a1 : Int) (hf : St.fact a0 ∧ True ∧ True) (K : AV → List Blk → Prop) (hK : K (Zdr.enc (Zdr.S a0 a1)).1 (Zdr.enc (Zdr.S a0 a1)).2) : And (Imp ((decide ((Zdp.S a0.sent a1) < 0)) = true) (K (.v (.c (.int (-1)))) ([]))) (Imp ((decide ((Zdp.S a0.sent a1) < 0)) = false) (And (Imp ((decide ((Zdq.S a0.live (Zdp.S a0.sent a1)) < 0)) = true) (K (.v (.c (.int (-1)))) ([]))) (Imp ((decide ((Zdq.S a0.live (Zdp.S a0.sent a1)) < 0)) = false) (And (Imp ((decide ((Zdq.S a0.back (Zdq.S a0.live (Zdp.S a0.sent a1))) < 0)) = true) (K (.v (.c (.int (-1)))) ([]))) (Imp ((decide ((Zdq.S a0.back (Zdq.S a0.live (Zdp.S a0.sent a1))) < 0)) = false) (And (Imp ((decide ((Zdn.S a0.got (Zdq.S a0.back (Zdq.S a0.live (Zdp.S a0.sent a1)))) < 0)) = true) (K (.v (.c (.int (-1)))) ([]))) (Imp ((decide ((Zdn.S a0.got (Zdq.S a0.back (Zdq.S a0.live (Zdp.S a0.sent a1)))) < 0)) = false) (K (.v (.c (.int (Zdn.S a0.got (Zdq.S a0.back (Zdq.S a0.live (Zdp.S a0.sent a1))))))) ([]))))))))) := by
  obtain ⟨f0, -, -⟩ := hf
  obtain ⟨f0_0, f0_1, f0_2, f0_3⟩ := f0
  try simp only [big] at *
  refine ⟨fun h1 => ?_, fun h1 => ?_⟩
  · have e : Zdr.S a0 a1 = ((-1)) := by unfold Zdr.S; exact (cond_t h1).trans <| rfl
    rw [e] at hK
    exact hK
  · refine ⟨fun h2 => ?_, fun h2 => ?_⟩
    · have e : Zdr.S a0 a1 = ((-1)) := by unfold Zdr.S; exact (cond_f h1).trans <| (cond_t h2).trans <| rfl
      rw [e] at hK
      exact hK
    · refine ⟨fun h3 => ?_, fun h3 => ?_⟩
      · have e : Zdr.S a0 a1 = ((-1)) := by unfold Zdr.S; exact (cond_f h1).trans <| (cond_f h2).trans <| (cond_t h3).trans <| rfl
        rw [e] at hK
        exact hK
      · refine ⟨fun h4 => ?_, fun h4 => ?_⟩
        · have e : Zdr.S a0 a1 = ((-1)) := by unfold Zdr.S; exact (cond_f h1).trans <| (cond_f h2).trans <| (cond_f h3).trans <| (cond_t h4).trans <| rfl
          rw [e] at hK
          exact hK
        · have e : Zdr.S a0 a1 = ((Zdn.S a0.got (Zdq.S a0.back (Zdq.S a0.live (Zdp.S a0.sent a1))))) := by unfold Zdr.S; exact (cond_f h1).trans <| (cond_f h2).trans <| (cond_f h3).trans <| (cond_f h4).trans <| rfl
          rw [e] at hK
          exact hK
theorem Zdr.good : Good Try.prog Zdr.c :=
  vgood (sh := []) (sp := []) (LL := []) (consG Zdp.good (consG Zdq.good (consG Zdn.good noG))) (fn := Try.f79) (by kernel_rfl) (by kernel_rfl) (by rw [show loopsOf (bodyOf Try.f79) = [] from by kernel_rfl]; exact noL rfl) fun s hp hf => by
    exact Eq.mpr (Zdr.w (s.1) (s.2.1) (fun r bs' => And (r = (Zdr.c.out s).1) (bs' = (Zdr.c.out s).2))) (Zdr.v (s.1) (s.2.1) hf (fun r bs' => And (r = (Zdr.c.out s).1) (bs' = (Zdr.c.out s).2)) ⟨rfl, rfl⟩)
def Zds.S : Nat → (List St) → Int → Int → Int → Nat × Int × Int × Int × Unit
  | 0, _, _, _, _ => (0, (0, (0, (0, ()))))
  | n + 1, y0, y1, y2, y3 => bif decide (y3 < (y0.length : Int)) then bif decide ((Zdr.S (y0.getD (y3).toNat zSt) y1) < 0) then (0, ((Zdr.S (y0.getD (y3).toNat zSt) y1), ((-1), (y3, ())))) else Zds.S n y0 (Zdr.S (y0.getD (y3).toNat zSt) y1) y2 (wrap (y3 + 1)) else (1, (y1, (y3, (0, ()))))
def Zds.M (y0 : List St) (y1 : Int) (y2 : Int) (y3 : Int) : Nat := ((y0.length : Int) - y3).toNat
def Zds.R (y0 : List St) (y1 : Int) (y2 : Int) (y3 : Int) : Nat × Int × Int × Int × Unit := Zds.S (Zds.M y0 y1 y2 y3 + 1) y0 y1 y2 y3
def Zds.P (y0 : List St) (y1 : Int) (y2 : Int) (y3 : Int) : Prop := (0 ≤ y3) ∧ ((y0.length : Int) ≤ 9223372036854775807) ∧ (stsFact y0)
def Zds.L : FL := fCons (fC (cArr false kSts)) (fCons (fC cInt) (fCons (fC cInt) (fCons (fC cInt) (fNil))))
def Zds.o0 (y0 : List St) (y1 : Int) (y2 : Int) (y3 : Int) (r : Nat × Int × Int × Int × Unit) : Ex × List FV × List Blk := (.ret, [.c (.arr false (.sts y0)), .c (.int r.2.1), .c (.int r.2.2.1), .c (.int r.2.2.2.1)], [])
def Zds.o1 (y0 : List St) (y1 : Int) (y2 : Int) (y3 : Int) (r : Nat × Int × Int × Int × Unit) : Ex × List FV × List Blk := (.exit 0, [.c (.arr false (.sts y0)), .c (.int r.2.1), .c (.int y2), .c (.int r.2.2.1)], [])
def Zds.o (y0 : List St) (y1 : Int) (y2 : Int) (y3 : Int) (r : Nat × Int × Int × Int × Unit) : Ex × List FV × List Blk := pickAlt [(Nat.beq r.1 0, Zds.o0 y0 y1 y2 y3 r)] (Zds.o1 y0 y1 y2 y3 r)
def Zds.d : LDat := ldat 5 [0, 1, 4, 5] [] Zds.L (fun s => Zds.P s.1 s.2.1 s.2.2.1 s.2.2.2.1) (fun s => [(Nat.beq (Zds.R s.1 s.2.1 s.2.2.1 s.2.2.2.1).1 0, Zds.o0 s.1 s.2.1 s.2.2.1 s.2.2.2.1 (Zds.R s.1 s.2.1 s.2.2.1 s.2.2.2.1))]) (fun s => Zds.o1 s.1 s.2.1 s.2.2.1 s.2.2.2.1 (Zds.R s.1 s.2.1 s.2.2.1 s.2.2.2.1)) (fun s => Zds.M s.1 s.2.1 s.2.2.1 s.2.2.2.1)
def Zdt.S (a0 : List St) (a1 : Int) : Int := bif decide ((wrap (a1 - (a0.length : Int))) < 0) then ((-1)) else bif Nat.beq (Zds.R a0 (wrap (a1 - (a0.length : Int))) 0 0).1 0 then ((Zds.R a0 (wrap (a1 - (a0.length : Int))) 0 0).2.2.1) else ((Zds.R a0 (wrap (a1 - (a0.length : Int))) 0 0).2.1)
def Zdt.enc (r : Int) : AV × List Blk := (.v (.c (.int r)), [])
def Zdt.L : ShL := sCons sSts (sCons sInt (sNil))
def Zdt.c : Ctr := vctr 80 Zdt.L none (fun s => Zdt.enc (Zdt.S s.1 s.2.1))
theorem Zds.w (y0 : List St) (y1 : Int) (y2 : Int) (y3 : Int) : evBody (envS [Zdr.c] []) [] (bodyAt Try.f80 0) Zds.d (y0, (y1, (y2, (y3, ())))) = (And (Imp ((decide (y3 < (y0.length : Int))) = true) (And ((0 : Int) ≤ y3 ∧ y3 < (y0.length : Int)) (And (Imp ((decide ((Zdr.S (y0.getD (y3).toNat zSt) y1) < 0)) = true) (Zds.o y0 y1 y2 y3 (Zds.R y0 y1 y2 y3) = (.ret, [.c (.arr false (.sts y0)), .c (.int (Zdr.S (y0.getD (y3).toNat zSt) y1)), .c (.int (-1)), .c (.int y3)], []))) (Imp ((decide ((Zdr.S (y0.getD (y3).toNat zSt) y1) < 0)) = false) (And (Zds.P y0 (Zdr.S (y0.getD (y3).toNat zSt) y1) y2 (wrap (y3 + 1))) (And (Zds.M y0 (Zdr.S (y0.getD (y3).toNat zSt) y1) y2 (wrap (y3 + 1)) < Zds.M y0 y1 y2 y3) (Zds.o y0 (Zdr.S (y0.getD (y3).toNat zSt) y1) y2 (wrap (y3 + 1)) (Zds.R y0 (Zdr.S (y0.getD (y3).toNat zSt) y1) y2 (wrap (y3 + 1))) = Zds.o y0 y1 y2 y3 (Zds.R y0 y1 y2 y3)))))))) (Imp ((decide (y3 < (y0.length : Int))) = false) (Zds.o y0 y1 y2 y3 (Zds.R y0 y1 y2 y3) = (.exit 0, [.c (.arr false (.sts y0)), .c (.int y1), .c (.int y2), .c (.int y3)], [])))) := by kernel_rfl
theorem Zds.v (y0 : List St) (y1 : Int) (y2 : Int) (y3 : Int) (hp : Zds.P y0 y1 y2 y3) : And (Imp ((decide (y3 < (y0.length : Int))) = true) (And ((0 : Int) ≤ y3 ∧ y3 < (y0.length : Int)) (And (Imp ((decide ((Zdr.S (y0.getD (y3).toNat zSt) y1) < 0)) = true) (Zds.o y0 y1 y2 y3 (Zds.R y0 y1 y2 y3) = (.ret, [.c (.arr false (.sts y0)), .c (.int (Zdr.S (y0.getD (y3).toNat zSt) y1)), .c (.int (-1)), .c (.int y3)], []))) (Imp ((decide ((Zdr.S (y0.getD (y3).toNat zSt) y1) < 0)) = false) (And (Zds.P y0 (Zdr.S (y0.getD (y3).toNat zSt) y1) y2 (wrap (y3 + 1))) (And (Zds.M y0 (Zdr.S (y0.getD (y3).toNat zSt) y1) y2 (wrap (y3 + 1)) < Zds.M y0 y1 y2 y3) (Zds.o y0 (Zdr.S (y0.getD (y3).toNat zSt) y1) y2 (wrap (y3 + 1)) (Zds.R y0 (Zdr.S (y0.getD (y3).toNat zSt) y1) y2 (wrap (y3 + 1))) = Zds.o y0 y1 y2 y3 (Zds.R y0 y1 y2 y3)))))))) (Imp ((decide (y3 < (y0.length : Int))) = false) (Zds.o y0 y1 y2 y3 (Zds.R y0 y1 y2 y3) = (.exit 0, [.c (.arr false (.sts y0)), .c (.int y1), .c (.int y2), .c (.int y3)], []))) := by
  simp only [Zds.P] at hp
  obtain ⟨p0, p1, p2⟩ := hp
  refine ⟨fun h1 => ?_, fun h1 => ?_⟩
  · refine ⟨by first | exact True.intro | assumption | omega | grind [wrap_id, sts_1, sts_2], ?_⟩
    refine ⟨fun h2 => ?_, fun h2 => ?_⟩
    · have e : Zds.R y0 y1 y2 y3 = (0, ((Zdr.S (y0.getD (y3).toNat zSt) y1), ((-1), (y3, ())))) := by unfold Zds.R; rw [Zds.S]; exact (cond_t h1).trans <| (cond_t h2).trans <| rfl
      rw [e]
      rfl
    · have hμ : Zds.M y0 y1 y2 y3 = Zds.M y0 (Zdr.S (y0.getD (y3).toNat zSt) y1) y2 (wrap (y3 + 1)) + 1 := by simp only [Zds.M]; first | omega | grind [wrap_id]
      refine ⟨by simp only [Zds.P]; refine ⟨(by first | exact True.intro | assumption | omega | grind [wrap_id, sts_1, sts_2]), (by first | exact True.intro | assumption | omega | grind [wrap_id, sts_1, sts_2]), (by first | exact True.intro | assumption | omega | grind [wrap_id, sts_1, sts_2])⟩, by omega, ?_⟩
      have e : Zds.R y0 y1 y2 y3 = Zds.R y0 (Zdr.S (y0.getD (y3).toNat zSt) y1) y2 (wrap (y3 + 1)) := by
        have e1 : Zds.R y0 y1 y2 y3 = Zds.S (Zds.M y0 y1 y2 y3) y0 (Zdr.S (y0.getD (y3).toNat zSt) y1) y2 (wrap (y3 + 1)) := by unfold Zds.R; rw [Zds.S]; exact (cond_t h1).trans <| (cond_f h2).trans <| rfl
        rw [e1, hμ]
        rfl
      rw [e]
      rfl
  · have e : Zds.R y0 y1 y2 y3 = (1, (y1, (y3, (0, ())))) := by unfold Zds.R; rw [Zds.S]; exact (cond_f h1).trans <| rfl
    rw [e]
    rfl
theorem Zds.g (hG : ∀ c ∈ [Zdr.c], Good Try.prog c) : LGood Try.prog Try.f80.ntmps Zds.d.ctr (bodyAt Try.f80 0) := by
  refine lgoodS (sp := []) (LL := []) hG (by kernel_rfl) (by rw [show loopsOf (bodyAt Try.f80 0) = [] from by kernel_rfl]; exact noL rfl) fun s hp => ?_
  refine Eq.mpr (Zds.w s.1 s.2.1 s.2.2.1 s.2.2.2.1) ?_
  replace hp : Zds.P s.1 s.2.1 s.2.2.1 s.2.2.2.1 := hp
  exact Zds.v _ _ _ _ hp
def Zds.E (y0 : List St) (y2 : Int) (k : Nat) (a : Int) : Option (Nat × Int × Int × Int × Unit) := bif decide ((Zdr.S (y0.getD k zSt) a) < 0) then some (0, ((Zdr.S (y0.getD k zSt) a), ((-1), ((k : Int), ())))) else none
def Zds.A (y0 : List St) (y2 : Int) (k : Nat) (a : Int) : Int := bif decide ((Zdr.S (y0.getD k zSt) a) < 0) then a else ((Zdr.S (y0.getD k zSt) a))
def Zds.fin (y0 : List St) (y2 : Int) (k : Nat) (a : Int) : Nat × Int × Int × Int × Unit := (1, (a, ((k : Int), (0, ()))))
def Zds.acc (y0 : List St) (y2 : Int) (a : Int) : Nat → Int
  | 0 => a
  | k + 1 => Zds.A y0 y2 k (Zds.acc y0 y2 a k)
theorem Zds.law (y0 : List St) (y2 : Int) (a : Int) (n : Nat) (hT : (y0.length : Int) = (n : Int)) (hn : (n : Int) ≤ 9223372036854775807) :
    ((∀ k, k < n → Zds.E y0 y2 k (Zds.acc y0 y2 a k) = none) ∧ Zds.R y0 a y2 0 = Zds.fin y0 y2 n (Zds.acc y0 y2 a n)) ∨ (∃ k r, k < n ∧ Zds.E y0 y2 k (Zds.acc y0 y2 a k) = some r ∧ (∀ j, j < k → Zds.E y0 y2 j (Zds.acc y0 y2 a j) = none) ∧ Zds.R y0 a y2 0 = r) := by
  have hM : Zds.M y0 a y2 0 + 1 = n + 1 := by simp only [Zds.M]; omega
  unfold Zds.R
  rw [hM]
  refine loopE (fun m i b => Zds.S m y0 b y2 i) n hn (Zds.acc y0 y2 a) (Zds.E y0 y2 ) (Zds.fin y0 y2 ) fun m k hk => ?_
  have ha : Zds.acc y0 y2 a (k + 1) = Zds.A y0 y2 k (Zds.acc y0 y2 a k) := rfl
  rw [ha]
  generalize Zds.acc y0 y2 a k = b
  simp only [Zds.S, Zds.E, Zds.A, Zds.fin, hT, Int.toNat_natCast]
  all_goals grind
theorem Zdt.w (a0 : List St) (a1 : Int) (K : AV → List Blk → Prop) : evFn (envS [Zdr.c] []) [Zds.d.ctr] [] [] Try.f80 [] (Zdt.L.enc (a0, (a1, ()))) K = (And (Imp ((decide ((wrap (a1 - (a0.length : Int))) < 0)) = true) (K (.v (.c (.int (-1)))) ([]))) (Imp ((decide ((wrap (a1 - (a0.length : Int))) < 0)) = false) (And (Zds.P a0 (wrap (a1 - (a0.length : Int))) 0 0) (And (Imp (Nat.beq (Zds.R a0 (wrap (a1 - (a0.length : Int))) 0 0).1 0 = true) (K (.v (.c (.int (Zds.R a0 (wrap (a1 - (a0.length : Int))) 0 0).2.2.1))) ([]))) (Imp (Nat.beq (Zds.R a0 (wrap (a1 - (a0.length : Int))) 0 0).1 0 = false) (K (.v (.c (.int (Zds.R a0 (wrap (a1 - (a0.length : Int))) 0 0).2.1))) ([]))))))) := by kernel_rfl
theorem Zdt.v (a0 : List St) (a1 : Int) (hf : stsFact a0 ∧ True ∧ True) (K : AV → List Blk → Prop) (hK : K (Zdt.enc (Zdt.S a0 a1)).1 (Zdt.enc (Zdt.S a0 a1)).2) : And (Imp ((decide ((wrap (a1 - (a0.length : Int))) < 0)) = true) (K (.v (.c (.int (-1)))) ([]))) (Imp ((decide ((wrap (a1 - (a0.length : Int))) < 0)) = false) (And (Zds.P a0 (wrap (a1 - (a0.length : Int))) 0 0) (And (Imp (Nat.beq (Zds.R a0 (wrap (a1 - (a0.length : Int))) 0 0).1 0 = true) (K (.v (.c (.int (Zds.R a0 (wrap (a1 - (a0.length : Int))) 0 0).2.2.1))) ([]))) (Imp (Nat.beq (Zds.R a0 (wrap (a1 - (a0.length : Int))) 0 0).1 0 = false) (K (.v (.c (.int (Zds.R a0 (wrap (a1 - (a0.length : Int))) 0 0).2.1))) ([])))))) := by
  obtain ⟨f0, -, -⟩ := hf
  try simp only [big] at *
  refine ⟨fun h1 => ?_, fun h1 => ?_⟩
  · have e : Zdt.S a0 a1 = ((-1)) := by unfold Zdt.S; exact (cond_t h1).trans <| rfl
    rw [e] at hK
    exact hK
  · refine ⟨by simp only [Zds.P]; refine ⟨(by clear hK; first | exact True.intro | assumption | omega | grind [wrap_id, sts_1, sts_2]), (by clear hK; first | exact True.intro | assumption | omega | grind [wrap_id, sts_1, sts_2]), (by clear hK; first | exact True.intro | assumption | omega | grind [wrap_id, sts_1, sts_2])⟩, ?_⟩
    refine ⟨fun h2 => ?_, fun h2 => ?_⟩
    · have e : Zdt.S a0 a1 = ((Zds.R a0 (wrap (a1 - (a0.length : Int))) 0 0).2.2.1) := by unfold Zdt.S; exact (cond_f h1).trans <| (cond_t h2).trans <| rfl
      rw [e] at hK
      exact hK
    · have e : Zdt.S a0 a1 = ((Zds.R a0 (wrap (a1 - (a0.length : Int))) 0 0).2.1) := by unfold Zdt.S; exact (cond_f h1).trans <| (cond_f h2).trans <| rfl
      rw [e] at hK
      exact hK
theorem Zdt.good : Good Try.prog Zdt.c :=
  vgood (sh := []) (sp := []) (LL := [Zds.d.ctr]) (consG Zdr.good noG) (fn := Try.f80) (by kernel_rfl) (by kernel_rfl) (by rw [show loopsOf (bodyOf Try.f80) = [(bodyAt Try.f80 0)] from by kernel_rfl]; exact consL (l := Zds.d.ctr) (by kernel_rfl) (Zds.g (consG Zdr.good noG)) (noL rfl)) fun s hp hf => by
    exact Eq.mpr (Zdt.w (s.1) (s.2.1) (fun r bs' => And (r = (Zdt.c.out s).1) (bs' = (Zdt.c.out s).2))) (Zdt.v (s.1) (s.2.1) hf (fun r bs' => And (r = (Zdt.c.out s).1) (bs' = (Zdt.c.out s).2)) ⟨rfl, rfl⟩)
def Zdu.S (a0 : Ch) (a1 : Int) : Int := bif decide ((Zdo.S a0.bank a1) < 0) then ((-1)) else bif decide ((Zdr.S a0.st (Zdo.S a0.bank a1)) < 0) then ((-1)) else bif decide ((Zdt.S a0.past (Zdr.S a0.st (Zdo.S a0.bank a1))) < 0) then ((-1)) else bif decide ((Zdn.S a0.knows (Zdt.S a0.past (Zdr.S a0.st (Zdo.S a0.bank a1)))) < 0) then ((-1)) else ((Zdn.S a0.knows (Zdt.S a0.past (Zdr.S a0.st (Zdo.S a0.bank a1)))))
def Zdu.enc (r : Int) : AV × List Blk := (.v (.c (.int r)), [])
def Zdu.L : ShL := sCons sCh (sCons sInt (sNil))
def Zdu.c : Ctr := vctr 67 Zdu.L none (fun s => Zdu.enc (Zdu.S s.1 s.2.1))
theorem Zdu.w (a0 : Ch) (a1 : Int) (K : AV → List Blk → Prop) : evFn (envS [Zdo.c, Zdr.c, Zdt.c, Zdn.c] []) [] [] [] Try.f67 [] (Zdu.L.enc (a0, (a1, ()))) K = (And (Imp ((decide ((Zdo.S a0.bank a1) < 0)) = true) (K (.v (.c (.int (-1)))) ([]))) (Imp ((decide ((Zdo.S a0.bank a1) < 0)) = false) (And (Imp ((decide ((Zdr.S a0.st (Zdo.S a0.bank a1)) < 0)) = true) (K (.v (.c (.int (-1)))) ([]))) (Imp ((decide ((Zdr.S a0.st (Zdo.S a0.bank a1)) < 0)) = false) (And (Imp ((decide ((Zdt.S a0.past (Zdr.S a0.st (Zdo.S a0.bank a1))) < 0)) = true) (K (.v (.c (.int (-1)))) ([]))) (Imp ((decide ((Zdt.S a0.past (Zdr.S a0.st (Zdo.S a0.bank a1))) < 0)) = false) (And (Imp ((decide ((Zdn.S a0.knows (Zdt.S a0.past (Zdr.S a0.st (Zdo.S a0.bank a1)))) < 0)) = true) (K (.v (.c (.int (-1)))) ([]))) (Imp ((decide ((Zdn.S a0.knows (Zdt.S a0.past (Zdr.S a0.st (Zdo.S a0.bank a1)))) < 0)) = false) (K (.v (.c (.int (Zdn.S a0.knows (Zdt.S a0.past (Zdr.S a0.st (Zdo.S a0.bank a1))))))) ([])))))))))) := by kernel_rfl
theorem Zdu.v (a0 : Ch) (a1 : Int) (hf : Ch.fact a0 ∧ True ∧ True) (K : AV → List Blk → Prop) (hK : K (Zdu.enc (Zdu.S a0 a1)).1 (Zdu.enc (Zdu.S a0 a1)).2) : And (Imp ((decide ((Zdo.S a0.bank a1) < 0)) = true) (K (.v (.c (.int (-1)))) ([]))) (Imp ((decide ((Zdo.S a0.bank a1) < 0)) = false) (And (Imp ((decide ((Zdr.S a0.st (Zdo.S a0.bank a1)) < 0)) = true) (K (.v (.c (.int (-1)))) ([]))) (Imp ((decide ((Zdr.S a0.st (Zdo.S a0.bank a1)) < 0)) = false) (And (Imp ((decide ((Zdt.S a0.past (Zdr.S a0.st (Zdo.S a0.bank a1))) < 0)) = true) (K (.v (.c (.int (-1)))) ([]))) (Imp ((decide ((Zdt.S a0.past (Zdr.S a0.st (Zdo.S a0.bank a1))) < 0)) = false) (And (Imp ((decide ((Zdn.S a0.knows (Zdt.S a0.past (Zdr.S a0.st (Zdo.S a0.bank a1)))) < 0)) = true) (K (.v (.c (.int (-1)))) ([]))) (Imp ((decide ((Zdn.S a0.knows (Zdt.S a0.past (Zdr.S a0.st (Zdo.S a0.bank a1)))) < 0)) = false) (K (.v (.c (.int (Zdn.S a0.knows (Zdt.S a0.past (Zdr.S a0.st (Zdo.S a0.bank a1))))))) ([]))))))))) := by
  obtain ⟨f0, -, -⟩ := hf
  obtain ⟨⟨f0_0, f0_1⟩, ⟨f0_2, f0_3, f0_4, f0_5⟩, f0_6, f0_7⟩ := f0
  try simp only [big] at *
  refine ⟨fun h1 => ?_, fun h1 => ?_⟩
  · have e : Zdu.S a0 a1 = ((-1)) := by unfold Zdu.S; exact (cond_t h1).trans <| rfl
    rw [e] at hK
    exact hK
  · refine ⟨fun h2 => ?_, fun h2 => ?_⟩
    · have e : Zdu.S a0 a1 = ((-1)) := by unfold Zdu.S; exact (cond_f h1).trans <| (cond_t h2).trans <| rfl
      rw [e] at hK
      exact hK
    · refine ⟨fun h3 => ?_, fun h3 => ?_⟩
      · have e : Zdu.S a0 a1 = ((-1)) := by unfold Zdu.S; exact (cond_f h1).trans <| (cond_f h2).trans <| (cond_t h3).trans <| rfl
        rw [e] at hK
        exact hK
      · refine ⟨fun h4 => ?_, fun h4 => ?_⟩
        · have e : Zdu.S a0 a1 = ((-1)) := by unfold Zdu.S; exact (cond_f h1).trans <| (cond_f h2).trans <| (cond_f h3).trans <| (cond_t h4).trans <| rfl
          rw [e] at hK
          exact hK
        · have e : Zdu.S a0 a1 = ((Zdn.S a0.knows (Zdt.S a0.past (Zdr.S a0.st (Zdo.S a0.bank a1))))) := by unfold Zdu.S; exact (cond_f h1).trans <| (cond_f h2).trans <| (cond_f h3).trans <| (cond_f h4).trans <| rfl
          rw [e] at hK
          exact hK
theorem Zdu.good : Good Try.prog Zdu.c :=
  vgood (sh := []) (sp := []) (LL := []) (consG Zdo.good (consG Zdr.good (consG Zdt.good (consG Zdn.good noG)))) (fn := Try.f67) (by kernel_rfl) (by kernel_rfl) (by rw [show loopsOf (bodyOf Try.f67) = [] from by kernel_rfl]; exact noL rfl) fun s hp hf => by
    exact Eq.mpr (Zdu.w (s.1) (s.2.1) (fun r bs' => And (r = (Zdu.c.out s).1) (bs' = (Zdu.c.out s).2))) (Zdu.v (s.1) (s.2.1) hf (fun r bs' => And (r = (Zdu.c.out s).1) (bs' = (Zdu.c.out s).2)) ⟨rfl, rfl⟩)
def Zdv.S : Nat → (List Ch) → Int → Int → Int → Nat × Int × Int × Int × Unit
  | 0, _, _, _, _ => (0, (0, (0, (0, ()))))
  | n + 1, y0, y1, y2, y3 => bif decide (y3 < (y0.length : Int)) then bif decide ((Zdu.S (y0.getD (y3).toNat zCh) y1) < 0) then (0, ((Zdu.S (y0.getD (y3).toNat zCh) y1), ((-1), (y3, ())))) else Zdv.S n y0 (Zdu.S (y0.getD (y3).toNat zCh) y1) y2 (wrap (y3 + 1)) else (1, (y1, (y3, (0, ()))))
def Zdv.M (y0 : List Ch) (y1 : Int) (y2 : Int) (y3 : Int) : Nat := ((y0.length : Int) - y3).toNat
def Zdv.R (y0 : List Ch) (y1 : Int) (y2 : Int) (y3 : Int) : Nat × Int × Int × Int × Unit := Zdv.S (Zdv.M y0 y1 y2 y3 + 1) y0 y1 y2 y3
def Zdv.P (y0 : List Ch) (y1 : Int) (y2 : Int) (y3 : Int) : Prop := (0 ≤ y3) ∧ ((y0.length : Int) ≤ 9223372036854775807) ∧ (chsFact y0)
def Zdv.L : FL := fCons (fC (cArr false kChs)) (fCons (fC cInt) (fCons (fC cInt) (fCons (fC cInt) (fNil))))
def Zdv.o0 (y0 : List Ch) (y1 : Int) (y2 : Int) (y3 : Int) (r : Nat × Int × Int × Int × Unit) : Ex × List FV × List Blk := (.ret, [.c (.arr false (.chs y0)), .c (.int r.2.1), .c (.int r.2.2.1), .c (.int r.2.2.2.1)], [])
def Zdv.o1 (y0 : List Ch) (y1 : Int) (y2 : Int) (y3 : Int) (r : Nat × Int × Int × Int × Unit) : Ex × List FV × List Blk := (.exit 0, [.c (.arr false (.chs y0)), .c (.int r.2.1), .c (.int y2), .c (.int r.2.2.1)], [])
def Zdv.o (y0 : List Ch) (y1 : Int) (y2 : Int) (y3 : Int) (r : Nat × Int × Int × Int × Unit) : Ex × List FV × List Blk := pickAlt [(Nat.beq r.1 0, Zdv.o0 y0 y1 y2 y3 r)] (Zdv.o1 y0 y1 y2 y3 r)
def Zdv.d : LDat := ldat 5 [0, 1, 4, 5] [] Zdv.L (fun s => Zdv.P s.1 s.2.1 s.2.2.1 s.2.2.2.1) (fun s => [(Nat.beq (Zdv.R s.1 s.2.1 s.2.2.1 s.2.2.2.1).1 0, Zdv.o0 s.1 s.2.1 s.2.2.1 s.2.2.2.1 (Zdv.R s.1 s.2.1 s.2.2.1 s.2.2.2.1))]) (fun s => Zdv.o1 s.1 s.2.1 s.2.2.1 s.2.2.2.1 (Zdv.R s.1 s.2.1 s.2.2.1 s.2.2.2.1)) (fun s => Zdv.M s.1 s.2.1 s.2.2.1 s.2.2.2.1)
def Zdw.S (a0 : List Ch) (a1 : Int) : Int := bif decide ((wrap (a1 - (a0.length : Int))) < 0) then ((-1)) else bif Nat.beq (Zdv.R a0 (wrap (a1 - (a0.length : Int))) 0 0).1 0 then ((Zdv.R a0 (wrap (a1 - (a0.length : Int))) 0 0).2.2.1) else ((Zdv.R a0 (wrap (a1 - (a0.length : Int))) 0 0).2.1)
def Zdw.enc (r : Int) : AV × List Blk := (.v (.c (.int r)), [])
def Zdw.L : ShL := sCons sChs (sCons sInt (sNil))
def Zdw.c : Ctr := vctr 40 Zdw.L none (fun s => Zdw.enc (Zdw.S s.1 s.2.1))
theorem Zdv.w (y0 : List Ch) (y1 : Int) (y2 : Int) (y3 : Int) : evBody (envS [Zdu.c] []) [] (bodyAt Try.f40 0) Zdv.d (y0, (y1, (y2, (y3, ())))) = (And (Imp ((decide (y3 < (y0.length : Int))) = true) (And ((0 : Int) ≤ y3 ∧ y3 < (y0.length : Int)) (And (Imp ((decide ((Zdu.S (y0.getD (y3).toNat zCh) y1) < 0)) = true) (Zdv.o y0 y1 y2 y3 (Zdv.R y0 y1 y2 y3) = (.ret, [.c (.arr false (.chs y0)), .c (.int (Zdu.S (y0.getD (y3).toNat zCh) y1)), .c (.int (-1)), .c (.int y3)], []))) (Imp ((decide ((Zdu.S (y0.getD (y3).toNat zCh) y1) < 0)) = false) (And (Zdv.P y0 (Zdu.S (y0.getD (y3).toNat zCh) y1) y2 (wrap (y3 + 1))) (And (Zdv.M y0 (Zdu.S (y0.getD (y3).toNat zCh) y1) y2 (wrap (y3 + 1)) < Zdv.M y0 y1 y2 y3) (Zdv.o y0 (Zdu.S (y0.getD (y3).toNat zCh) y1) y2 (wrap (y3 + 1)) (Zdv.R y0 (Zdu.S (y0.getD (y3).toNat zCh) y1) y2 (wrap (y3 + 1))) = Zdv.o y0 y1 y2 y3 (Zdv.R y0 y1 y2 y3)))))))) (Imp ((decide (y3 < (y0.length : Int))) = false) (Zdv.o y0 y1 y2 y3 (Zdv.R y0 y1 y2 y3) = (.exit 0, [.c (.arr false (.chs y0)), .c (.int y1), .c (.int y2), .c (.int y3)], [])))) := by kernel_rfl
theorem Zdv.v (y0 : List Ch) (y1 : Int) (y2 : Int) (y3 : Int) (hp : Zdv.P y0 y1 y2 y3) : And (Imp ((decide (y3 < (y0.length : Int))) = true) (And ((0 : Int) ≤ y3 ∧ y3 < (y0.length : Int)) (And (Imp ((decide ((Zdu.S (y0.getD (y3).toNat zCh) y1) < 0)) = true) (Zdv.o y0 y1 y2 y3 (Zdv.R y0 y1 y2 y3) = (.ret, [.c (.arr false (.chs y0)), .c (.int (Zdu.S (y0.getD (y3).toNat zCh) y1)), .c (.int (-1)), .c (.int y3)], []))) (Imp ((decide ((Zdu.S (y0.getD (y3).toNat zCh) y1) < 0)) = false) (And (Zdv.P y0 (Zdu.S (y0.getD (y3).toNat zCh) y1) y2 (wrap (y3 + 1))) (And (Zdv.M y0 (Zdu.S (y0.getD (y3).toNat zCh) y1) y2 (wrap (y3 + 1)) < Zdv.M y0 y1 y2 y3) (Zdv.o y0 (Zdu.S (y0.getD (y3).toNat zCh) y1) y2 (wrap (y3 + 1)) (Zdv.R y0 (Zdu.S (y0.getD (y3).toNat zCh) y1) y2 (wrap (y3 + 1))) = Zdv.o y0 y1 y2 y3 (Zdv.R y0 y1 y2 y3)))))))) (Imp ((decide (y3 < (y0.length : Int))) = false) (Zdv.o y0 y1 y2 y3 (Zdv.R y0 y1 y2 y3) = (.exit 0, [.c (.arr false (.chs y0)), .c (.int y1), .c (.int y2), .c (.int y3)], []))) := by
  simp only [Zdv.P] at hp
  obtain ⟨p0, p1, p2⟩ := hp
  refine ⟨fun h1 => ?_, fun h1 => ?_⟩
  · refine ⟨by first | exact True.intro | assumption | omega | grind [wrap_id, chs_1, chs_2, chs_3, chs_4, chs_5], ?_⟩
    refine ⟨fun h2 => ?_, fun h2 => ?_⟩
    · have e : Zdv.R y0 y1 y2 y3 = (0, ((Zdu.S (y0.getD (y3).toNat zCh) y1), ((-1), (y3, ())))) := by unfold Zdv.R; rw [Zdv.S]; exact (cond_t h1).trans <| (cond_t h2).trans <| rfl
      rw [e]
      rfl
    · have hμ : Zdv.M y0 y1 y2 y3 = Zdv.M y0 (Zdu.S (y0.getD (y3).toNat zCh) y1) y2 (wrap (y3 + 1)) + 1 := by simp only [Zdv.M]; first | omega | grind [wrap_id]
      refine ⟨by simp only [Zdv.P]; refine ⟨(by first | exact True.intro | assumption | omega | grind [wrap_id, chs_1, chs_2, chs_3, chs_4, chs_5]), (by first | exact True.intro | assumption | omega | grind [wrap_id, chs_1, chs_2, chs_3, chs_4, chs_5]), (by first | exact True.intro | assumption | omega | grind [wrap_id, chs_1, chs_2, chs_3, chs_4, chs_5])⟩, by omega, ?_⟩
      have e : Zdv.R y0 y1 y2 y3 = Zdv.R y0 (Zdu.S (y0.getD (y3).toNat zCh) y1) y2 (wrap (y3 + 1)) := by
        have e1 : Zdv.R y0 y1 y2 y3 = Zdv.S (Zdv.M y0 y1 y2 y3) y0 (Zdu.S (y0.getD (y3).toNat zCh) y1) y2 (wrap (y3 + 1)) := by unfold Zdv.R; rw [Zdv.S]; exact (cond_t h1).trans <| (cond_f h2).trans <| rfl
        rw [e1, hμ]
        rfl
      rw [e]
      rfl
  · have e : Zdv.R y0 y1 y2 y3 = (1, (y1, (y3, (0, ())))) := by unfold Zdv.R; rw [Zdv.S]; exact (cond_f h1).trans <| rfl
    rw [e]
    rfl
theorem Zdv.g (hG : ∀ c ∈ [Zdu.c], Good Try.prog c) : LGood Try.prog Try.f40.ntmps Zdv.d.ctr (bodyAt Try.f40 0) := by
  refine lgoodS (sp := []) (LL := []) hG (by kernel_rfl) (by rw [show loopsOf (bodyAt Try.f40 0) = [] from by kernel_rfl]; exact noL rfl) fun s hp => ?_
  refine Eq.mpr (Zdv.w s.1 s.2.1 s.2.2.1 s.2.2.2.1) ?_
  replace hp : Zdv.P s.1 s.2.1 s.2.2.1 s.2.2.2.1 := hp
  exact Zdv.v _ _ _ _ hp
def Zdv.E (y0 : List Ch) (y2 : Int) (k : Nat) (a : Int) : Option (Nat × Int × Int × Int × Unit) := bif decide ((Zdu.S (y0.getD k zCh) a) < 0) then some (0, ((Zdu.S (y0.getD k zCh) a), ((-1), ((k : Int), ())))) else none
def Zdv.A (y0 : List Ch) (y2 : Int) (k : Nat) (a : Int) : Int := bif decide ((Zdu.S (y0.getD k zCh) a) < 0) then a else ((Zdu.S (y0.getD k zCh) a))
def Zdv.fin (y0 : List Ch) (y2 : Int) (k : Nat) (a : Int) : Nat × Int × Int × Int × Unit := (1, (a, ((k : Int), (0, ()))))
def Zdv.acc (y0 : List Ch) (y2 : Int) (a : Int) : Nat → Int
  | 0 => a
  | k + 1 => Zdv.A y0 y2 k (Zdv.acc y0 y2 a k)
theorem Zdv.law (y0 : List Ch) (y2 : Int) (a : Int) (n : Nat) (hT : (y0.length : Int) = (n : Int)) (hn : (n : Int) ≤ 9223372036854775807) :
    ((∀ k, k < n → Zdv.E y0 y2 k (Zdv.acc y0 y2 a k) = none) ∧ Zdv.R y0 a y2 0 = Zdv.fin y0 y2 n (Zdv.acc y0 y2 a n)) ∨ (∃ k r, k < n ∧ Zdv.E y0 y2 k (Zdv.acc y0 y2 a k) = some r ∧ (∀ j, j < k → Zdv.E y0 y2 j (Zdv.acc y0 y2 a j) = none) ∧ Zdv.R y0 a y2 0 = r) := by
  have hM : Zdv.M y0 a y2 0 + 1 = n + 1 := by simp only [Zdv.M]; omega
  unfold Zdv.R
  rw [hM]
  refine loopE (fun m i b => Zdv.S m y0 b y2 i) n hn (Zdv.acc y0 y2 a) (Zdv.E y0 y2 ) (Zdv.fin y0 y2 ) fun m k hk => ?_
  have ha : Zdv.acc y0 y2 a (k + 1) = Zdv.A y0 y2 k (Zdv.acc y0 y2 a k) := rfl
  rw [ha]
  generalize Zdv.acc y0 y2 a k = b
  simp only [Zdv.S, Zdv.E, Zdv.A, Zdv.fin, hT, Int.toNat_natCast]
  all_goals grind
theorem Zdw.w (a0 : List Ch) (a1 : Int) (K : AV → List Blk → Prop) : evFn (envS [Zdu.c] []) [Zdv.d.ctr] [] [] Try.f40 [] (Zdw.L.enc (a0, (a1, ()))) K = (And (Imp ((decide ((wrap (a1 - (a0.length : Int))) < 0)) = true) (K (.v (.c (.int (-1)))) ([]))) (Imp ((decide ((wrap (a1 - (a0.length : Int))) < 0)) = false) (And (Zdv.P a0 (wrap (a1 - (a0.length : Int))) 0 0) (And (Imp (Nat.beq (Zdv.R a0 (wrap (a1 - (a0.length : Int))) 0 0).1 0 = true) (K (.v (.c (.int (Zdv.R a0 (wrap (a1 - (a0.length : Int))) 0 0).2.2.1))) ([]))) (Imp (Nat.beq (Zdv.R a0 (wrap (a1 - (a0.length : Int))) 0 0).1 0 = false) (K (.v (.c (.int (Zdv.R a0 (wrap (a1 - (a0.length : Int))) 0 0).2.1))) ([]))))))) := by kernel_rfl
theorem Zdw.v (a0 : List Ch) (a1 : Int) (hf : chsFact a0 ∧ True ∧ True) (K : AV → List Blk → Prop) (hK : K (Zdw.enc (Zdw.S a0 a1)).1 (Zdw.enc (Zdw.S a0 a1)).2) : And (Imp ((decide ((wrap (a1 - (a0.length : Int))) < 0)) = true) (K (.v (.c (.int (-1)))) ([]))) (Imp ((decide ((wrap (a1 - (a0.length : Int))) < 0)) = false) (And (Zdv.P a0 (wrap (a1 - (a0.length : Int))) 0 0) (And (Imp (Nat.beq (Zdv.R a0 (wrap (a1 - (a0.length : Int))) 0 0).1 0 = true) (K (.v (.c (.int (Zdv.R a0 (wrap (a1 - (a0.length : Int))) 0 0).2.2.1))) ([]))) (Imp (Nat.beq (Zdv.R a0 (wrap (a1 - (a0.length : Int))) 0 0).1 0 = false) (K (.v (.c (.int (Zdv.R a0 (wrap (a1 - (a0.length : Int))) 0 0).2.1))) ([])))))) := by
  obtain ⟨f0, -, -⟩ := hf
  try simp only [big] at *
  refine ⟨fun h1 => ?_, fun h1 => ?_⟩
  · have e : Zdw.S a0 a1 = ((-1)) := by unfold Zdw.S; exact (cond_t h1).trans <| rfl
    rw [e] at hK
    exact hK
  · refine ⟨by simp only [Zdv.P]; refine ⟨(by clear hK; first | exact True.intro | assumption | omega | grind [wrap_id, chs_1, chs_2, chs_3, chs_4, chs_5]), (by clear hK; first | exact True.intro | assumption | omega | grind [wrap_id, chs_1, chs_2, chs_3, chs_4, chs_5]), (by clear hK; first | exact True.intro | assumption | omega | grind [wrap_id, chs_1, chs_2, chs_3, chs_4, chs_5])⟩, ?_⟩
    refine ⟨fun h2 => ?_, fun h2 => ?_⟩
    · have e : Zdw.S a0 a1 = ((Zdv.R a0 (wrap (a1 - (a0.length : Int))) 0 0).2.2.1) := by unfold Zdw.S; exact (cond_f h1).trans <| (cond_t h2).trans <| rfl
      rw [e] at hK
      exact hK
    · have e : Zdw.S a0 a1 = ((Zdv.R a0 (wrap (a1 - (a0.length : Int))) 0 0).2.1) := by unfold Zdw.S; exact (cond_f h1).trans <| (cond_f h2).trans <| rfl
      rw [e] at hK
      exact hK
theorem Zdw.good : Good Try.prog Zdw.c :=
  vgood (sh := []) (sp := []) (LL := [Zdv.d.ctr]) (consG Zdu.good noG) (fn := Try.f40) (by kernel_rfl) (by kernel_rfl) (by rw [show loopsOf (bodyOf Try.f40) = [(bodyAt Try.f40 0)] from by kernel_rfl]; exact consL (l := Zdv.d.ctr) (by kernel_rfl) (Zdv.g (consG Zdu.good noG)) (noL rfl)) fun s hp hf => by
    exact Eq.mpr (Zdw.w (s.1) (s.2.1) (fun r bs' => And (r = (Zdw.c.out s).1) (bs' = (Zdw.c.out s).2))) (Zdw.v (s.1) (s.2.1) hf (fun r bs' => And (r = (Zdw.c.out s).1) (bs' = (Zdw.c.out s).2)) ⟨rfl, rfl⟩)
def Zdx.S (a0 : List Ch) (a1 : Int) : Int := bif decide ((Zdw.S a0 a1) < 0) then ((-1)) else ((Zdw.S a0 a1))
def Zdx.enc (r : Int) : AV × List Blk := (.v (.c (.int r)), [])
def Zdx.L : ShL := sCons sW (sCons sInt (sNil))
def Zdx.c : Ctr := vctr 12 Zdx.L none (fun s => Zdx.enc (Zdx.S s.1 s.2.1))
theorem Zdx.w (a0 : List Ch) (a1 : Int) (K : AV → List Blk → Prop) : evFn (envS [Zdw.c] []) [] [] [] Try.f12 [] (Zdx.L.enc (a0, (a1, ()))) K = (And (Imp ((decide ((Zdw.S a0 a1) < 0)) = true) (K (.v (.c (.int (-1)))) ([]))) (Imp ((decide ((Zdw.S a0 a1) < 0)) = false) (K (.v (.c (.int (Zdw.S a0 a1)))) ([])))) := by kernel_rfl
theorem Zdx.v (a0 : List Ch) (a1 : Int) (hf : chsFact a0 ∧ True ∧ True) (K : AV → List Blk → Prop) (hK : K (Zdx.enc (Zdx.S a0 a1)).1 (Zdx.enc (Zdx.S a0 a1)).2) : And (Imp ((decide ((Zdw.S a0 a1) < 0)) = true) (K (.v (.c (.int (-1)))) ([]))) (Imp ((decide ((Zdw.S a0 a1) < 0)) = false) (K (.v (.c (.int (Zdw.S a0 a1)))) ([]))) := by
  obtain ⟨f0, -, -⟩ := hf
  try simp only [big] at *
  refine ⟨fun h1 => ?_, fun h1 => ?_⟩
  · have e : Zdx.S a0 a1 = ((-1)) := by unfold Zdx.S; exact (cond_t h1).trans <| rfl
    rw [e] at hK
    exact hK
  · have e : Zdx.S a0 a1 = ((Zdw.S a0 a1)) := by unfold Zdx.S; exact (cond_f h1).trans <| rfl
    rw [e] at hK
    exact hK
theorem Zdx.good : Good Try.prog Zdx.c :=
  vgood (sh := []) (sp := []) (LL := []) (consG Zdw.good noG) (fn := Try.f12) (by kernel_rfl) (by kernel_rfl) (by rw [show loopsOf (bodyOf Try.f12) = [] from by kernel_rfl]; exact noL rfl) fun s hp hf => by
    exact Eq.mpr (Zdx.w (s.1) (s.2.1) (fun r bs' => And (r = (Zdx.c.out s).1) (bs' = (Zdx.c.out s).2))) (Zdx.v (s.1) (s.2.1) hf (fun r bs' => And (r = (Zdx.c.out s).1) (bs' = (Zdx.c.out s).2)) ⟨rfl, rfl⟩)
end
end Hw
end Go.Proofs.Ytfboldbfbmmahaa
