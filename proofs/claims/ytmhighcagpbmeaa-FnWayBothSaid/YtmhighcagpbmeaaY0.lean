/- Functions that only read, 1: made by gen.py. -/
import Derived.Test.YtmhighcagpbmeaaX24
set_option linter.unusedVariables false
set_option linter.unusedSimpArgs false
set_option maxRecDepth 100000
set_option maxHeartbeats 400000
namespace Go.Proofs.Ytmhighcagpbmeaa
namespace Hw
open Go
attribute [local irreducible] evFn evBody wrap wxor
/-! ### spec.l6In -/
def spec_l6In.S (a0 : Int) (a1 : Int) (a2 : Int) : Bool := (bif decide (a0 ≥ a1) then decide (a0 ≤ a2) else false)
def spec_l6In.enc (r : Bool) : AV × List Blk := (.v (.c (.bool r)), [])
def spec_l6In.L : ShL := sCons sInt (sCons sInt (sCons sInt (sNil)))
def spec_l6In.c : Ctr := vctr 54 spec_l6In.L none (fun s => spec_l6In.enc (spec_l6In.S s.1 s.2.1 s.2.2.1))
theorem spec_l6In.w (a0 : Int) (a1 : Int) (a2 : Int) (K : AV → List Blk → Prop) : evFn (envS [] []) [] [] [] Try.f54 [] (spec_l6In.L.enc (a0, (a1, (a2, ())))) K = (K (.v (.c (.bool (bif decide (a0 ≥ a1) then decide (a0 ≤ a2) else false)))) ([])) := by kernel_rfl
theorem spec_l6In.v (a0 : Int) (a1 : Int) (a2 : Int) (hf : True ∧ True ∧ True ∧ True) (K : AV → List Blk → Prop) (hK : K (spec_l6In.enc (spec_l6In.S a0 a1 a2)).1 (spec_l6In.enc (spec_l6In.S a0 a1 a2)).2) : K (.v (.c (.bool (bif decide (a0 ≥ a1) then decide (a0 ≤ a2) else false)))) ([]) := by
  clear hf
  have e : spec_l6In.S a0 a1 a2 = (bif decide (a0 ≥ a1) then decide (a0 ≤ a2) else false) := by unfold spec_l6In.S; exact rfl
  rw [e] at hK
  exact hK
theorem spec_l6In.good : Good Try.prog spec_l6In.c :=
  vgood (sh := []) (sp := []) (LL := []) noG (fn := Try.f54) (by kernel_rfl) (by kernel_rfl) (by rw [show loopsOf (bodyOf Try.f54) = [] from by kernel_rfl]; exact noL rfl) fun s hp hf => by
    exact Eq.mpr (spec_l6In.w (s.1) (s.2.1) (s.2.2.1) (fun r bs' => And (r = (spec_l6In.c.out s).1) (bs' = (spec_l6In.c.out s).2))) (spec_l6In.v (s.1) (s.2.1) (s.2.2.1) hf (fun r bs' => And (r = (spec_l6In.c.out s).1) (bs' = (spec_l6In.c.out s).2)) ⟨rfl, rfl⟩)
/-! ### spec.l1User -/
def spec_l1User.S (a0 : Int) : Bool := ((spec_l6In.S a0 1 3))
def spec_l1User.enc (r : Bool) : AV × List Blk := (.v (.c (.bool r)), [])
def spec_l1User.L : ShL := sCons sInt (sNil)
def spec_l1User.c : Ctr := vctr 63 spec_l1User.L none (fun s => spec_l1User.enc (spec_l1User.S s.1))
theorem spec_l1User.w (a0 : Int) (K : AV → List Blk → Prop) : evFn (envS [spec_l6In.c] []) [] [] [] Try.f63 [] (spec_l1User.L.enc (a0, ())) K = (K (.v (.c (.bool (spec_l6In.S a0 1 3)))) ([])) := by kernel_rfl
theorem spec_l1User.v (a0 : Int) (hf : True ∧ True) (K : AV → List Blk → Prop) (hK : K (spec_l1User.enc (spec_l1User.S a0)).1 (spec_l1User.enc (spec_l1User.S a0)).2) : K (.v (.c (.bool (spec_l6In.S a0 1 3)))) ([]) := by
  clear hf
  have e : spec_l1User.S a0 = ((spec_l6In.S a0 1 3)) := by unfold spec_l1User.S; exact rfl
  rw [e] at hK
  exact hK
theorem spec_l1User.good : Good Try.prog spec_l1User.c :=
  vgood (sh := []) (sp := []) (LL := []) (consG spec_l6In.good noG) (fn := Try.f63) (by kernel_rfl) (by kernel_rfl) (by rw [show loopsOf (bodyOf Try.f63) = [] from by kernel_rfl]; exact noL rfl) fun s hp hf => by
    exact Eq.mpr (spec_l1User.w (s.1) (fun r bs' => And (r = (spec_l1User.c.out s).1) (bs' = (spec_l1User.c.out s).2))) (spec_l1User.v (s.1) hf (fun r bs' => And (r = (spec_l1User.c.out s).1) (bs' = (spec_l1User.c.out s).2)) ⟨rfl, rfl⟩)
/-! ### impl.userOk -/
def impl_userOk.S (a0 : Int) : Bool := (bif decide (a0 ≥ 1) then decide (a0 ≤ 3) else false)
def impl_userOk.enc (r : Bool) : AV × List Blk := (.v (.c (.bool r)), [])
def impl_userOk.L : ShL := sCons sInt (sNil)
def impl_userOk.c : Ctr := vctr 61 impl_userOk.L none (fun s => impl_userOk.enc (impl_userOk.S s.1))
theorem impl_userOk.w (a0 : Int) (K : AV → List Blk → Prop) : evFn (envS [] []) [] [] [] Try.f61 [] (impl_userOk.L.enc (a0, ())) K = (K (.v (.c (.bool (bif decide (a0 ≥ 1) then decide (a0 ≤ 3) else false)))) ([])) := by kernel_rfl
theorem impl_userOk.v (a0 : Int) (hf : True ∧ True) (K : AV → List Blk → Prop) (hK : K (impl_userOk.enc (impl_userOk.S a0)).1 (impl_userOk.enc (impl_userOk.S a0)).2) : K (.v (.c (.bool (bif decide (a0 ≥ 1) then decide (a0 ≤ 3) else false)))) ([]) := by
  clear hf
  have e : impl_userOk.S a0 = (bif decide (a0 ≥ 1) then decide (a0 ≤ 3) else false) := by unfold impl_userOk.S; exact rfl
  rw [e] at hK
  exact hK
theorem impl_userOk.good : Good Try.prog impl_userOk.c :=
  vgood (sh := []) (sp := []) (LL := []) noG (fn := Try.f61) (by kernel_rfl) (by kernel_rfl) (by rw [show loopsOf (bodyOf Try.f61) = [] from by kernel_rfl]; exact noL rfl) fun s hp hf => by
    exact Eq.mpr (impl_userOk.w (s.1) (fun r bs' => And (r = (impl_userOk.c.out s).1) (bs' = (impl_userOk.c.out s).2))) (impl_userOk.v (s.1) hf (fun r bs' => And (r = (impl_userOk.c.out s).1) (bs' = (impl_userOk.c.out s).2)) ⟨rfl, rfl⟩)
/-! ### spec.PacketOk -/
def spec_PacketOk.S (a0 : Pkt) : Bool := (bif bif bif bif bif bif (spec_l6In.S a0.seq 1 8) then (spec_l6In.S a0.kind 1 2) else false then (spec_l1User.S a0.frm) else false then (spec_l6In.S a0.to 0 3) else false then (spec_l6In.S a0.sum 1 9) else false then (spec_l6In.S a0.til 1 90) else false then (spec_l6In.S a0.ver 1 9) else false)
def spec_PacketOk.enc (r : Bool) : AV × List Blk := (.v (.c (.bool r)), [])
def spec_PacketOk.L : ShL := sCons sPkt (sNil)
def spec_PacketOk.c : Ctr := vctr 57 spec_PacketOk.L none (fun s => spec_PacketOk.enc (spec_PacketOk.S s.1))
theorem spec_PacketOk.w (a0 : Pkt) (K : AV → List Blk → Prop) : evFn (envS [spec_l6In.c, spec_l1User.c] []) [] [] [] Try.f57 [] (spec_PacketOk.L.enc (a0, ())) K = (K (.v (.c (.bool (bif bif bif bif bif bif (spec_l6In.S a0.seq 1 8) then (spec_l6In.S a0.kind 1 2) else false then (spec_l1User.S a0.frm) else false then (spec_l6In.S a0.to 0 3) else false then (spec_l6In.S a0.sum 1 9) else false then (spec_l6In.S a0.til 1 90) else false then (spec_l6In.S a0.ver 1 9) else false)))) ([])) := by kernel_rfl
theorem spec_PacketOk.v (a0 : Pkt) (hf : True ∧ True) (K : AV → List Blk → Prop) (hK : K (spec_PacketOk.enc (spec_PacketOk.S a0)).1 (spec_PacketOk.enc (spec_PacketOk.S a0)).2) : K (.v (.c (.bool (bif bif bif bif bif bif (spec_l6In.S a0.seq 1 8) then (spec_l6In.S a0.kind 1 2) else false then (spec_l1User.S a0.frm) else false then (spec_l6In.S a0.to 0 3) else false then (spec_l6In.S a0.sum 1 9) else false then (spec_l6In.S a0.til 1 90) else false then (spec_l6In.S a0.ver 1 9) else false)))) ([]) := by
  clear hf
  have e : spec_PacketOk.S a0 = (bif bif bif bif bif bif (spec_l6In.S a0.seq 1 8) then (spec_l6In.S a0.kind 1 2) else false then (spec_l1User.S a0.frm) else false then (spec_l6In.S a0.to 0 3) else false then (spec_l6In.S a0.sum 1 9) else false then (spec_l6In.S a0.til 1 90) else false then (spec_l6In.S a0.ver 1 9) else false) := by unfold spec_PacketOk.S; exact rfl
  rw [e] at hK
  exact hK
theorem spec_PacketOk.good : Good Try.prog spec_PacketOk.c :=
  vgood (sh := []) (sp := []) (LL := []) (consG spec_l6In.good (consG spec_l1User.good noG)) (fn := Try.f57) (by kernel_rfl) (by kernel_rfl) (by rw [show loopsOf (bodyOf Try.f57) = [] from by kernel_rfl]; exact noL rfl) fun s hp hf => by
    exact Eq.mpr (spec_PacketOk.w (s.1) (fun r bs' => And (r = (spec_PacketOk.c.out s).1) (bs' = (spec_PacketOk.c.out s).2))) (spec_PacketOk.v (s.1) hf (fun r bs' => And (r = (spec_PacketOk.c.out s).1) (bs' = (spec_PacketOk.c.out s).2)) ⟨rfl, rfl⟩)
/-! ### impl.PacketOk -/
def impl_PacketOk.S (a0 : Pkt) : Bool := bif bif a0.kind != 1 then a0.kind != 2 else false then (false) else bif bif !(impl_userOk.S a0.frm) then true else bif a0.to != 0 then !(impl_userOk.S a0.to) else false then (false) else bif bif bif bif decide (a0.seq < 1) then true else decide (a0.seq > 8) then true else decide (a0.sum < 1) then true else decide (a0.sum > 9) then (false) else (bif bif bif decide (a0.til ≥ 1) then decide (a0.til ≤ 90) else false then decide (a0.ver ≥ 1) else false then decide (a0.ver ≤ 9) else false)
def impl_PacketOk.enc (r : Bool) : AV × List Blk := (.v (.c (.bool r)), [])
def impl_PacketOk.L : ShL := sCons sPkt (sNil)
def impl_PacketOk.c : Ctr := vctr 104 impl_PacketOk.L none (fun s => impl_PacketOk.enc (impl_PacketOk.S s.1))
theorem impl_PacketOk.w (a0 : Pkt) (K : AV → List Blk → Prop) : evFn (envS [impl_userOk.c] []) [] [] [] Try.f104 [] (impl_PacketOk.L.enc (a0, ())) K = (And (Imp ((bif a0.kind != 1 then a0.kind != 2 else false) = true) (K (.v (.c (.bool false))) ([]))) (Imp ((bif a0.kind != 1 then a0.kind != 2 else false) = false) (And (Imp ((bif !(impl_userOk.S a0.frm) then true else bif a0.to != 0 then !(impl_userOk.S a0.to) else false) = true) (K (.v (.c (.bool false))) ([]))) (Imp ((bif !(impl_userOk.S a0.frm) then true else bif a0.to != 0 then !(impl_userOk.S a0.to) else false) = false) (And (Imp ((bif bif bif decide (a0.seq < 1) then true else decide (a0.seq > 8) then true else decide (a0.sum < 1) then true else decide (a0.sum > 9)) = true) (K (.v (.c (.bool false))) ([]))) (Imp ((bif bif bif decide (a0.seq < 1) then true else decide (a0.seq > 8) then true else decide (a0.sum < 1) then true else decide (a0.sum > 9)) = false) (K (.v (.c (.bool (bif bif bif decide (a0.til ≥ 1) then decide (a0.til ≤ 90) else false then decide (a0.ver ≥ 1) else false then decide (a0.ver ≤ 9) else false)))) ([])))))))) := by kernel_rfl
theorem impl_PacketOk.v (a0 : Pkt) (hf : True ∧ True) (K : AV → List Blk → Prop) (hK : K (impl_PacketOk.enc (impl_PacketOk.S a0)).1 (impl_PacketOk.enc (impl_PacketOk.S a0)).2) : And (Imp ((bif a0.kind != 1 then a0.kind != 2 else false) = true) (K (.v (.c (.bool false))) ([]))) (Imp ((bif a0.kind != 1 then a0.kind != 2 else false) = false) (And (Imp ((bif !(impl_userOk.S a0.frm) then true else bif a0.to != 0 then !(impl_userOk.S a0.to) else false) = true) (K (.v (.c (.bool false))) ([]))) (Imp ((bif !(impl_userOk.S a0.frm) then true else bif a0.to != 0 then !(impl_userOk.S a0.to) else false) = false) (And (Imp ((bif bif bif decide (a0.seq < 1) then true else decide (a0.seq > 8) then true else decide (a0.sum < 1) then true else decide (a0.sum > 9)) = true) (K (.v (.c (.bool false))) ([]))) (Imp ((bif bif bif decide (a0.seq < 1) then true else decide (a0.seq > 8) then true else decide (a0.sum < 1) then true else decide (a0.sum > 9)) = false) (K (.v (.c (.bool (bif bif bif decide (a0.til ≥ 1) then decide (a0.til ≤ 90) else false then decide (a0.ver ≥ 1) else false then decide (a0.ver ≤ 9) else false)))) ([]))))))) := by
  clear hf
  refine ⟨fun h1 => ?_, fun h1 => ?_⟩
  · have e : impl_PacketOk.S a0 = (false) := by unfold impl_PacketOk.S; exact (cond_t h1).trans <| rfl
    rw [e] at hK
    exact hK
  · refine ⟨fun h2 => ?_, fun h2 => ?_⟩
    · have e : impl_PacketOk.S a0 = (false) := by unfold impl_PacketOk.S; exact (cond_f h1).trans <| (cond_t h2).trans <| rfl
      rw [e] at hK
      exact hK
    · refine ⟨fun h3 => ?_, fun h3 => ?_⟩
      · have e : impl_PacketOk.S a0 = (false) := by unfold impl_PacketOk.S; exact (cond_f h1).trans <| (cond_f h2).trans <| (cond_t h3).trans <| rfl
        rw [e] at hK
        exact hK
      · have e : impl_PacketOk.S a0 = (bif bif bif decide (a0.til ≥ 1) then decide (a0.til ≤ 90) else false then decide (a0.ver ≥ 1) else false then decide (a0.ver ≤ 9) else false) := by unfold impl_PacketOk.S; exact (cond_f h1).trans <| (cond_f h2).trans <| (cond_f h3).trans <| rfl
        rw [e] at hK
        exact hK
theorem impl_PacketOk.good : Good Try.prog impl_PacketOk.c :=
  vgood (sh := []) (sp := []) (LL := []) (consG impl_userOk.good noG) (fn := Try.f104) (by kernel_rfl) (by kernel_rfl) (by rw [show loopsOf (bodyOf Try.f104) = [] from by kernel_rfl]; exact noL rfl) fun s hp hf => by
    exact Eq.mpr (impl_PacketOk.w (s.1) (fun r bs' => And (r = (impl_PacketOk.c.out s).1) (bs' = (impl_PacketOk.c.out s).2))) (impl_PacketOk.v (s.1) hf (fun r bs' => And (r = (impl_PacketOk.c.out s).1) (bs' = (impl_PacketOk.c.out s).2)) ⟨rfl, rfl⟩)
/-! ### spec.l1All -/
def spec_l1All_l3.S : Nat → (List Int) → Int → Int → Nat × Int × Int × Unit
  | 0, _, _, _ => (0, (0, (0, ())))
  | n + 1, x3_0, x3_1, x3_2 => bif decide (x3_2 < (x3_0.length : Int)) then spec_l1All_l3.S n x3_0 (wrap (x3_1 + (x3_0.getD (x3_2).toNat 0))) (wrap (x3_2 + 1)) else (0, (x3_1, (x3_2, ())))
def spec_l1All_l3.M (x3_0 : List Int) (x3_1 : Int) (x3_2 : Int) : Nat := ((x3_0.length : Int) - x3_2).toNat
def spec_l1All_l3.R (x3_0 : List Int) (x3_1 : Int) (x3_2 : Int) : Nat × Int × Int × Unit := spec_l1All_l3.S (spec_l1All_l3.M x3_0 x3_1 x3_2 + 1) x3_0 x3_1 x3_2
def spec_l1All_l3.P (x3_0 : List Int) (x3_1 : Int) (x3_2 : Int) : Prop := (0 ≤ x3_2) ∧ ((x3_0.length : Int) ≤ 9223372036854775807)
def spec_l1All_l3.L : FL := fCons (fC (cArr false kInts)) (fCons (fC cInt) (fCons (fC cInt) (fNil)))
def spec_l1All_l3.o0 (x3_0 : List Int) (x3_1 : Int) (x3_2 : Int) (r : Nat × Int × Int × Unit) : Ex × List FV × List Blk := (.exit 0, [.c (.arr false (.ints x3_0)), .c (.int r.2.1), .c (.int r.2.2.1)], [])
def spec_l1All_l3.o (x3_0 : List Int) (x3_1 : Int) (x3_2 : Int) (r : Nat × Int × Int × Unit) : Ex × List FV × List Blk := pickAlt [] (spec_l1All_l3.o0 x3_0 x3_1 x3_2 r)
def spec_l1All_l3.d : LDat := ldat 3 [0, 3, 4] [] spec_l1All_l3.L (fun s => spec_l1All_l3.P s.1 s.2.1 s.2.2.1) (fun s => []) (fun s => spec_l1All_l3.o0 s.1 s.2.1 s.2.2.1 (spec_l1All_l3.R s.1 s.2.1 s.2.2.1)) (fun s => spec_l1All_l3.M s.1 s.2.1 s.2.2.1)
def spec_l1All.S (a0 : List Int) : Int := ((spec_l1All_l3.R a0 0 0).2.1)
def spec_l1All.enc (r : Int) : AV × List Blk := (.v (.c (.int r)), [])
def spec_l1All.L : ShL := sCons sInts (sNil)
def spec_l1All.c : Ctr := vctr 82 spec_l1All.L none (fun s => spec_l1All.enc (spec_l1All.S s.1))
theorem spec_l1All_l3.w (x3_0 : List Int) (x3_1 : Int) (x3_2 : Int) : evBody (envS [] []) [] (bodyAt Try.f82 0) spec_l1All_l3.d (x3_0, (x3_1, (x3_2, ()))) = (And (Imp ((decide (x3_2 < (x3_0.length : Int))) = true) (And ((0 : Int) ≤ x3_2 ∧ x3_2 < (x3_0.length : Int)) (And (spec_l1All_l3.P x3_0 (wrap (x3_1 + (x3_0.getD (x3_2).toNat 0))) (wrap (x3_2 + 1))) (And (spec_l1All_l3.M x3_0 (wrap (x3_1 + (x3_0.getD (x3_2).toNat 0))) (wrap (x3_2 + 1)) < spec_l1All_l3.M x3_0 x3_1 x3_2) (spec_l1All_l3.o x3_0 (wrap (x3_1 + (x3_0.getD (x3_2).toNat 0))) (wrap (x3_2 + 1)) (spec_l1All_l3.R x3_0 (wrap (x3_1 + (x3_0.getD (x3_2).toNat 0))) (wrap (x3_2 + 1))) = spec_l1All_l3.o x3_0 x3_1 x3_2 (spec_l1All_l3.R x3_0 x3_1 x3_2)))))) (Imp ((decide (x3_2 < (x3_0.length : Int))) = false) (spec_l1All_l3.o x3_0 x3_1 x3_2 (spec_l1All_l3.R x3_0 x3_1 x3_2) = (.exit 0, [.c (.arr false (.ints x3_0)), .c (.int x3_1), .c (.int x3_2)], [])))) := by kernel_rfl
theorem spec_l1All_l3.v (x3_0 : List Int) (x3_1 : Int) (x3_2 : Int) (hp : spec_l1All_l3.P x3_0 x3_1 x3_2) : And (Imp ((decide (x3_2 < (x3_0.length : Int))) = true) (And ((0 : Int) ≤ x3_2 ∧ x3_2 < (x3_0.length : Int)) (And (spec_l1All_l3.P x3_0 (wrap (x3_1 + (x3_0.getD (x3_2).toNat 0))) (wrap (x3_2 + 1))) (And (spec_l1All_l3.M x3_0 (wrap (x3_1 + (x3_0.getD (x3_2).toNat 0))) (wrap (x3_2 + 1)) < spec_l1All_l3.M x3_0 x3_1 x3_2) (spec_l1All_l3.o x3_0 (wrap (x3_1 + (x3_0.getD (x3_2).toNat 0))) (wrap (x3_2 + 1)) (spec_l1All_l3.R x3_0 (wrap (x3_1 + (x3_0.getD (x3_2).toNat 0))) (wrap (x3_2 + 1))) = spec_l1All_l3.o x3_0 x3_1 x3_2 (spec_l1All_l3.R x3_0 x3_1 x3_2)))))) (Imp ((decide (x3_2 < (x3_0.length : Int))) = false) (spec_l1All_l3.o x3_0 x3_1 x3_2 (spec_l1All_l3.R x3_0 x3_1 x3_2) = (.exit 0, [.c (.arr false (.ints x3_0)), .c (.int x3_1), .c (.int x3_2)], []))) := by
  simp only [spec_l1All_l3.P] at hp
  obtain ⟨p0, p1⟩ := hp
  refine ⟨fun h1 => ?_, fun h1 => ?_⟩
  · refine ⟨by first | exact True.intro | assumption | omega | grind [wrap_id], ?_⟩
    have hμ : spec_l1All_l3.M x3_0 x3_1 x3_2 = spec_l1All_l3.M x3_0 (wrap (x3_1 + (x3_0.getD (x3_2).toNat 0))) (wrap (x3_2 + 1)) + 1 := by simp only [spec_l1All_l3.M]; first | omega | grind [wrap_id]
    refine ⟨by simp only [spec_l1All_l3.P]; refine ⟨(by first | exact True.intro | assumption | omega | grind [wrap_id]), (by first | exact True.intro | assumption | omega | grind [wrap_id])⟩, by omega, ?_⟩
    have e : spec_l1All_l3.R x3_0 x3_1 x3_2 = spec_l1All_l3.R x3_0 (wrap (x3_1 + (x3_0.getD (x3_2).toNat 0))) (wrap (x3_2 + 1)) := by
      have e1 : spec_l1All_l3.R x3_0 x3_1 x3_2 = spec_l1All_l3.S (spec_l1All_l3.M x3_0 x3_1 x3_2) x3_0 (wrap (x3_1 + (x3_0.getD (x3_2).toNat 0))) (wrap (x3_2 + 1)) := by unfold spec_l1All_l3.R; rw [spec_l1All_l3.S]; exact (cond_t h1).trans <| rfl
      rw [e1, hμ]
      rfl
    rw [e]
    rfl
  · have e : spec_l1All_l3.R x3_0 x3_1 x3_2 = (0, (x3_1, (x3_2, ()))) := by unfold spec_l1All_l3.R; rw [spec_l1All_l3.S]; exact (cond_f h1).trans <| rfl
    rw [e]
    rfl
theorem spec_l1All_l3.g (hG : ∀ c ∈ [], Good Try.prog c) : LGood Try.prog Try.f82.ntmps spec_l1All_l3.d.ctr (bodyAt Try.f82 0) := by
  refine lgoodS (sp := []) (LL := []) hG (by kernel_rfl) (by rw [show loopsOf (bodyAt Try.f82 0) = [] from by kernel_rfl]; exact noL rfl) fun s hp => ?_
  refine Eq.mpr (spec_l1All_l3.w s.1 s.2.1 s.2.2.1) ?_
  replace hp : spec_l1All_l3.P s.1 s.2.1 s.2.2.1 := hp
  exact spec_l1All_l3.v _ _ _ hp
def spec_l1All_l3.E (x3_0 : List Int) (k : Nat) (a : Int) : Option (Nat × Int × Int × Unit) := none
def spec_l1All_l3.A (x3_0 : List Int) (k : Nat) (a : Int) : Int := (wrap (a + (x3_0.getD k 0)))
def spec_l1All_l3.fin (x3_0 : List Int) (k : Nat) (a : Int) : Nat × Int × Int × Unit := (0, (a, ((k : Int), ())))
def spec_l1All_l3.acc (x3_0 : List Int) (a : Int) : Nat → Int
  | 0 => a
  | k + 1 => spec_l1All_l3.A x3_0 k (spec_l1All_l3.acc x3_0 a k)
theorem spec_l1All_l3.law (x3_0 : List Int) (a : Int) (n : Nat) (hT : (x3_0.length : Int) = (n : Int)) (hn : (n : Int) ≤ 9223372036854775807) :
    ((∀ k, k < n → spec_l1All_l3.E x3_0 k (spec_l1All_l3.acc x3_0 a k) = none) ∧ spec_l1All_l3.R x3_0 a 0 = spec_l1All_l3.fin x3_0 n (spec_l1All_l3.acc x3_0 a n)) ∨ (∃ k r, k < n ∧ spec_l1All_l3.E x3_0 k (spec_l1All_l3.acc x3_0 a k) = some r ∧ (∀ j, j < k → spec_l1All_l3.E x3_0 j (spec_l1All_l3.acc x3_0 a j) = none) ∧ spec_l1All_l3.R x3_0 a 0 = r) := by
  have hM : spec_l1All_l3.M x3_0 a 0 + 1 = n + 1 := by simp only [spec_l1All_l3.M]; omega
  unfold spec_l1All_l3.R
  rw [hM]
  refine loopE (fun m i b => spec_l1All_l3.S m x3_0 b i) n hn (spec_l1All_l3.acc x3_0 a) (spec_l1All_l3.E x3_0 ) (spec_l1All_l3.fin x3_0 ) fun m k hk => ?_
  have ha : spec_l1All_l3.acc x3_0 a (k + 1) = spec_l1All_l3.A x3_0 k (spec_l1All_l3.acc x3_0 a k) := rfl
  rw [ha]
  generalize spec_l1All_l3.acc x3_0 a k = b
  simp only [spec_l1All_l3.S, spec_l1All_l3.E, spec_l1All_l3.A, spec_l1All_l3.fin, hT, Int.toNat_natCast]
  all_goals grind
theorem spec_l1All.w (a0 : List Int) (K : AV → List Blk → Prop) : evFn (envS [] []) [spec_l1All_l3.d.ctr] [] [] Try.f82 [] (spec_l1All.L.enc (a0, ())) K = (And (spec_l1All_l3.P a0 0 0) (K (.v (.c (.int (spec_l1All_l3.R a0 0 0).2.1))) ([]))) := by kernel_rfl
theorem spec_l1All.v (a0 : List Int) (hf : (a0.length : Int) ≤ 9223372036854775807 ∧ True) (K : AV → List Blk → Prop) (hK : K (spec_l1All.enc (spec_l1All.S a0)).1 (spec_l1All.enc (spec_l1All.S a0)).2) : And (spec_l1All_l3.P a0 0 0) (K (.v (.c (.int (spec_l1All_l3.R a0 0 0).2.1))) ([])) := by
  obtain ⟨f0, -⟩ := hf
  try simp only [big] at *
  refine ⟨by simp only [spec_l1All_l3.P]; refine ⟨(by clear hK; first | exact True.intro | assumption | omega | grind [wrap_id]), (by clear hK; first | exact True.intro | assumption | omega | grind [wrap_id])⟩, ?_⟩
  have e : spec_l1All.S a0 = ((spec_l1All_l3.R a0 0 0).2.1) := by unfold spec_l1All.S; exact rfl
  rw [e] at hK
  exact hK
theorem spec_l1All.good : Good Try.prog spec_l1All.c :=
  vgood (sh := []) (sp := []) (LL := [spec_l1All_l3.d.ctr]) noG (fn := Try.f82) (by kernel_rfl) (by kernel_rfl) (by rw [show loopsOf (bodyOf Try.f82) = [(bodyAt Try.f82 0)] from by kernel_rfl]; exact consL (l := spec_l1All_l3.d.ctr) (by kernel_rfl) (spec_l1All_l3.g noG) (noL rfl)) fun s hp hf => by
    exact Eq.mpr (spec_l1All.w (s.1) (fun r bs' => And (r = (spec_l1All.c.out s).1) (bs' = (spec_l1All.c.out s).2))) (spec_l1All.v (s.1) hf (fun r bs' => And (r = (spec_l1All.c.out s).1) (bs' = (spec_l1All.c.out s).2)) ⟨rfl, rfl⟩)
/-! ### spec.l1Parts -/
def spec_l1Parts_l2.S : Nat → (List Int) → Bool → Int → Nat × Bool × Int × Unit
  | 0, _, _, _ => (0, (false, (0, ())))
  | n + 1, x2_0, x2_1, x2_2 => bif decide (x2_2 < (x2_0.length : Int)) then bif !(spec_l6In.S (x2_0.getD (x2_2).toNat 0) 0 30) then (0, (false, (x2_2, ()))) else spec_l1Parts_l2.S n x2_0 x2_1 (wrap (x2_2 + 1)) else (1, (false, (x2_2, ())))
def spec_l1Parts_l2.M (x2_0 : List Int) (x2_1 : Bool) (x2_2 : Int) : Nat := ((x2_0.length : Int) - x2_2).toNat
def spec_l1Parts_l2.R (x2_0 : List Int) (x2_1 : Bool) (x2_2 : Int) : Nat × Bool × Int × Unit := spec_l1Parts_l2.S (spec_l1Parts_l2.M x2_0 x2_1 x2_2 + 1) x2_0 x2_1 x2_2
def spec_l1Parts_l2.P (x2_0 : List Int) (x2_1 : Bool) (x2_2 : Int) : Prop := (0 ≤ x2_2) ∧ ((x2_0.length : Int) ≤ 9223372036854775807)
def spec_l1Parts_l2.L : FL := fCons (fC (cArr false kInts)) (fCons (fC cBool) (fCons (fC cInt) (fNil)))
def spec_l1Parts_l2.o0 (x2_0 : List Int) (x2_1 : Bool) (x2_2 : Int) (r : Nat × Bool × Int × Unit) : Ex × List FV × List Blk := (.ret, [.c (.arr false (.ints x2_0)), .c (.bool r.2.1), .c (.int r.2.2.1)], [])
def spec_l1Parts_l2.o1 (x2_0 : List Int) (x2_1 : Bool) (x2_2 : Int) (r : Nat × Bool × Int × Unit) : Ex × List FV × List Blk := (.exit 0, [.c (.arr false (.ints x2_0)), .c (.bool x2_1), .c (.int r.2.2.1)], [])
def spec_l1Parts_l2.o (x2_0 : List Int) (x2_1 : Bool) (x2_2 : Int) (r : Nat × Bool × Int × Unit) : Ex × List FV × List Blk := pickAlt [(Nat.beq r.1 0, spec_l1Parts_l2.o0 x2_0 x2_1 x2_2 r)] (spec_l1Parts_l2.o1 x2_0 x2_1 x2_2 r)
def spec_l1Parts_l2.d : LDat := ldat 2 [0, 2, 3] [] spec_l1Parts_l2.L (fun s => spec_l1Parts_l2.P s.1 s.2.1 s.2.2.1) (fun s => [(Nat.beq (spec_l1Parts_l2.R s.1 s.2.1 s.2.2.1).1 0, spec_l1Parts_l2.o0 s.1 s.2.1 s.2.2.1 (spec_l1Parts_l2.R s.1 s.2.1 s.2.2.1))]) (fun s => spec_l1Parts_l2.o1 s.1 s.2.1 s.2.2.1 (spec_l1Parts_l2.R s.1 s.2.1 s.2.2.1)) (fun s => spec_l1Parts_l2.M s.1 s.2.1 s.2.2.1)
def spec_l1Parts.S (a0 : List Int) : Bool := bif Nat.beq (spec_l1Parts_l2.R a0 false 0).1 0 then ((spec_l1Parts_l2.R a0 false 0).2.1) else ((a0.length : Int) == 3)
def spec_l1Parts.enc (r : Bool) : AV × List Blk := (.v (.c (.bool r)), [])
def spec_l1Parts.L : ShL := sCons sInts (sNil)
def spec_l1Parts.c : Ctr := vctr 81 spec_l1Parts.L none (fun s => spec_l1Parts.enc (spec_l1Parts.S s.1))
theorem spec_l1Parts_l2.w (x2_0 : List Int) (x2_1 : Bool) (x2_2 : Int) : evBody (envS [spec_l6In.c] []) [] (bodyAt Try.f81 0) spec_l1Parts_l2.d (x2_0, (x2_1, (x2_2, ()))) = (And (Imp ((decide (x2_2 < (x2_0.length : Int))) = true) (And ((0 : Int) ≤ x2_2 ∧ x2_2 < (x2_0.length : Int)) (And (Imp ((!(spec_l6In.S (x2_0.getD (x2_2).toNat 0) 0 30)) = true) (spec_l1Parts_l2.o x2_0 x2_1 x2_2 (spec_l1Parts_l2.R x2_0 x2_1 x2_2) = (.ret, [.c (.arr false (.ints x2_0)), .c (.bool false), .c (.int x2_2)], []))) (Imp ((!(spec_l6In.S (x2_0.getD (x2_2).toNat 0) 0 30)) = false) (And (spec_l1Parts_l2.P x2_0 x2_1 (wrap (x2_2 + 1))) (And (spec_l1Parts_l2.M x2_0 x2_1 (wrap (x2_2 + 1)) < spec_l1Parts_l2.M x2_0 x2_1 x2_2) (spec_l1Parts_l2.o x2_0 x2_1 (wrap (x2_2 + 1)) (spec_l1Parts_l2.R x2_0 x2_1 (wrap (x2_2 + 1))) = spec_l1Parts_l2.o x2_0 x2_1 x2_2 (spec_l1Parts_l2.R x2_0 x2_1 x2_2)))))))) (Imp ((decide (x2_2 < (x2_0.length : Int))) = false) (spec_l1Parts_l2.o x2_0 x2_1 x2_2 (spec_l1Parts_l2.R x2_0 x2_1 x2_2) = (.exit 0, [.c (.arr false (.ints x2_0)), .c (.bool x2_1), .c (.int x2_2)], [])))) := by kernel_rfl
theorem spec_l1Parts_l2.v (x2_0 : List Int) (x2_1 : Bool) (x2_2 : Int) (hp : spec_l1Parts_l2.P x2_0 x2_1 x2_2) : And (Imp ((decide (x2_2 < (x2_0.length : Int))) = true) (And ((0 : Int) ≤ x2_2 ∧ x2_2 < (x2_0.length : Int)) (And (Imp ((!(spec_l6In.S (x2_0.getD (x2_2).toNat 0) 0 30)) = true) (spec_l1Parts_l2.o x2_0 x2_1 x2_2 (spec_l1Parts_l2.R x2_0 x2_1 x2_2) = (.ret, [.c (.arr false (.ints x2_0)), .c (.bool false), .c (.int x2_2)], []))) (Imp ((!(spec_l6In.S (x2_0.getD (x2_2).toNat 0) 0 30)) = false) (And (spec_l1Parts_l2.P x2_0 x2_1 (wrap (x2_2 + 1))) (And (spec_l1Parts_l2.M x2_0 x2_1 (wrap (x2_2 + 1)) < spec_l1Parts_l2.M x2_0 x2_1 x2_2) (spec_l1Parts_l2.o x2_0 x2_1 (wrap (x2_2 + 1)) (spec_l1Parts_l2.R x2_0 x2_1 (wrap (x2_2 + 1))) = spec_l1Parts_l2.o x2_0 x2_1 x2_2 (spec_l1Parts_l2.R x2_0 x2_1 x2_2)))))))) (Imp ((decide (x2_2 < (x2_0.length : Int))) = false) (spec_l1Parts_l2.o x2_0 x2_1 x2_2 (spec_l1Parts_l2.R x2_0 x2_1 x2_2) = (.exit 0, [.c (.arr false (.ints x2_0)), .c (.bool x2_1), .c (.int x2_2)], []))) := by
  simp only [spec_l1Parts_l2.P] at hp
  obtain ⟨p0, p1⟩ := hp
  refine ⟨fun h1 => ?_, fun h1 => ?_⟩
  · refine ⟨by first | exact True.intro | assumption | omega | grind [wrap_id], ?_⟩
    refine ⟨fun h2 => ?_, fun h2 => ?_⟩
    · have e : spec_l1Parts_l2.R x2_0 x2_1 x2_2 = (0, (false, (x2_2, ()))) := by unfold spec_l1Parts_l2.R; rw [spec_l1Parts_l2.S]; exact (cond_t h1).trans <| (cond_t h2).trans <| rfl
      rw [e]
      rfl
    · have hμ : spec_l1Parts_l2.M x2_0 x2_1 x2_2 = spec_l1Parts_l2.M x2_0 x2_1 (wrap (x2_2 + 1)) + 1 := by simp only [spec_l1Parts_l2.M]; first | omega | grind [wrap_id]
      refine ⟨by simp only [spec_l1Parts_l2.P]; refine ⟨(by first | exact True.intro | assumption | omega | grind [wrap_id]), (by first | exact True.intro | assumption | omega | grind [wrap_id])⟩, by omega, ?_⟩
      have e : spec_l1Parts_l2.R x2_0 x2_1 x2_2 = spec_l1Parts_l2.R x2_0 x2_1 (wrap (x2_2 + 1)) := by
        have e1 : spec_l1Parts_l2.R x2_0 x2_1 x2_2 = spec_l1Parts_l2.S (spec_l1Parts_l2.M x2_0 x2_1 x2_2) x2_0 x2_1 (wrap (x2_2 + 1)) := by unfold spec_l1Parts_l2.R; rw [spec_l1Parts_l2.S]; exact (cond_t h1).trans <| (cond_f h2).trans <| rfl
        rw [e1, hμ]
        rfl
      rw [e]
      rfl
  · have e : spec_l1Parts_l2.R x2_0 x2_1 x2_2 = (1, (false, (x2_2, ()))) := by unfold spec_l1Parts_l2.R; rw [spec_l1Parts_l2.S]; exact (cond_f h1).trans <| rfl
    rw [e]
    rfl
theorem spec_l1Parts_l2.g (hG : ∀ c ∈ [spec_l6In.c], Good Try.prog c) : LGood Try.prog Try.f81.ntmps spec_l1Parts_l2.d.ctr (bodyAt Try.f81 0) := by
  refine lgoodS (sp := []) (LL := []) hG (by kernel_rfl) (by rw [show loopsOf (bodyAt Try.f81 0) = [] from by kernel_rfl]; exact noL rfl) fun s hp => ?_
  refine Eq.mpr (spec_l1Parts_l2.w s.1 s.2.1 s.2.2.1) ?_
  replace hp : spec_l1Parts_l2.P s.1 s.2.1 s.2.2.1 := hp
  exact spec_l1Parts_l2.v _ _ _ hp
def spec_l1Parts_l2.E (x2_0 : List Int) (x2_1 : Bool) (k : Nat) (a : Unit) : Option (Nat × Bool × Int × Unit) := bif !(spec_l6In.S (x2_0.getD k 0) 0 30) then some (0, (false, ((k : Int), ()))) else none
def spec_l1Parts_l2.A (x2_0 : List Int) (x2_1 : Bool) (k : Nat) (a : Unit) : Unit := bif !(spec_l6In.S (x2_0.getD k 0) 0 30) then a else ()
def spec_l1Parts_l2.fin (x2_0 : List Int) (x2_1 : Bool) (k : Nat) (a : Unit) : Nat × Bool × Int × Unit := (1, (false, ((k : Int), ())))
def spec_l1Parts_l2.acc (x2_0 : List Int) (x2_1 : Bool) (a : Unit) : Nat → Unit
  | 0 => a
  | k + 1 => spec_l1Parts_l2.A x2_0 x2_1 k (spec_l1Parts_l2.acc x2_0 x2_1 a k)
theorem spec_l1Parts_l2.law (x2_0 : List Int) (x2_1 : Bool) (a : Unit) (n : Nat) (hT : (x2_0.length : Int) = (n : Int)) (hn : (n : Int) ≤ 9223372036854775807) :
    ((∀ k, k < n → spec_l1Parts_l2.E x2_0 x2_1 k (spec_l1Parts_l2.acc x2_0 x2_1 a k) = none) ∧ spec_l1Parts_l2.R x2_0 x2_1 0 = spec_l1Parts_l2.fin x2_0 x2_1 n (spec_l1Parts_l2.acc x2_0 x2_1 a n)) ∨ (∃ k r, k < n ∧ spec_l1Parts_l2.E x2_0 x2_1 k (spec_l1Parts_l2.acc x2_0 x2_1 a k) = some r ∧ (∀ j, j < k → spec_l1Parts_l2.E x2_0 x2_1 j (spec_l1Parts_l2.acc x2_0 x2_1 a j) = none) ∧ spec_l1Parts_l2.R x2_0 x2_1 0 = r) := by
  have hM : spec_l1Parts_l2.M x2_0 x2_1 0 + 1 = n + 1 := by simp only [spec_l1Parts_l2.M]; omega
  unfold spec_l1Parts_l2.R
  rw [hM]
  refine loopE (fun m i b => spec_l1Parts_l2.S m x2_0 x2_1 i) n hn (spec_l1Parts_l2.acc x2_0 x2_1 a) (spec_l1Parts_l2.E x2_0 x2_1 ) (spec_l1Parts_l2.fin x2_0 x2_1 ) fun m k hk => ?_
  have ha : spec_l1Parts_l2.acc x2_0 x2_1 a (k + 1) = spec_l1Parts_l2.A x2_0 x2_1 k (spec_l1Parts_l2.acc x2_0 x2_1 a k) := rfl
  rw [ha]
  generalize spec_l1Parts_l2.acc x2_0 x2_1 a k = b
  simp only [spec_l1Parts_l2.S, spec_l1Parts_l2.E, spec_l1Parts_l2.A, spec_l1Parts_l2.fin, hT, Int.toNat_natCast]
  all_goals grind
theorem spec_l1Parts.w (a0 : List Int) (K : AV → List Blk → Prop) : evFn (envS [spec_l6In.c] []) [spec_l1Parts_l2.d.ctr] [] [] Try.f81 [] (spec_l1Parts.L.enc (a0, ())) K = (And (spec_l1Parts_l2.P a0 false 0) (And (Imp (Nat.beq (spec_l1Parts_l2.R a0 false 0).1 0 = true) (K (.v (.c (.bool (spec_l1Parts_l2.R a0 false 0).2.1))) ([]))) (Imp (Nat.beq (spec_l1Parts_l2.R a0 false 0).1 0 = false) (K (.v (.c (.bool ((a0.length : Int) == 3)))) ([]))))) := by kernel_rfl
theorem spec_l1Parts.v (a0 : List Int) (hf : (a0.length : Int) ≤ 9223372036854775807 ∧ True) (K : AV → List Blk → Prop) (hK : K (spec_l1Parts.enc (spec_l1Parts.S a0)).1 (spec_l1Parts.enc (spec_l1Parts.S a0)).2) : And (spec_l1Parts_l2.P a0 false 0) (And (Imp (Nat.beq (spec_l1Parts_l2.R a0 false 0).1 0 = true) (K (.v (.c (.bool (spec_l1Parts_l2.R a0 false 0).2.1))) ([]))) (Imp (Nat.beq (spec_l1Parts_l2.R a0 false 0).1 0 = false) (K (.v (.c (.bool ((a0.length : Int) == 3)))) ([])))) := by
  obtain ⟨f0, -⟩ := hf
  try simp only [big] at *
  refine ⟨by simp only [spec_l1Parts_l2.P]; refine ⟨(by clear hK; first | exact True.intro | assumption | omega | grind [wrap_id]), (by clear hK; first | exact True.intro | assumption | omega | grind [wrap_id])⟩, ?_⟩
  refine ⟨fun h1 => ?_, fun h1 => ?_⟩
  · have e : spec_l1Parts.S a0 = ((spec_l1Parts_l2.R a0 false 0).2.1) := by unfold spec_l1Parts.S; exact (cond_t h1).trans <| rfl
    rw [e] at hK
    exact hK
  · have e : spec_l1Parts.S a0 = ((a0.length : Int) == 3) := by unfold spec_l1Parts.S; exact (cond_f h1).trans <| rfl
    rw [e] at hK
    exact hK
theorem spec_l1Parts.good : Good Try.prog spec_l1Parts.c :=
  vgood (sh := []) (sp := []) (LL := [spec_l1Parts_l2.d.ctr]) (consG spec_l6In.good noG) (fn := Try.f81) (by kernel_rfl) (by kernel_rfl) (by rw [show loopsOf (bodyOf Try.f81) = [(bodyAt Try.f81 0)] from by kernel_rfl]; exact consL (l := spec_l1Parts_l2.d.ctr) (by kernel_rfl) (spec_l1Parts_l2.g (consG spec_l6In.good noG)) (noL rfl)) fun s hp hf => by
    exact Eq.mpr (spec_l1Parts.w (s.1) (fun r bs' => And (r = (spec_l1Parts.c.out s).1) (bs' = (spec_l1Parts.c.out s).2))) (spec_l1Parts.v (s.1) hf (fun r bs' => And (r = (spec_l1Parts.c.out s).1) (bs' = (spec_l1Parts.c.out s).2)) ⟨rfl, rfl⟩)
/-! ### impl.amountTotal -/
def impl_amountTotal_l5.S : Nat → Int → Bool → Int → (List Int) → Int → Int → Nat × Int × Bool × Int × Int × Unit
  | 0, _, _, _, _, _, _ => (0, (0, (false, (0, (0, ())))))
  | n + 1, x5_0, x5_1, x5_2, x5_3, x5_4, x5_5 => bif decide (x5_5 < x5_4) then bif bif decide ((x5_3.getD (x5_5).toNat 0) < 0) then true else decide ((x5_3.getD (x5_5).toNat 0) > 30) then (0, (0, (false, (x5_2, (x5_5, ()))))) else impl_amountTotal_l5.S n x5_0 x5_1 (wrap (x5_2 + (x5_3.getD (x5_5).toNat 0))) x5_3 x5_4 (wrap (x5_5 + 1)) else (1, (x5_2, (false, (x5_5, (0, ())))))
def impl_amountTotal_l5.M (x5_0 : Int) (x5_1 : Bool) (x5_2 : Int) (x5_3 : List Int) (x5_4 : Int) (x5_5 : Int) : Nat := (x5_4 - x5_5).toNat
def impl_amountTotal_l5.R (x5_0 : Int) (x5_1 : Bool) (x5_2 : Int) (x5_3 : List Int) (x5_4 : Int) (x5_5 : Int) : Nat × Int × Bool × Int × Int × Unit := impl_amountTotal_l5.S (impl_amountTotal_l5.M x5_0 x5_1 x5_2 x5_3 x5_4 x5_5 + 1) x5_0 x5_1 x5_2 x5_3 x5_4 x5_5
def impl_amountTotal_l5.P (x5_0 : Int) (x5_1 : Bool) (x5_2 : Int) (x5_3 : List Int) (x5_4 : Int) (x5_5 : Int) : Prop := (0 ≤ x5_5) ∧ (x5_4 ≤ 9223372036854775807) ∧ (x5_4 = (x5_3.length : Int)) ∧ ((x5_4 != 3) = false)
def impl_amountTotal_l5.L : FL := fCons (fC cInt) (fCons (fC cBool) (fCons (fC cInt) (fCons (fC (cArr false kInts)) (fCons (fC cInt) (fCons (fC cInt) (fNil))))))
def impl_amountTotal_l5.o0 (x5_0 : Int) (x5_1 : Bool) (x5_2 : Int) (x5_3 : List Int) (x5_4 : Int) (x5_5 : Int) (r : Nat × Int × Bool × Int × Int × Unit) : Ex × List FV × List Blk := (.ret, [.c (.int r.2.1), .c (.bool r.2.2.1), .c (.int r.2.2.2.1), .c (.arr false (.ints x5_3)), .c (.int x5_4), .c (.int r.2.2.2.2.1)], [])
def impl_amountTotal_l5.o1 (x5_0 : Int) (x5_1 : Bool) (x5_2 : Int) (x5_3 : List Int) (x5_4 : Int) (x5_5 : Int) (r : Nat × Int × Bool × Int × Int × Unit) : Ex × List FV × List Blk := (.exit 0, [.c (.int x5_0), .c (.bool x5_1), .c (.int r.2.1), .c (.arr false (.ints x5_3)), .c (.int x5_4), .c (.int r.2.2.2.1)], [])
def impl_amountTotal_l5.o (x5_0 : Int) (x5_1 : Bool) (x5_2 : Int) (x5_3 : List Int) (x5_4 : Int) (x5_5 : Int) (r : Nat × Int × Bool × Int × Int × Unit) : Ex × List FV × List Blk := pickAlt [(Nat.beq r.1 0, impl_amountTotal_l5.o0 x5_0 x5_1 x5_2 x5_3 x5_4 x5_5 r)] (impl_amountTotal_l5.o1 x5_0 x5_1 x5_2 x5_3 x5_4 x5_5 r)
def impl_amountTotal_l5.d : LDat := ldat 5 [2, 3, 4, 10, 11, 12] [] impl_amountTotal_l5.L (fun s => impl_amountTotal_l5.P s.1 s.2.1 s.2.2.1 s.2.2.2.1 s.2.2.2.2.1 s.2.2.2.2.2.1) (fun s => [(Nat.beq (impl_amountTotal_l5.R s.1 s.2.1 s.2.2.1 s.2.2.2.1 s.2.2.2.2.1 s.2.2.2.2.2.1).1 0, impl_amountTotal_l5.o0 s.1 s.2.1 s.2.2.1 s.2.2.2.1 s.2.2.2.2.1 s.2.2.2.2.2.1 (impl_amountTotal_l5.R s.1 s.2.1 s.2.2.1 s.2.2.2.1 s.2.2.2.2.1 s.2.2.2.2.2.1))]) (fun s => impl_amountTotal_l5.o1 s.1 s.2.1 s.2.2.1 s.2.2.2.1 s.2.2.2.2.1 s.2.2.2.2.2.1 (impl_amountTotal_l5.R s.1 s.2.1 s.2.2.1 s.2.2.2.1 s.2.2.2.2.1 s.2.2.2.2.2.1)) (fun s => impl_amountTotal_l5.M s.1 s.2.1 s.2.2.1 s.2.2.2.1 s.2.2.2.2.1 s.2.2.2.2.2.1)
def impl_amountTotal.S (a0 : List Int) : Int × Bool := bif (a0.length : Int) != 3 then (0, false) else bif Nat.beq (impl_amountTotal_l5.R 0 false 0 a0 (a0.length : Int) 0).1 0 then ((impl_amountTotal_l5.R 0 false 0 a0 (a0.length : Int) 0).2.1, (impl_amountTotal_l5.R 0 false 0 a0 (a0.length : Int) 0).2.2.1) else ((impl_amountTotal_l5.R 0 false 0 a0 (a0.length : Int) 0).2.1, true)
def impl_amountTotal.enc (r : Int × Bool) : AV × List Blk := (.tup [.c (.int r.1), .c (.bool r.2)], [])
def impl_amountTotal.L : ShL := sCons sInts (sNil)
def impl_amountTotal.c : Ctr := vctr 64 impl_amountTotal.L none (fun s => impl_amountTotal.enc (impl_amountTotal.S s.1))
theorem impl_amountTotal_l5.w (x5_0 : Int) (x5_1 : Bool) (x5_2 : Int) (x5_3 : List Int) (x5_4 : Int) (x5_5 : Int) : evBody (envS [] []) [] (bodyAt Try.f64 0) impl_amountTotal_l5.d (x5_0, (x5_1, (x5_2, (x5_3, (x5_4, (x5_5, ())))))) = (And (Imp ((decide (x5_5 < x5_4)) = true) (And ((0 : Int) ≤ x5_5 ∧ x5_5 < (x5_3.length : Int)) (And (Imp ((bif decide ((x5_3.getD (x5_5).toNat 0) < 0) then true else decide ((x5_3.getD (x5_5).toNat 0) > 30)) = true) (impl_amountTotal_l5.o x5_0 x5_1 x5_2 x5_3 x5_4 x5_5 (impl_amountTotal_l5.R x5_0 x5_1 x5_2 x5_3 x5_4 x5_5) = (.ret, [.c (.int 0), .c (.bool false), .c (.int x5_2), .c (.arr false (.ints x5_3)), .c (.int x5_4), .c (.int x5_5)], []))) (Imp ((bif decide ((x5_3.getD (x5_5).toNat 0) < 0) then true else decide ((x5_3.getD (x5_5).toNat 0) > 30)) = false) (And (impl_amountTotal_l5.P x5_0 x5_1 (wrap (x5_2 + (x5_3.getD (x5_5).toNat 0))) x5_3 x5_4 (wrap (x5_5 + 1))) (And (impl_amountTotal_l5.M x5_0 x5_1 (wrap (x5_2 + (x5_3.getD (x5_5).toNat 0))) x5_3 x5_4 (wrap (x5_5 + 1)) < impl_amountTotal_l5.M x5_0 x5_1 x5_2 x5_3 x5_4 x5_5) (impl_amountTotal_l5.o x5_0 x5_1 (wrap (x5_2 + (x5_3.getD (x5_5).toNat 0))) x5_3 x5_4 (wrap (x5_5 + 1)) (impl_amountTotal_l5.R x5_0 x5_1 (wrap (x5_2 + (x5_3.getD (x5_5).toNat 0))) x5_3 x5_4 (wrap (x5_5 + 1))) = impl_amountTotal_l5.o x5_0 x5_1 x5_2 x5_3 x5_4 x5_5 (impl_amountTotal_l5.R x5_0 x5_1 x5_2 x5_3 x5_4 x5_5)))))))) (Imp ((decide (x5_5 < x5_4)) = false) (impl_amountTotal_l5.o x5_0 x5_1 x5_2 x5_3 x5_4 x5_5 (impl_amountTotal_l5.R x5_0 x5_1 x5_2 x5_3 x5_4 x5_5) = (.exit 0, [.c (.int x5_0), .c (.bool x5_1), .c (.int x5_2), .c (.arr false (.ints x5_3)), .c (.int x5_4), .c (.int x5_5)], [])))) := by kernel_rfl
theorem impl_amountTotal_l5.v (x5_0 : Int) (x5_1 : Bool) (x5_2 : Int) (x5_3 : List Int) (x5_4 : Int) (x5_5 : Int) (hp : impl_amountTotal_l5.P x5_0 x5_1 x5_2 x5_3 x5_4 x5_5) : And (Imp ((decide (x5_5 < x5_4)) = true) (And ((0 : Int) ≤ x5_5 ∧ x5_5 < (x5_3.length : Int)) (And (Imp ((bif decide ((x5_3.getD (x5_5).toNat 0) < 0) then true else decide ((x5_3.getD (x5_5).toNat 0) > 30)) = true) (impl_amountTotal_l5.o x5_0 x5_1 x5_2 x5_3 x5_4 x5_5 (impl_amountTotal_l5.R x5_0 x5_1 x5_2 x5_3 x5_4 x5_5) = (.ret, [.c (.int 0), .c (.bool false), .c (.int x5_2), .c (.arr false (.ints x5_3)), .c (.int x5_4), .c (.int x5_5)], []))) (Imp ((bif decide ((x5_3.getD (x5_5).toNat 0) < 0) then true else decide ((x5_3.getD (x5_5).toNat 0) > 30)) = false) (And (impl_amountTotal_l5.P x5_0 x5_1 (wrap (x5_2 + (x5_3.getD (x5_5).toNat 0))) x5_3 x5_4 (wrap (x5_5 + 1))) (And (impl_amountTotal_l5.M x5_0 x5_1 (wrap (x5_2 + (x5_3.getD (x5_5).toNat 0))) x5_3 x5_4 (wrap (x5_5 + 1)) < impl_amountTotal_l5.M x5_0 x5_1 x5_2 x5_3 x5_4 x5_5) (impl_amountTotal_l5.o x5_0 x5_1 (wrap (x5_2 + (x5_3.getD (x5_5).toNat 0))) x5_3 x5_4 (wrap (x5_5 + 1)) (impl_amountTotal_l5.R x5_0 x5_1 (wrap (x5_2 + (x5_3.getD (x5_5).toNat 0))) x5_3 x5_4 (wrap (x5_5 + 1))) = impl_amountTotal_l5.o x5_0 x5_1 x5_2 x5_3 x5_4 x5_5 (impl_amountTotal_l5.R x5_0 x5_1 x5_2 x5_3 x5_4 x5_5)))))))) (Imp ((decide (x5_5 < x5_4)) = false) (impl_amountTotal_l5.o x5_0 x5_1 x5_2 x5_3 x5_4 x5_5 (impl_amountTotal_l5.R x5_0 x5_1 x5_2 x5_3 x5_4 x5_5) = (.exit 0, [.c (.int x5_0), .c (.bool x5_1), .c (.int x5_2), .c (.arr false (.ints x5_3)), .c (.int x5_4), .c (.int x5_5)], []))) := by
  simp only [impl_amountTotal_l5.P] at hp
  obtain ⟨p0, p1, p2, p3⟩ := hp
  refine ⟨fun h1 => ?_, fun h1 => ?_⟩
  · refine ⟨by first | exact True.intro | assumption | omega | grind [wrap_id], ?_⟩
    refine ⟨fun h2 => ?_, fun h2 => ?_⟩
    · have e : impl_amountTotal_l5.R x5_0 x5_1 x5_2 x5_3 x5_4 x5_5 = (0, (0, (false, (x5_2, (x5_5, ()))))) := by unfold impl_amountTotal_l5.R; rw [impl_amountTotal_l5.S]; exact (cond_t h1).trans <| (cond_t h2).trans <| rfl
      rw [e]
      rfl
    · have hμ : impl_amountTotal_l5.M x5_0 x5_1 x5_2 x5_3 x5_4 x5_5 = impl_amountTotal_l5.M x5_0 x5_1 (wrap (x5_2 + (x5_3.getD (x5_5).toNat 0))) x5_3 x5_4 (wrap (x5_5 + 1)) + 1 := by simp only [impl_amountTotal_l5.M]; first | omega | grind [wrap_id]
      refine ⟨by simp only [impl_amountTotal_l5.P]; refine ⟨(by first | exact True.intro | assumption | omega | grind [wrap_id]), (by first | exact True.intro | assumption | omega | grind [wrap_id]), (by first | exact True.intro | assumption | omega | grind [wrap_id]), (by first | exact True.intro | assumption | omega | grind [wrap_id])⟩, by omega, ?_⟩
      have e : impl_amountTotal_l5.R x5_0 x5_1 x5_2 x5_3 x5_4 x5_5 = impl_amountTotal_l5.R x5_0 x5_1 (wrap (x5_2 + (x5_3.getD (x5_5).toNat 0))) x5_3 x5_4 (wrap (x5_5 + 1)) := by
        have e1 : impl_amountTotal_l5.R x5_0 x5_1 x5_2 x5_3 x5_4 x5_5 = impl_amountTotal_l5.S (impl_amountTotal_l5.M x5_0 x5_1 x5_2 x5_3 x5_4 x5_5) x5_0 x5_1 (wrap (x5_2 + (x5_3.getD (x5_5).toNat 0))) x5_3 x5_4 (wrap (x5_5 + 1)) := by unfold impl_amountTotal_l5.R; rw [impl_amountTotal_l5.S]; exact (cond_t h1).trans <| (cond_f h2).trans <| rfl
        rw [e1, hμ]
        rfl
      rw [e]
      rfl
  · have e : impl_amountTotal_l5.R x5_0 x5_1 x5_2 x5_3 x5_4 x5_5 = (1, (x5_2, (false, (x5_5, (0, ()))))) := by unfold impl_amountTotal_l5.R; rw [impl_amountTotal_l5.S]; exact (cond_f h1).trans <| rfl
    rw [e]
    rfl
theorem impl_amountTotal_l5.g (hG : ∀ c ∈ [], Good Try.prog c) : LGood Try.prog Try.f64.ntmps impl_amountTotal_l5.d.ctr (bodyAt Try.f64 0) := by
  refine lgoodS (sp := []) (LL := []) hG (by kernel_rfl) (by rw [show loopsOf (bodyAt Try.f64 0) = [] from by kernel_rfl]; exact noL rfl) fun s hp => ?_
  refine Eq.mpr (impl_amountTotal_l5.w s.1 s.2.1 s.2.2.1 s.2.2.2.1 s.2.2.2.2.1 s.2.2.2.2.2.1) ?_
  replace hp : impl_amountTotal_l5.P s.1 s.2.1 s.2.2.1 s.2.2.2.1 s.2.2.2.2.1 s.2.2.2.2.2.1 := hp
  exact impl_amountTotal_l5.v _ _ _ _ _ _ hp
def impl_amountTotal_l5.E (x5_0 : Int) (x5_1 : Bool) (x5_3 : List Int) (x5_4 : Int) (k : Nat) (a : Int) : Option (Nat × Int × Bool × Int × Int × Unit) := bif bif decide ((x5_3.getD k 0) < 0) then true else decide ((x5_3.getD k 0) > 30) then some (0, (0, (false, (a, ((k : Int), ()))))) else none
def impl_amountTotal_l5.A (x5_0 : Int) (x5_1 : Bool) (x5_3 : List Int) (x5_4 : Int) (k : Nat) (a : Int) : Int := bif bif decide ((x5_3.getD k 0) < 0) then true else decide ((x5_3.getD k 0) > 30) then a else (wrap (a + (x5_3.getD k 0)))
def impl_amountTotal_l5.fin (x5_0 : Int) (x5_1 : Bool) (x5_3 : List Int) (x5_4 : Int) (k : Nat) (a : Int) : Nat × Int × Bool × Int × Int × Unit := (1, (a, (false, ((k : Int), (0, ())))))
def impl_amountTotal_l5.acc (x5_0 : Int) (x5_1 : Bool) (x5_3 : List Int) (x5_4 : Int) (a : Int) : Nat → Int
  | 0 => a
  | k + 1 => impl_amountTotal_l5.A x5_0 x5_1 x5_3 x5_4 k (impl_amountTotal_l5.acc x5_0 x5_1 x5_3 x5_4 a k)
theorem impl_amountTotal_l5.law (x5_0 : Int) (x5_1 : Bool) (x5_3 : List Int) (x5_4 : Int) (a : Int) (n : Nat) (hT : x5_4 = (n : Int)) (hn : (n : Int) ≤ 9223372036854775807) :
    ((∀ k, k < n → impl_amountTotal_l5.E x5_0 x5_1 x5_3 x5_4 k (impl_amountTotal_l5.acc x5_0 x5_1 x5_3 x5_4 a k) = none) ∧ impl_amountTotal_l5.R x5_0 x5_1 a x5_3 x5_4 0 = impl_amountTotal_l5.fin x5_0 x5_1 x5_3 x5_4 n (impl_amountTotal_l5.acc x5_0 x5_1 x5_3 x5_4 a n)) ∨ (∃ k r, k < n ∧ impl_amountTotal_l5.E x5_0 x5_1 x5_3 x5_4 k (impl_amountTotal_l5.acc x5_0 x5_1 x5_3 x5_4 a k) = some r ∧ (∀ j, j < k → impl_amountTotal_l5.E x5_0 x5_1 x5_3 x5_4 j (impl_amountTotal_l5.acc x5_0 x5_1 x5_3 x5_4 a j) = none) ∧ impl_amountTotal_l5.R x5_0 x5_1 a x5_3 x5_4 0 = r) := by
  have hM : impl_amountTotal_l5.M x5_0 x5_1 a x5_3 x5_4 0 + 1 = n + 1 := by simp only [impl_amountTotal_l5.M]; omega
  unfold impl_amountTotal_l5.R
  rw [hM]
  refine loopE (fun m i b => impl_amountTotal_l5.S m x5_0 x5_1 b x5_3 x5_4 i) n hn (impl_amountTotal_l5.acc x5_0 x5_1 x5_3 x5_4 a) (impl_amountTotal_l5.E x5_0 x5_1 x5_3 x5_4 ) (impl_amountTotal_l5.fin x5_0 x5_1 x5_3 x5_4 ) fun m k hk => ?_
  have ha : impl_amountTotal_l5.acc x5_0 x5_1 x5_3 x5_4 a (k + 1) = impl_amountTotal_l5.A x5_0 x5_1 x5_3 x5_4 k (impl_amountTotal_l5.acc x5_0 x5_1 x5_3 x5_4 a k) := rfl
  rw [ha]
  generalize impl_amountTotal_l5.acc x5_0 x5_1 x5_3 x5_4 a k = b
  simp only [impl_amountTotal_l5.S, impl_amountTotal_l5.E, impl_amountTotal_l5.A, impl_amountTotal_l5.fin, hT, Int.toNat_natCast]
  all_goals grind
theorem impl_amountTotal.w (a0 : List Int) (K : AV → List Blk → Prop) : evFn (envS [] []) [impl_amountTotal_l5.d.ctr] [] [] Try.f64 [] (impl_amountTotal.L.enc (a0, ())) K = (And (Imp (((a0.length : Int) != 3) = true) (K (.tup [.c (.int 0), .c (.bool false)]) ([]))) (Imp (((a0.length : Int) != 3) = false) (And (impl_amountTotal_l5.P 0 false 0 a0 (a0.length : Int) 0) (And (Imp (Nat.beq (impl_amountTotal_l5.R 0 false 0 a0 (a0.length : Int) 0).1 0 = true) (K (.tup [.c (.int (impl_amountTotal_l5.R 0 false 0 a0 (a0.length : Int) 0).2.1), .c (.bool (impl_amountTotal_l5.R 0 false 0 a0 (a0.length : Int) 0).2.2.1)]) ([]))) (Imp (Nat.beq (impl_amountTotal_l5.R 0 false 0 a0 (a0.length : Int) 0).1 0 = false) (K (.tup [.c (.int (impl_amountTotal_l5.R 0 false 0 a0 (a0.length : Int) 0).2.1), .c (.bool true)]) ([]))))))) := by kernel_rfl
theorem impl_amountTotal.v (a0 : List Int) (hf : (a0.length : Int) ≤ 9223372036854775807 ∧ True) (K : AV → List Blk → Prop) (hK : K (impl_amountTotal.enc (impl_amountTotal.S a0)).1 (impl_amountTotal.enc (impl_amountTotal.S a0)).2) : And (Imp (((a0.length : Int) != 3) = true) (K (.tup [.c (.int 0), .c (.bool false)]) ([]))) (Imp (((a0.length : Int) != 3) = false) (And (impl_amountTotal_l5.P 0 false 0 a0 (a0.length : Int) 0) (And (Imp (Nat.beq (impl_amountTotal_l5.R 0 false 0 a0 (a0.length : Int) 0).1 0 = true) (K (.tup [.c (.int (impl_amountTotal_l5.R 0 false 0 a0 (a0.length : Int) 0).2.1), .c (.bool (impl_amountTotal_l5.R 0 false 0 a0 (a0.length : Int) 0).2.2.1)]) ([]))) (Imp (Nat.beq (impl_amountTotal_l5.R 0 false 0 a0 (a0.length : Int) 0).1 0 = false) (K (.tup [.c (.int (impl_amountTotal_l5.R 0 false 0 a0 (a0.length : Int) 0).2.1), .c (.bool true)]) ([])))))) := by
  obtain ⟨f0, -⟩ := hf
  try simp only [big] at *
  refine ⟨fun h1 => ?_, fun h1 => ?_⟩
  · have e : impl_amountTotal.S a0 = (0, false) := by unfold impl_amountTotal.S; exact (cond_t h1).trans <| rfl
    rw [e] at hK
    exact hK
  · refine ⟨by simp only [impl_amountTotal_l5.P]; refine ⟨(by clear hK; first | exact True.intro | assumption | omega | grind [wrap_id]), (by clear hK; first | exact True.intro | assumption | omega | grind [wrap_id]), (by clear hK; first | exact True.intro | assumption | omega | grind [wrap_id]), (by clear hK; first | exact True.intro | assumption | omega | grind [wrap_id])⟩, ?_⟩
    refine ⟨fun h2 => ?_, fun h2 => ?_⟩
    · have e : impl_amountTotal.S a0 = ((impl_amountTotal_l5.R 0 false 0 a0 (a0.length : Int) 0).2.1, (impl_amountTotal_l5.R 0 false 0 a0 (a0.length : Int) 0).2.2.1) := by unfold impl_amountTotal.S; exact (cond_f h1).trans <| (cond_t h2).trans <| rfl
      rw [e] at hK
      exact hK
    · have e : impl_amountTotal.S a0 = ((impl_amountTotal_l5.R 0 false 0 a0 (a0.length : Int) 0).2.1, true) := by unfold impl_amountTotal.S; exact (cond_f h1).trans <| (cond_f h2).trans <| rfl
      rw [e] at hK
      exact hK
theorem impl_amountTotal.good : Good Try.prog impl_amountTotal.c :=
  vgood (sh := []) (sp := []) (LL := [impl_amountTotal_l5.d.ctr]) noG (fn := Try.f64) (by kernel_rfl) (by kernel_rfl) (by rw [show loopsOf (bodyOf Try.f64) = [(bodyAt Try.f64 0)] from by kernel_rfl]; exact consL (l := impl_amountTotal_l5.d.ctr) (by kernel_rfl) (impl_amountTotal_l5.g noG) (noL rfl)) fun s hp hf => by
    exact Eq.mpr (impl_amountTotal.w (s.1) (fun r bs' => And (r = (impl_amountTotal.c.out s).1) (bs' = (impl_amountTotal.c.out s).2))) (impl_amountTotal.v (s.1) hf (fun r bs' => And (r = (impl_amountTotal.c.out s).1) (bs' = (impl_amountTotal.c.out s).2)) ⟨rfl, rfl⟩)
/-! ### spec.BankOk -/
def spec_BankOk.S (a0 : Bk) : Bool := (bif bif bif bif (spec_l1Parts.S a0.own) then (spec_l1Parts.S a0.notes) else false then decide (a0.locked ≥ 0) else false then (wrap ((spec_l1All.S a0.own) + a0.locked)) == 30 else false then decide ((spec_l1All.S a0.notes) ≤ 30) else false)
def spec_BankOk.enc (r : Bool) : AV × List Blk := (.v (.c (.bool r)), [])
def spec_BankOk.L : ShL := sCons sBk (sNil)
def spec_BankOk.c : Ctr := vctr 55 spec_BankOk.L none (fun s => spec_BankOk.enc (spec_BankOk.S s.1))
theorem spec_BankOk.w (a0 : Bk) (K : AV → List Blk → Prop) : evFn (envS [spec_l1Parts.c, spec_l1All.c] []) [] [] [] Try.f55 [] (spec_BankOk.L.enc (a0, ())) K = (K (.v (.c (.bool (bif bif bif bif (spec_l1Parts.S a0.own) then (spec_l1Parts.S a0.notes) else false then decide (a0.locked ≥ 0) else false then (wrap ((spec_l1All.S a0.own) + a0.locked)) == 30 else false then decide ((spec_l1All.S a0.notes) ≤ 30) else false)))) ([])) := by kernel_rfl
theorem spec_BankOk.v (a0 : Bk) (hf : Bk.fact a0 ∧ True) (K : AV → List Blk → Prop) (hK : K (spec_BankOk.enc (spec_BankOk.S a0)).1 (spec_BankOk.enc (spec_BankOk.S a0)).2) : K (.v (.c (.bool (bif bif bif bif (spec_l1Parts.S a0.own) then (spec_l1Parts.S a0.notes) else false then decide (a0.locked ≥ 0) else false then (wrap ((spec_l1All.S a0.own) + a0.locked)) == 30 else false then decide ((spec_l1All.S a0.notes) ≤ 30) else false)))) ([]) := by
  obtain ⟨f0, -⟩ := hf
  obtain ⟨f0_0, f0_1⟩ := f0
  try simp only [big] at *
  have e : spec_BankOk.S a0 = (bif bif bif bif (spec_l1Parts.S a0.own) then (spec_l1Parts.S a0.notes) else false then decide (a0.locked ≥ 0) else false then (wrap ((spec_l1All.S a0.own) + a0.locked)) == 30 else false then decide ((spec_l1All.S a0.notes) ≤ 30) else false) := by unfold spec_BankOk.S; exact rfl
  rw [e] at hK
  exact hK
theorem spec_BankOk.good : Good Try.prog spec_BankOk.c :=
  vgood (sh := []) (sp := []) (LL := []) (consG spec_l1Parts.good (consG spec_l1All.good noG)) (fn := Try.f55) (by kernel_rfl) (by kernel_rfl) (by rw [show loopsOf (bodyOf Try.f55) = [] from by kernel_rfl]; exact noL rfl) fun s hp hf => by
    exact Eq.mpr (spec_BankOk.w (s.1) (fun r bs' => And (r = (spec_BankOk.c.out s).1) (bs' = (spec_BankOk.c.out s).2))) (spec_BankOk.v (s.1) hf (fun r bs' => And (r = (spec_BankOk.c.out s).1) (bs' = (spec_BankOk.c.out s).2)) ⟨rfl, rfl⟩)
/-! ### impl.BankOk -/
def impl_BankOk.S (a0 : Bk) : Bool := bif !(impl_amountTotal.S a0.own).2 then (false) else bif !(impl_amountTotal.S a0.notes).2 then (false) else (bif bif decide (a0.locked ≥ 0) then a0.locked == (wrap (30 - (impl_amountTotal.S a0.own).1)) else false then decide ((impl_amountTotal.S a0.notes).1 ≤ 30) else false)
def impl_BankOk.enc (r : Bool) : AV × List Blk := (.v (.c (.bool r)), [])
def impl_BankOk.L : ShL := sCons sBk (sNil)
def impl_BankOk.c : Ctr := vctr 52 impl_BankOk.L none (fun s => impl_BankOk.enc (impl_BankOk.S s.1))
theorem impl_BankOk.w (a0 : Bk) (K : AV → List Blk → Prop) : evFn (envS [impl_amountTotal.c] []) [] [] [] Try.f52 [] (impl_BankOk.L.enc (a0, ())) K = (And (Imp ((!(impl_amountTotal.S a0.own).2) = true) (K (.v (.c (.bool false))) ([]))) (Imp ((!(impl_amountTotal.S a0.own).2) = false) (And (Imp ((!(impl_amountTotal.S a0.notes).2) = true) (K (.v (.c (.bool false))) ([]))) (Imp ((!(impl_amountTotal.S a0.notes).2) = false) (K (.v (.c (.bool (bif bif decide (a0.locked ≥ 0) then a0.locked == (wrap (30 - (impl_amountTotal.S a0.own).1)) else false then decide ((impl_amountTotal.S a0.notes).1 ≤ 30) else false)))) ([])))))) := by kernel_rfl
theorem impl_BankOk.v (a0 : Bk) (hf : Bk.fact a0 ∧ True) (K : AV → List Blk → Prop) (hK : K (impl_BankOk.enc (impl_BankOk.S a0)).1 (impl_BankOk.enc (impl_BankOk.S a0)).2) : And (Imp ((!(impl_amountTotal.S a0.own).2) = true) (K (.v (.c (.bool false))) ([]))) (Imp ((!(impl_amountTotal.S a0.own).2) = false) (And (Imp ((!(impl_amountTotal.S a0.notes).2) = true) (K (.v (.c (.bool false))) ([]))) (Imp ((!(impl_amountTotal.S a0.notes).2) = false) (K (.v (.c (.bool (bif bif decide (a0.locked ≥ 0) then a0.locked == (wrap (30 - (impl_amountTotal.S a0.own).1)) else false then decide ((impl_amountTotal.S a0.notes).1 ≤ 30) else false)))) ([]))))) := by
  obtain ⟨f0, -⟩ := hf
  obtain ⟨f0_0, f0_1⟩ := f0
  try simp only [big] at *
  refine ⟨fun h1 => ?_, fun h1 => ?_⟩
  · have e : impl_BankOk.S a0 = (false) := by unfold impl_BankOk.S; exact (cond_t h1).trans <| rfl
    rw [e] at hK
    exact hK
  · refine ⟨fun h2 => ?_, fun h2 => ?_⟩
    · have e : impl_BankOk.S a0 = (false) := by unfold impl_BankOk.S; exact (cond_f h1).trans <| (cond_t h2).trans <| rfl
      rw [e] at hK
      exact hK
    · have e : impl_BankOk.S a0 = (bif bif decide (a0.locked ≥ 0) then a0.locked == (wrap (30 - (impl_amountTotal.S a0.own).1)) else false then decide ((impl_amountTotal.S a0.notes).1 ≤ 30) else false) := by unfold impl_BankOk.S; exact (cond_f h1).trans <| (cond_f h2).trans <| rfl
      rw [e] at hK
      exact hK
theorem impl_BankOk.good : Good Try.prog impl_BankOk.c :=
  vgood (sh := []) (sp := []) (LL := []) (consG impl_amountTotal.good noG) (fn := Try.f52) (by kernel_rfl) (by kernel_rfl) (by rw [show loopsOf (bodyOf Try.f52) = [] from by kernel_rfl]; exact noL rfl) fun s hp hf => by
    exact Eq.mpr (impl_BankOk.w (s.1) (fun r bs' => And (r = (impl_BankOk.c.out s).1) (bs' = (impl_BankOk.c.out s).2))) (impl_BankOk.v (s.1) hf (fun r bs' => And (r = (impl_BankOk.c.out s).1) (bs' = (impl_BankOk.c.out s).2)) ⟨rfl, rfl⟩)
end Hw
end Go.Proofs.Ytmhighcagpbmeaa
