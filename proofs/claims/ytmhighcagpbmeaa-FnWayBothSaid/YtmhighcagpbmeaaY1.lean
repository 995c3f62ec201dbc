/- Functions that only read, 2: made by gen.py. -/
import Derived.Test.YtmhighcagpbmeaaY0
set_option linter.unusedVariables false
set_option linter.unusedSimpArgs false
set_option maxRecDepth 100000
set_option maxHeartbeats 400000
namespace Go.Proofs.Ytmhighcagpbmeaa
namespace Hw
open Go
attribute [local irreducible] evFn evBody wrap wxor
/-! ### spec.StateOk -/
def spec_StateOk_l5.S : Nat → St → Bool → Int → Int → Nat × Bool × Int × Unit
  | 0, _, _, _, _ => (0, (false, (0, ())))
  | n + 1, x5_0, x5_1, x5_2, x5_3 => bif decide (x5_3 < x5_2) then bif bif bif bif !(spec_PacketOk.S (x5_0.sent.getD (x5_3).toNat zPkt)) then true else (x5_0.sent.getD (x5_3).toNat zPkt).seq != (wrap (x5_3 + 1)) then true else bif x5_0.live.getD (x5_3).toNat false then x5_0.back.getD (x5_3).toNat false else false then true else decide ((x5_0.sent.getD (x5_3).toNat zPkt).ver > x5_0.ver) then (0, (false, (x5_3, ()))) else spec_StateOk_l5.S n x5_0 x5_1 x5_2 (wrap (x5_3 + 1)) else (1, (false, (x5_3, ())))
def spec_StateOk_l5.M (x5_0 : St) (x5_1 : Bool) (x5_2 : Int) (x5_3 : Int) : Nat := (x5_2 - x5_3).toNat
def spec_StateOk_l5.R (x5_0 : St) (x5_1 : Bool) (x5_2 : Int) (x5_3 : Int) : Nat × Bool × Int × Unit := spec_StateOk_l5.S (spec_StateOk_l5.M x5_0 x5_1 x5_2 x5_3 + 1) x5_0 x5_1 x5_2 x5_3
def spec_StateOk_l5.P (x5_0 : St) (x5_1 : Bool) (x5_2 : Int) (x5_3 : Int) : Prop := (0 ≤ x5_3) ∧ (x5_2 ≤ 9223372036854775807) ∧ (x5_2 = (x5_0.sent.length : Int)) ∧ ((bif bif bif bif bif !(spec_l6In.S x5_0.way 0 4) then true else !(spec_l6In.S x5_0.ver 1 9) then true else decide (x5_2 > 8) then true else (x5_0.live.length : Int) != x5_2 then true else (x5_0.back.length : Int) != x5_2 then true else (x5_0.got.length : Int) != 8) = false)
def spec_StateOk_l5.L : FL := fCons (fC (cPtr 1 (cStE false) rfl)) (fCons (fC cBool) (fCons (fC cInt) (fCons (fC cInt) (fNil))))
def spec_StateOk_l5.o0 (x5_0 : St) (x5_1 : Bool) (x5_2 : Int) (x5_3 : Int) (r : Nat × Bool × Int × Unit) : Ex × List FV × List Blk := (.ret, [.c (.ptr 0 0), .c (.bool r.2.1), .c (.int x5_2), .c (.int r.2.2.1)], [.raw 1 [.int x5_0.way, .int x5_0.ver, .int x5_0.want, .arr false (.pkts x5_0.sent), .arr false (.bools x5_0.live), .arr false (.bools x5_0.back), .arr false (.ints x5_0.got)]])
def spec_StateOk_l5.o1 (x5_0 : St) (x5_1 : Bool) (x5_2 : Int) (x5_3 : Int) (r : Nat × Bool × Int × Unit) : Ex × List FV × List Blk := (.exit 0, [.c (.ptr 0 0), .c (.bool x5_1), .c (.int x5_2), .c (.int r.2.2.1)], [.raw 1 [.int x5_0.way, .int x5_0.ver, .int x5_0.want, .arr false (.pkts x5_0.sent), .arr false (.bools x5_0.live), .arr false (.bools x5_0.back), .arr false (.ints x5_0.got)]])
def spec_StateOk_l5.o (x5_0 : St) (x5_1 : Bool) (x5_2 : Int) (x5_3 : Int) (r : Nat × Bool × Int × Unit) : Ex × List FV × List Blk := pickAlt [(Nat.beq r.1 0, spec_StateOk_l5.o0 x5_0 x5_1 x5_2 x5_3 r)] (spec_StateOk_l5.o1 x5_0 x5_1 x5_2 x5_3 r)
def spec_StateOk_l5.d : LDat := ldat 5 [1, 2, 3, 4] [] spec_StateOk_l5.L (fun s => spec_StateOk_l5.P s.1 s.2.1 s.2.2.1 s.2.2.2.1) (fun s => [(Nat.beq (spec_StateOk_l5.R s.1 s.2.1 s.2.2.1 s.2.2.2.1).1 0, spec_StateOk_l5.o0 s.1 s.2.1 s.2.2.1 s.2.2.2.1 (spec_StateOk_l5.R s.1 s.2.1 s.2.2.1 s.2.2.2.1))]) (fun s => spec_StateOk_l5.o1 s.1 s.2.1 s.2.2.1 s.2.2.2.1 (spec_StateOk_l5.R s.1 s.2.1 s.2.2.1 s.2.2.2.1)) (fun s => spec_StateOk_l5.M s.1 s.2.1 s.2.2.1 s.2.2.2.1)
def spec_StateOk_l10.S : Nat → St → Bool → Int → Nat × Bool × Int × Unit
  | 0, _, _, _ => (0, (false, (0, ())))
  | n + 1, x10_0, x10_1, x10_2 => bif decide (x10_2 < (x10_0.got.length : Int)) then bif !(spec_l6In.S (x10_0.got.getD (x10_2).toNat 0) 0 2) then (0, (false, (x10_2, ()))) else spec_StateOk_l10.S n x10_0 x10_1 (wrap (x10_2 + 1)) else (1, (false, (x10_2, ())))
def spec_StateOk_l10.M (x10_0 : St) (x10_1 : Bool) (x10_2 : Int) : Nat := ((x10_0.got.length : Int) - x10_2).toNat
def spec_StateOk_l10.R (x10_0 : St) (x10_1 : Bool) (x10_2 : Int) : Nat × Bool × Int × Unit := spec_StateOk_l10.S (spec_StateOk_l10.M x10_0 x10_1 x10_2 + 1) x10_0 x10_1 x10_2
def spec_StateOk_l10.P (x10_0 : St) (x10_1 : Bool) (x10_2 : Int) : Prop := (0 ≤ x10_2) ∧ ((x10_0.got.length : Int) ≤ 9223372036854775807) ∧ ((bif bif bif bif bif !(spec_l6In.S x10_0.way 0 4) then true else !(spec_l6In.S x10_0.ver 1 9) then true else decide ((x10_0.sent.length : Int) > 8) then true else (x10_0.live.length : Int) != (x10_0.sent.length : Int) then true else (x10_0.back.length : Int) != (x10_0.sent.length : Int) then true else (x10_0.got.length : Int) != 8) = false)
def spec_StateOk_l10.L : FL := fCons (fC (cPtr 1 (cStE false) rfl)) (fCons (fC cBool) (fCons (fC cInt) (fNil)))
def spec_StateOk_l10.o0 (x10_0 : St) (x10_1 : Bool) (x10_2 : Int) (r : Nat × Bool × Int × Unit) : Ex × List FV × List Blk := (.ret, [.c (.ptr 0 0), .c (.bool r.2.1), .c (.int r.2.2.1)], [.raw 1 [.int x10_0.way, .int x10_0.ver, .int x10_0.want, .arr false (.pkts x10_0.sent), .arr false (.bools x10_0.live), .arr false (.bools x10_0.back), .arr false (.ints x10_0.got)]])
def spec_StateOk_l10.o1 (x10_0 : St) (x10_1 : Bool) (x10_2 : Int) (r : Nat × Bool × Int × Unit) : Ex × List FV × List Blk := (.exit 2, [.c (.ptr 0 0), .c (.bool x10_1), .c (.int r.2.2.1)], [.raw 1 [.int x10_0.way, .int x10_0.ver, .int x10_0.want, .arr false (.pkts x10_0.sent), .arr false (.bools x10_0.live), .arr false (.bools x10_0.back), .arr false (.ints x10_0.got)]])
def spec_StateOk_l10.o (x10_0 : St) (x10_1 : Bool) (x10_2 : Int) (r : Nat × Bool × Int × Unit) : Ex × List FV × List Blk := pickAlt [(Nat.beq r.1 0, spec_StateOk_l10.o0 x10_0 x10_1 x10_2 r)] (spec_StateOk_l10.o1 x10_0 x10_1 x10_2 r)
def spec_StateOk_l10.d : LDat := ldat 10 [1, 2, 5] [] spec_StateOk_l10.L (fun s => spec_StateOk_l10.P s.1 s.2.1 s.2.2.1) (fun s => [(Nat.beq (spec_StateOk_l10.R s.1 s.2.1 s.2.2.1).1 0, spec_StateOk_l10.o0 s.1 s.2.1 s.2.2.1 (spec_StateOk_l10.R s.1 s.2.1 s.2.2.1))]) (fun s => spec_StateOk_l10.o1 s.1 s.2.1 s.2.2.1 (spec_StateOk_l10.R s.1 s.2.1 s.2.2.1)) (fun s => spec_StateOk_l10.M s.1 s.2.1 s.2.2.1)
def spec_StateOk.S (a0 : St) : Bool := bif bif bif bif bif bif !(spec_l6In.S a0.way 0 4) then true else !(spec_l6In.S a0.ver 1 9) then true else decide ((a0.sent.length : Int) > 8) then true else (a0.live.length : Int) != (a0.sent.length : Int) then true else (a0.back.length : Int) != (a0.sent.length : Int) then true else (a0.got.length : Int) != 8 then (false) else bif Nat.beq (spec_StateOk_l5.R a0 false (a0.sent.length : Int) 0).1 0 then ((spec_StateOk_l5.R a0 false (a0.sent.length : Int) 0).2.1) else bif Nat.beq (spec_StateOk_l10.R a0 false 0).1 0 then ((spec_StateOk_l10.R a0 false 0).2.1) else bif a0.way == 4 then (bif a0.want == (wrap (a0.ver + 1)) then decide (a0.want ≤ 9) else false) else (a0.want == 0)
def spec_StateOk.enc (r : Bool) : AV × List Blk := (.v (.c (.bool r)), [])
def spec_StateOk.L : ShL := sCons sSt (sNil)
def spec_StateOk.c : Ctr := vctr 21 spec_StateOk.L none (fun s => spec_StateOk.enc (spec_StateOk.S s.1))
theorem spec_StateOk_l5.w (x5_0 : St) (x5_1 : Bool) (x5_2 : Int) (x5_3 : Int) : evBody (envS [spec_l6In.c, spec_PacketOk.c] []) [] (bodyAt Try.f21 0) spec_StateOk_l5.d (x5_0, (x5_1, (x5_2, (x5_3, ())))) = (And (Imp ((decide (x5_3 < x5_2)) = true) (And ((0 : Int) ≤ x5_3 ∧ x5_3 < (x5_0.sent.length : Int)) (And (Imp (And ((!(spec_PacketOk.S (x5_0.sent.getD (x5_3).toNat zPkt))) = false) (True)) ((0 : Int) ≤ x5_3 ∧ x5_3 < (x5_0.sent.length : Int))) (And (Imp (And ((bif !(spec_PacketOk.S (x5_0.sent.getD (x5_3).toNat zPkt)) then true else (x5_0.sent.getD (x5_3).toNat zPkt).seq != (wrap (x5_3 + 1))) = false) (True)) ((0 : Int) ≤ x5_3 ∧ x5_3 < (x5_0.live.length : Int))) (And (Imp (And ((x5_0.live.getD (x5_3).toNat false) = true) (And ((bif !(spec_PacketOk.S (x5_0.sent.getD (x5_3).toNat zPkt)) then true else (x5_0.sent.getD (x5_3).toNat zPkt).seq != (wrap (x5_3 + 1))) = false) (True))) ((0 : Int) ≤ x5_3 ∧ x5_3 < (x5_0.back.length : Int))) (And (Imp (And ((bif bif !(spec_PacketOk.S (x5_0.sent.getD (x5_3).toNat zPkt)) then true else (x5_0.sent.getD (x5_3).toNat zPkt).seq != (wrap (x5_3 + 1)) then true else bif x5_0.live.getD (x5_3).toNat false then x5_0.back.getD (x5_3).toNat false else false) = false) (True)) ((0 : Int) ≤ x5_3 ∧ x5_3 < (x5_0.sent.length : Int))) (And (Imp ((bif bif bif !(spec_PacketOk.S (x5_0.sent.getD (x5_3).toNat zPkt)) then true else (x5_0.sent.getD (x5_3).toNat zPkt).seq != (wrap (x5_3 + 1)) then true else bif x5_0.live.getD (x5_3).toNat false then x5_0.back.getD (x5_3).toNat false else false then true else decide ((x5_0.sent.getD (x5_3).toNat zPkt).ver > x5_0.ver)) = true) (spec_StateOk_l5.o x5_0 x5_1 x5_2 x5_3 (spec_StateOk_l5.R x5_0 x5_1 x5_2 x5_3) = (.ret, [.c (.ptr 0 0), .c (.bool false), .c (.int x5_2), .c (.int x5_3)], [.raw 1 [.int x5_0.way, .int x5_0.ver, .int x5_0.want, .arr false (.pkts x5_0.sent), .arr false (.bools x5_0.live), .arr false (.bools x5_0.back), .arr false (.ints x5_0.got)]]))) (Imp ((bif bif bif !(spec_PacketOk.S (x5_0.sent.getD (x5_3).toNat zPkt)) then true else (x5_0.sent.getD (x5_3).toNat zPkt).seq != (wrap (x5_3 + 1)) then true else bif x5_0.live.getD (x5_3).toNat false then x5_0.back.getD (x5_3).toNat false else false then true else decide ((x5_0.sent.getD (x5_3).toNat zPkt).ver > x5_0.ver)) = false) (And (spec_StateOk_l5.P x5_0 x5_1 x5_2 (wrap (x5_3 + 1))) (And (spec_StateOk_l5.M x5_0 x5_1 x5_2 (wrap (x5_3 + 1)) < spec_StateOk_l5.M x5_0 x5_1 x5_2 x5_3) (spec_StateOk_l5.o x5_0 x5_1 x5_2 (wrap (x5_3 + 1)) (spec_StateOk_l5.R x5_0 x5_1 x5_2 (wrap (x5_3 + 1))) = spec_StateOk_l5.o x5_0 x5_1 x5_2 x5_3 (spec_StateOk_l5.R x5_0 x5_1 x5_2 x5_3)))))))))))) (Imp ((decide (x5_3 < x5_2)) = false) (spec_StateOk_l5.o x5_0 x5_1 x5_2 x5_3 (spec_StateOk_l5.R x5_0 x5_1 x5_2 x5_3) = (.exit 0, [.c (.ptr 0 0), .c (.bool x5_1), .c (.int x5_2), .c (.int x5_3)], [.raw 1 [.int x5_0.way, .int x5_0.ver, .int x5_0.want, .arr false (.pkts x5_0.sent), .arr false (.bools x5_0.live), .arr false (.bools x5_0.back), .arr false (.ints x5_0.got)]])))) := by kernel_rfl
theorem spec_StateOk_l5.v (x5_0 : St) (x5_1 : Bool) (x5_2 : Int) (x5_3 : Int) (hp : spec_StateOk_l5.P x5_0 x5_1 x5_2 x5_3) : And (Imp ((decide (x5_3 < x5_2)) = true) (And ((0 : Int) ≤ x5_3 ∧ x5_3 < (x5_0.sent.length : Int)) (And (Imp (And ((!(spec_PacketOk.S (x5_0.sent.getD (x5_3).toNat zPkt))) = false) (True)) ((0 : Int) ≤ x5_3 ∧ x5_3 < (x5_0.sent.length : Int))) (And (Imp (And ((bif !(spec_PacketOk.S (x5_0.sent.getD (x5_3).toNat zPkt)) then true else (x5_0.sent.getD (x5_3).toNat zPkt).seq != (wrap (x5_3 + 1))) = false) (True)) ((0 : Int) ≤ x5_3 ∧ x5_3 < (x5_0.live.length : Int))) (And (Imp (And ((x5_0.live.getD (x5_3).toNat false) = true) (And ((bif !(spec_PacketOk.S (x5_0.sent.getD (x5_3).toNat zPkt)) then true else (x5_0.sent.getD (x5_3).toNat zPkt).seq != (wrap (x5_3 + 1))) = false) (True))) ((0 : Int) ≤ x5_3 ∧ x5_3 < (x5_0.back.length : Int))) (And (Imp (And ((bif bif !(spec_PacketOk.S (x5_0.sent.getD (x5_3).toNat zPkt)) then true else (x5_0.sent.getD (x5_3).toNat zPkt).seq != (wrap (x5_3 + 1)) then true else bif x5_0.live.getD (x5_3).toNat false then x5_0.back.getD (x5_3).toNat false else false) = false) (True)) ((0 : Int) ≤ x5_3 ∧ x5_3 < (x5_0.sent.length : Int))) (And (Imp ((bif bif bif !(spec_PacketOk.S (x5_0.sent.getD (x5_3).toNat zPkt)) then true else (x5_0.sent.getD (x5_3).toNat zPkt).seq != (wrap (x5_3 + 1)) then true else bif x5_0.live.getD (x5_3).toNat false then x5_0.back.getD (x5_3).toNat false else false then true else decide ((x5_0.sent.getD (x5_3).toNat zPkt).ver > x5_0.ver)) = true) (spec_StateOk_l5.o x5_0 x5_1 x5_2 x5_3 (spec_StateOk_l5.R x5_0 x5_1 x5_2 x5_3) = (.ret, [.c (.ptr 0 0), .c (.bool false), .c (.int x5_2), .c (.int x5_3)], [.raw 1 [.int x5_0.way, .int x5_0.ver, .int x5_0.want, .arr false (.pkts x5_0.sent), .arr false (.bools x5_0.live), .arr false (.bools x5_0.back), .arr false (.ints x5_0.got)]]))) (Imp ((bif bif bif !(spec_PacketOk.S (x5_0.sent.getD (x5_3).toNat zPkt)) then true else (x5_0.sent.getD (x5_3).toNat zPkt).seq != (wrap (x5_3 + 1)) then true else bif x5_0.live.getD (x5_3).toNat false then x5_0.back.getD (x5_3).toNat false else false then true else decide ((x5_0.sent.getD (x5_3).toNat zPkt).ver > x5_0.ver)) = false) (And (spec_StateOk_l5.P x5_0 x5_1 x5_2 (wrap (x5_3 + 1))) (And (spec_StateOk_l5.M x5_0 x5_1 x5_2 (wrap (x5_3 + 1)) < spec_StateOk_l5.M x5_0 x5_1 x5_2 x5_3) (spec_StateOk_l5.o x5_0 x5_1 x5_2 (wrap (x5_3 + 1)) (spec_StateOk_l5.R x5_0 x5_1 x5_2 (wrap (x5_3 + 1))) = spec_StateOk_l5.o x5_0 x5_1 x5_2 x5_3 (spec_StateOk_l5.R x5_0 x5_1 x5_2 x5_3)))))))))))) (Imp ((decide (x5_3 < x5_2)) = false) (spec_StateOk_l5.o x5_0 x5_1 x5_2 x5_3 (spec_StateOk_l5.R x5_0 x5_1 x5_2 x5_3) = (.exit 0, [.c (.ptr 0 0), .c (.bool x5_1), .c (.int x5_2), .c (.int x5_3)], [.raw 1 [.int x5_0.way, .int x5_0.ver, .int x5_0.want, .arr false (.pkts x5_0.sent), .arr false (.bools x5_0.live), .arr false (.bools x5_0.back), .arr false (.ints x5_0.got)]]))) := by
  simp only [spec_StateOk_l5.P] at hp
  obtain ⟨p0, p1, p2, p3⟩ := hp
  refine ⟨fun h1 => ?_, fun h1 => ?_⟩
  · refine ⟨by first | exact True.intro | assumption | omega | grind [wrap_id], ?_⟩
    refine ⟨by intro hπ; first | exact True.intro | assumption | omega | grind [wrap_id], ?_⟩
    refine ⟨by intro hπ; first | exact True.intro | assumption | omega | grind [wrap_id], ?_⟩
    refine ⟨by intro hπ; first | exact True.intro | assumption | omega | grind [wrap_id], ?_⟩
    refine ⟨by intro hπ; first | exact True.intro | assumption | omega | grind [wrap_id], ?_⟩
    refine ⟨fun h2 => ?_, fun h2 => ?_⟩
    · have e : spec_StateOk_l5.R x5_0 x5_1 x5_2 x5_3 = (0, (false, (x5_3, ()))) := by unfold spec_StateOk_l5.R; rw [spec_StateOk_l5.S]; exact (cond_t h1).trans <| (cond_t h2).trans <| rfl
      rw [e]
      rfl
    · have hμ : spec_StateOk_l5.M x5_0 x5_1 x5_2 x5_3 = spec_StateOk_l5.M x5_0 x5_1 x5_2 (wrap (x5_3 + 1)) + 1 := by simp only [spec_StateOk_l5.M]; first | omega | grind [wrap_id]
      refine ⟨by simp only [spec_StateOk_l5.P]; refine ⟨(by first | exact True.intro | assumption | omega | grind [wrap_id]), (by first | exact True.intro | assumption | omega | grind [wrap_id]), (by first | exact True.intro | assumption | omega | grind [wrap_id]), (by first | exact True.intro | assumption | omega | grind [wrap_id])⟩, by omega, ?_⟩
      have e : spec_StateOk_l5.R x5_0 x5_1 x5_2 x5_3 = spec_StateOk_l5.R x5_0 x5_1 x5_2 (wrap (x5_3 + 1)) := by
        have e1 : spec_StateOk_l5.R x5_0 x5_1 x5_2 x5_3 = spec_StateOk_l5.S (spec_StateOk_l5.M x5_0 x5_1 x5_2 x5_3) x5_0 x5_1 x5_2 (wrap (x5_3 + 1)) := by unfold spec_StateOk_l5.R; rw [spec_StateOk_l5.S]; exact (cond_t h1).trans <| (cond_f h2).trans <| rfl
        rw [e1, hμ]
        rfl
      rw [e]
      rfl
  · have e : spec_StateOk_l5.R x5_0 x5_1 x5_2 x5_3 = (1, (false, (x5_3, ()))) := by unfold spec_StateOk_l5.R; rw [spec_StateOk_l5.S]; exact (cond_f h1).trans <| rfl
    rw [e]
    rfl
theorem spec_StateOk_l5.g (hG : ∀ c ∈ [spec_l6In.c, spec_PacketOk.c], Good Try.prog c) : LGood Try.prog Try.f21.ntmps spec_StateOk_l5.d.ctr (bodyAt Try.f21 0) := by
  refine lgoodS (sp := []) (LL := []) hG (by kernel_rfl) (by rw [show loopsOf (bodyAt Try.f21 0) = [] from by kernel_rfl]; exact noL rfl) fun s hp => ?_
  refine Eq.mpr (spec_StateOk_l5.w s.1 s.2.1 s.2.2.1 s.2.2.2.1) ?_
  replace hp : spec_StateOk_l5.P s.1 s.2.1 s.2.2.1 s.2.2.2.1 := hp
  exact spec_StateOk_l5.v _ _ _ _ hp
def spec_StateOk_l5.E (x5_0 : St) (x5_1 : Bool) (x5_2 : Int) (k : Nat) (a : Unit) : Option (Nat × Bool × Int × Unit) := bif bif bif bif !(spec_PacketOk.S (x5_0.sent.getD k zPkt)) then true else (x5_0.sent.getD k zPkt).seq != (wrap ((k : Int) + 1)) then true else bif x5_0.live.getD k false then x5_0.back.getD k false else false then true else decide ((x5_0.sent.getD k zPkt).ver > x5_0.ver) then some (0, (false, ((k : Int), ()))) else none
def spec_StateOk_l5.A (x5_0 : St) (x5_1 : Bool) (x5_2 : Int) (k : Nat) (a : Unit) : Unit := bif bif bif bif !(spec_PacketOk.S (x5_0.sent.getD k zPkt)) then true else (x5_0.sent.getD k zPkt).seq != (wrap ((k : Int) + 1)) then true else bif x5_0.live.getD k false then x5_0.back.getD k false else false then true else decide ((x5_0.sent.getD k zPkt).ver > x5_0.ver) then a else ()
def spec_StateOk_l5.fin (x5_0 : St) (x5_1 : Bool) (x5_2 : Int) (k : Nat) (a : Unit) : Nat × Bool × Int × Unit := (1, (false, ((k : Int), ())))
def spec_StateOk_l5.acc (x5_0 : St) (x5_1 : Bool) (x5_2 : Int) (a : Unit) : Nat → Unit
  | 0 => a
  | k + 1 => spec_StateOk_l5.A x5_0 x5_1 x5_2 k (spec_StateOk_l5.acc x5_0 x5_1 x5_2 a k)
theorem spec_StateOk_l5.law (x5_0 : St) (x5_1 : Bool) (x5_2 : Int) (a : Unit) (n : Nat) (hT : x5_2 = (n : Int)) (hn : (n : Int) ≤ 9223372036854775807) :
    ((∀ k, k < n → spec_StateOk_l5.E x5_0 x5_1 x5_2 k (spec_StateOk_l5.acc x5_0 x5_1 x5_2 a k) = none) ∧ spec_StateOk_l5.R x5_0 x5_1 x5_2 0 = spec_StateOk_l5.fin x5_0 x5_1 x5_2 n (spec_StateOk_l5.acc x5_0 x5_1 x5_2 a n)) ∨ (∃ k r, k < n ∧ spec_StateOk_l5.E x5_0 x5_1 x5_2 k (spec_StateOk_l5.acc x5_0 x5_1 x5_2 a k) = some r ∧ (∀ j, j < k → spec_StateOk_l5.E x5_0 x5_1 x5_2 j (spec_StateOk_l5.acc x5_0 x5_1 x5_2 a j) = none) ∧ spec_StateOk_l5.R x5_0 x5_1 x5_2 0 = r) := by
  have hM : spec_StateOk_l5.M x5_0 x5_1 x5_2 0 + 1 = n + 1 := by simp only [spec_StateOk_l5.M]; omega
  unfold spec_StateOk_l5.R
  rw [hM]
  refine loopE (fun m i b => spec_StateOk_l5.S m x5_0 x5_1 x5_2 i) n hn (spec_StateOk_l5.acc x5_0 x5_1 x5_2 a) (spec_StateOk_l5.E x5_0 x5_1 x5_2 ) (spec_StateOk_l5.fin x5_0 x5_1 x5_2 ) fun m k hk => ?_
  have ha : spec_StateOk_l5.acc x5_0 x5_1 x5_2 a (k + 1) = spec_StateOk_l5.A x5_0 x5_1 x5_2 k (spec_StateOk_l5.acc x5_0 x5_1 x5_2 a k) := rfl
  rw [ha]
  generalize spec_StateOk_l5.acc x5_0 x5_1 x5_2 a k = b
  simp only [spec_StateOk_l5.S, spec_StateOk_l5.E, spec_StateOk_l5.A, spec_StateOk_l5.fin, hT, Int.toNat_natCast]
  all_goals grind
theorem spec_StateOk_l10.w (x10_0 : St) (x10_1 : Bool) (x10_2 : Int) : evBody (envS [spec_l6In.c, spec_PacketOk.c] []) [] (bodyAt Try.f21 1) spec_StateOk_l10.d (x10_0, (x10_1, (x10_2, ()))) = (And (Imp ((decide (x10_2 < (x10_0.got.length : Int))) = true) (And ((0 : Int) ≤ x10_2 ∧ x10_2 < (x10_0.got.length : Int)) (And (Imp ((!(spec_l6In.S (x10_0.got.getD (x10_2).toNat 0) 0 2)) = true) (spec_StateOk_l10.o x10_0 x10_1 x10_2 (spec_StateOk_l10.R x10_0 x10_1 x10_2) = (.ret, [.c (.ptr 0 0), .c (.bool false), .c (.int x10_2)], [.raw 1 [.int x10_0.way, .int x10_0.ver, .int x10_0.want, .arr false (.pkts x10_0.sent), .arr false (.bools x10_0.live), .arr false (.bools x10_0.back), .arr false (.ints x10_0.got)]]))) (Imp ((!(spec_l6In.S (x10_0.got.getD (x10_2).toNat 0) 0 2)) = false) (And (spec_StateOk_l10.P x10_0 x10_1 (wrap (x10_2 + 1))) (And (spec_StateOk_l10.M x10_0 x10_1 (wrap (x10_2 + 1)) < spec_StateOk_l10.M x10_0 x10_1 x10_2) (spec_StateOk_l10.o x10_0 x10_1 (wrap (x10_2 + 1)) (spec_StateOk_l10.R x10_0 x10_1 (wrap (x10_2 + 1))) = spec_StateOk_l10.o x10_0 x10_1 x10_2 (spec_StateOk_l10.R x10_0 x10_1 x10_2)))))))) (Imp ((decide (x10_2 < (x10_0.got.length : Int))) = false) (spec_StateOk_l10.o x10_0 x10_1 x10_2 (spec_StateOk_l10.R x10_0 x10_1 x10_2) = (.exit 2, [.c (.ptr 0 0), .c (.bool x10_1), .c (.int x10_2)], [.raw 1 [.int x10_0.way, .int x10_0.ver, .int x10_0.want, .arr false (.pkts x10_0.sent), .arr false (.bools x10_0.live), .arr false (.bools x10_0.back), .arr false (.ints x10_0.got)]])))) := by kernel_rfl
theorem spec_StateOk_l10.v (x10_0 : St) (x10_1 : Bool) (x10_2 : Int) (hp : spec_StateOk_l10.P x10_0 x10_1 x10_2) : And (Imp ((decide (x10_2 < (x10_0.got.length : Int))) = true) (And ((0 : Int) ≤ x10_2 ∧ x10_2 < (x10_0.got.length : Int)) (And (Imp ((!(spec_l6In.S (x10_0.got.getD (x10_2).toNat 0) 0 2)) = true) (spec_StateOk_l10.o x10_0 x10_1 x10_2 (spec_StateOk_l10.R x10_0 x10_1 x10_2) = (.ret, [.c (.ptr 0 0), .c (.bool false), .c (.int x10_2)], [.raw 1 [.int x10_0.way, .int x10_0.ver, .int x10_0.want, .arr false (.pkts x10_0.sent), .arr false (.bools x10_0.live), .arr false (.bools x10_0.back), .arr false (.ints x10_0.got)]]))) (Imp ((!(spec_l6In.S (x10_0.got.getD (x10_2).toNat 0) 0 2)) = false) (And (spec_StateOk_l10.P x10_0 x10_1 (wrap (x10_2 + 1))) (And (spec_StateOk_l10.M x10_0 x10_1 (wrap (x10_2 + 1)) < spec_StateOk_l10.M x10_0 x10_1 x10_2) (spec_StateOk_l10.o x10_0 x10_1 (wrap (x10_2 + 1)) (spec_StateOk_l10.R x10_0 x10_1 (wrap (x10_2 + 1))) = spec_StateOk_l10.o x10_0 x10_1 x10_2 (spec_StateOk_l10.R x10_0 x10_1 x10_2)))))))) (Imp ((decide (x10_2 < (x10_0.got.length : Int))) = false) (spec_StateOk_l10.o x10_0 x10_1 x10_2 (spec_StateOk_l10.R x10_0 x10_1 x10_2) = (.exit 2, [.c (.ptr 0 0), .c (.bool x10_1), .c (.int x10_2)], [.raw 1 [.int x10_0.way, .int x10_0.ver, .int x10_0.want, .arr false (.pkts x10_0.sent), .arr false (.bools x10_0.live), .arr false (.bools x10_0.back), .arr false (.ints x10_0.got)]]))) := by
  simp only [spec_StateOk_l10.P] at hp
  obtain ⟨p0, p1, p2⟩ := hp
  refine ⟨fun h1 => ?_, fun h1 => ?_⟩
  · refine ⟨by first | exact True.intro | assumption | omega | grind [wrap_id], ?_⟩
    refine ⟨fun h2 => ?_, fun h2 => ?_⟩
    · have e : spec_StateOk_l10.R x10_0 x10_1 x10_2 = (0, (false, (x10_2, ()))) := by unfold spec_StateOk_l10.R; rw [spec_StateOk_l10.S]; exact (cond_t h1).trans <| (cond_t h2).trans <| rfl
      rw [e]
      rfl
    · have hμ : spec_StateOk_l10.M x10_0 x10_1 x10_2 = spec_StateOk_l10.M x10_0 x10_1 (wrap (x10_2 + 1)) + 1 := by simp only [spec_StateOk_l10.M]; first | omega | grind [wrap_id]
      refine ⟨by simp only [spec_StateOk_l10.P]; refine ⟨(by first | exact True.intro | assumption | omega | grind [wrap_id]), (by first | exact True.intro | assumption | omega | grind [wrap_id]), (by first | exact True.intro | assumption | omega | grind [wrap_id])⟩, by omega, ?_⟩
      have e : spec_StateOk_l10.R x10_0 x10_1 x10_2 = spec_StateOk_l10.R x10_0 x10_1 (wrap (x10_2 + 1)) := by
        have e1 : spec_StateOk_l10.R x10_0 x10_1 x10_2 = spec_StateOk_l10.S (spec_StateOk_l10.M x10_0 x10_1 x10_2) x10_0 x10_1 (wrap (x10_2 + 1)) := by unfold spec_StateOk_l10.R; rw [spec_StateOk_l10.S]; exact (cond_t h1).trans <| (cond_f h2).trans <| rfl
        rw [e1, hμ]
        rfl
      rw [e]
      rfl
  · have e : spec_StateOk_l10.R x10_0 x10_1 x10_2 = (1, (false, (x10_2, ()))) := by unfold spec_StateOk_l10.R; rw [spec_StateOk_l10.S]; exact (cond_f h1).trans <| rfl
    rw [e]
    rfl
theorem spec_StateOk_l10.g (hG : ∀ c ∈ [spec_l6In.c, spec_PacketOk.c], Good Try.prog c) : LGood Try.prog Try.f21.ntmps spec_StateOk_l10.d.ctr (bodyAt Try.f21 1) := by
  refine lgoodS (sp := []) (LL := []) hG (by kernel_rfl) (by rw [show loopsOf (bodyAt Try.f21 1) = [] from by kernel_rfl]; exact noL rfl) fun s hp => ?_
  refine Eq.mpr (spec_StateOk_l10.w s.1 s.2.1 s.2.2.1) ?_
  replace hp : spec_StateOk_l10.P s.1 s.2.1 s.2.2.1 := hp
  exact spec_StateOk_l10.v _ _ _ hp
def spec_StateOk_l10.E (x10_0 : St) (x10_1 : Bool) (k : Nat) (a : Unit) : Option (Nat × Bool × Int × Unit) := bif !(spec_l6In.S (x10_0.got.getD k 0) 0 2) then some (0, (false, ((k : Int), ()))) else none
def spec_StateOk_l10.A (x10_0 : St) (x10_1 : Bool) (k : Nat) (a : Unit) : Unit := bif !(spec_l6In.S (x10_0.got.getD k 0) 0 2) then a else ()
def spec_StateOk_l10.fin (x10_0 : St) (x10_1 : Bool) (k : Nat) (a : Unit) : Nat × Bool × Int × Unit := (1, (false, ((k : Int), ())))
def spec_StateOk_l10.acc (x10_0 : St) (x10_1 : Bool) (a : Unit) : Nat → Unit
  | 0 => a
  | k + 1 => spec_StateOk_l10.A x10_0 x10_1 k (spec_StateOk_l10.acc x10_0 x10_1 a k)
theorem spec_StateOk_l10.law (x10_0 : St) (x10_1 : Bool) (a : Unit) (n : Nat) (hT : (x10_0.got.length : Int) = (n : Int)) (hn : (n : Int) ≤ 9223372036854775807) :
    ((∀ k, k < n → spec_StateOk_l10.E x10_0 x10_1 k (spec_StateOk_l10.acc x10_0 x10_1 a k) = none) ∧ spec_StateOk_l10.R x10_0 x10_1 0 = spec_StateOk_l10.fin x10_0 x10_1 n (spec_StateOk_l10.acc x10_0 x10_1 a n)) ∨ (∃ k r, k < n ∧ spec_StateOk_l10.E x10_0 x10_1 k (spec_StateOk_l10.acc x10_0 x10_1 a k) = some r ∧ (∀ j, j < k → spec_StateOk_l10.E x10_0 x10_1 j (spec_StateOk_l10.acc x10_0 x10_1 a j) = none) ∧ spec_StateOk_l10.R x10_0 x10_1 0 = r) := by
  have hM : spec_StateOk_l10.M x10_0 x10_1 0 + 1 = n + 1 := by simp only [spec_StateOk_l10.M]; omega
  unfold spec_StateOk_l10.R
  rw [hM]
  refine loopE (fun m i b => spec_StateOk_l10.S m x10_0 x10_1 i) n hn (spec_StateOk_l10.acc x10_0 x10_1 a) (spec_StateOk_l10.E x10_0 x10_1 ) (spec_StateOk_l10.fin x10_0 x10_1 ) fun m k hk => ?_
  have ha : spec_StateOk_l10.acc x10_0 x10_1 a (k + 1) = spec_StateOk_l10.A x10_0 x10_1 k (spec_StateOk_l10.acc x10_0 x10_1 a k) := rfl
  rw [ha]
  generalize spec_StateOk_l10.acc x10_0 x10_1 a k = b
  simp only [spec_StateOk_l10.S, spec_StateOk_l10.E, spec_StateOk_l10.A, spec_StateOk_l10.fin, hT, Int.toNat_natCast]
  all_goals grind
theorem spec_StateOk.w (a0 : St) (K : AV → List Blk → Prop) : evFn (envS [spec_l6In.c, spec_PacketOk.c] []) [spec_StateOk_l5.d.ctr, spec_StateOk_l10.d.ctr] [] [] Try.f21 [] (spec_StateOk.L.enc (a0, ())) K = (And (Imp ((bif bif bif bif bif !(spec_l6In.S a0.way 0 4) then true else !(spec_l6In.S a0.ver 1 9) then true else decide ((a0.sent.length : Int) > 8) then true else (a0.live.length : Int) != (a0.sent.length : Int) then true else (a0.back.length : Int) != (a0.sent.length : Int) then true else (a0.got.length : Int) != 8) = true) (K (.v (.c (.bool false))) ([]))) (Imp ((bif bif bif bif bif !(spec_l6In.S a0.way 0 4) then true else !(spec_l6In.S a0.ver 1 9) then true else decide ((a0.sent.length : Int) > 8) then true else (a0.live.length : Int) != (a0.sent.length : Int) then true else (a0.back.length : Int) != (a0.sent.length : Int) then true else (a0.got.length : Int) != 8) = false) (And (spec_StateOk_l5.P a0 false (a0.sent.length : Int) 0) (And (Imp (Nat.beq (spec_StateOk_l5.R a0 false (a0.sent.length : Int) 0).1 0 = true) (K (.v (.c (.bool (spec_StateOk_l5.R a0 false (a0.sent.length : Int) 0).2.1))) ([]))) (Imp (Nat.beq (spec_StateOk_l5.R a0 false (a0.sent.length : Int) 0).1 0 = false) (And (spec_StateOk_l10.P a0 false 0) (And (Imp (Nat.beq (spec_StateOk_l10.R a0 false 0).1 0 = true) (K (.v (.c (.bool (spec_StateOk_l10.R a0 false 0).2.1))) ([]))) (Imp (Nat.beq (spec_StateOk_l10.R a0 false 0).1 0 = false) (And (Imp ((a0.way == 4) = true) (K (.v (.c (.bool (bif a0.want == (wrap (a0.ver + 1)) then decide (a0.want ≤ 9) else false)))) ([]))) (Imp ((a0.way == 4) = false) (K (.v (.c (.bool (a0.want == 0)))) ([])))))))))))) := by kernel_rfl
theorem spec_StateOk.v (a0 : St) (hf : St.fact a0 ∧ True) (K : AV → List Blk → Prop) (hK : K (spec_StateOk.enc (spec_StateOk.S a0)).1 (spec_StateOk.enc (spec_StateOk.S a0)).2) : And (Imp ((bif bif bif bif bif !(spec_l6In.S a0.way 0 4) then true else !(spec_l6In.S a0.ver 1 9) then true else decide ((a0.sent.length : Int) > 8) then true else (a0.live.length : Int) != (a0.sent.length : Int) then true else (a0.back.length : Int) != (a0.sent.length : Int) then true else (a0.got.length : Int) != 8) = true) (K (.v (.c (.bool false))) ([]))) (Imp ((bif bif bif bif bif !(spec_l6In.S a0.way 0 4) then true else !(spec_l6In.S a0.ver 1 9) then true else decide ((a0.sent.length : Int) > 8) then true else (a0.live.length : Int) != (a0.sent.length : Int) then true else (a0.back.length : Int) != (a0.sent.length : Int) then true else (a0.got.length : Int) != 8) = false) (And (spec_StateOk_l5.P a0 false (a0.sent.length : Int) 0) (And (Imp (Nat.beq (spec_StateOk_l5.R a0 false (a0.sent.length : Int) 0).1 0 = true) (K (.v (.c (.bool (spec_StateOk_l5.R a0 false (a0.sent.length : Int) 0).2.1))) ([]))) (Imp (Nat.beq (spec_StateOk_l5.R a0 false (a0.sent.length : Int) 0).1 0 = false) (And (spec_StateOk_l10.P a0 false 0) (And (Imp (Nat.beq (spec_StateOk_l10.R a0 false 0).1 0 = true) (K (.v (.c (.bool (spec_StateOk_l10.R a0 false 0).2.1))) ([]))) (Imp (Nat.beq (spec_StateOk_l10.R a0 false 0).1 0 = false) (And (Imp ((a0.way == 4) = true) (K (.v (.c (.bool (bif a0.want == (wrap (a0.ver + 1)) then decide (a0.want ≤ 9) else false)))) ([]))) (Imp ((a0.way == 4) = false) (K (.v (.c (.bool (a0.want == 0)))) ([]))))))))))) := by
  obtain ⟨f0, -⟩ := hf
  obtain ⟨f0_0, f0_1, f0_2, f0_3⟩ := f0
  try simp only [big] at *
  refine ⟨fun h1 => ?_, fun h1 => ?_⟩
  · have e : spec_StateOk.S a0 = (false) := by unfold spec_StateOk.S; exact (cond_t h1).trans <| rfl
    rw [e] at hK
    exact hK
  · refine ⟨by simp only [spec_StateOk_l5.P]; refine ⟨(by clear hK; first | exact True.intro | assumption | omega | grind [wrap_id]), (by clear hK; first | exact True.intro | assumption | omega | grind [wrap_id]), (by clear hK; first | exact True.intro | assumption | omega | grind [wrap_id]), (by clear hK; first | exact True.intro | assumption | omega | grind [wrap_id])⟩, ?_⟩
    refine ⟨fun h2 => ?_, fun h2 => ?_⟩
    · have e : spec_StateOk.S a0 = ((spec_StateOk_l5.R a0 false (a0.sent.length : Int) 0).2.1) := by unfold spec_StateOk.S; exact (cond_f h1).trans <| (cond_t h2).trans <| rfl
      rw [e] at hK
      exact hK
    · refine ⟨by simp only [spec_StateOk_l10.P]; refine ⟨(by clear hK; first | exact True.intro | assumption | omega | grind [wrap_id]), (by clear hK; first | exact True.intro | assumption | omega | grind [wrap_id]), (by clear hK; first | exact True.intro | assumption | omega | grind [wrap_id])⟩, ?_⟩
      refine ⟨fun h3 => ?_, fun h3 => ?_⟩
      · have e : spec_StateOk.S a0 = ((spec_StateOk_l10.R a0 false 0).2.1) := by unfold spec_StateOk.S; exact (cond_f h1).trans <| (cond_f h2).trans <| (cond_t h3).trans <| rfl
        rw [e] at hK
        exact hK
      · refine ⟨fun h4 => ?_, fun h4 => ?_⟩
        · have e : spec_StateOk.S a0 = (bif a0.want == (wrap (a0.ver + 1)) then decide (a0.want ≤ 9) else false) := by unfold spec_StateOk.S; exact (cond_f h1).trans <| (cond_f h2).trans <| (cond_f h3).trans <| (cond_t h4).trans <| rfl
          rw [e] at hK
          exact hK
        · have e : spec_StateOk.S a0 = (a0.want == 0) := by unfold spec_StateOk.S; exact (cond_f h1).trans <| (cond_f h2).trans <| (cond_f h3).trans <| (cond_f h4).trans <| rfl
          rw [e] at hK
          exact hK
theorem spec_StateOk.good : Good Try.prog spec_StateOk.c :=
  vgood (sh := []) (sp := []) (LL := [spec_StateOk_l5.d.ctr, spec_StateOk_l10.d.ctr]) (consG spec_l6In.good (consG spec_PacketOk.good noG)) (fn := Try.f21) (by kernel_rfl) (by kernel_rfl) (by rw [show loopsOf (bodyOf Try.f21) = [(bodyAt Try.f21 0), (bodyAt Try.f21 1)] from by kernel_rfl]; exact consL (l := spec_StateOk_l5.d.ctr) (by kernel_rfl) (spec_StateOk_l5.g (consG spec_l6In.good (consG spec_PacketOk.good noG))) (consL (l := spec_StateOk_l10.d.ctr) (by kernel_rfl) (spec_StateOk_l10.g (consG spec_l6In.good (consG spec_PacketOk.good noG))) (noL rfl))) fun s hp hf => by
    exact Eq.mpr (spec_StateOk.w (s.1) (fun r bs' => And (r = (spec_StateOk.c.out s).1) (bs' = (spec_StateOk.c.out s).2))) (spec_StateOk.v (s.1) hf (fun r bs' => And (r = (spec_StateOk.c.out s).1) (bs' = (spec_StateOk.c.out s).2)) ⟨rfl, rfl⟩)
/-! ### impl.stateSentOk -/
def impl_stateSentOk_l4.S : Nat → St → Bool → (List Pkt) → Int → Int → Nat × Bool × Int × Unit
  | 0, _, _, _, _, _ => (0, (false, (0, ())))
  | n + 1, x4_0, x4_1, x4_2, x4_3, x4_4 => bif decide (x4_4 < x4_3) then bif bif bif bif !(impl_PacketOk.S (x4_2.getD (x4_4).toNat zPkt)) then true else (x4_2.getD (x4_4).toNat zPkt).seq != (wrap (x4_4 + 1)) then true else decide ((x4_2.getD (x4_4).toNat zPkt).ver > x4_0.ver) then true else bif x4_0.live.getD (x4_4).toNat false then x4_0.back.getD (x4_4).toNat false else false then (0, (false, (x4_4, ()))) else impl_stateSentOk_l4.S n x4_0 x4_1 x4_2 x4_3 (wrap (x4_4 + 1)) else (1, (false, (x4_4, ())))
def impl_stateSentOk_l4.M (x4_0 : St) (x4_1 : Bool) (x4_2 : List Pkt) (x4_3 : Int) (x4_4 : Int) : Nat := (x4_3 - x4_4).toNat
def impl_stateSentOk_l4.R (x4_0 : St) (x4_1 : Bool) (x4_2 : List Pkt) (x4_3 : Int) (x4_4 : Int) : Nat × Bool × Int × Unit := impl_stateSentOk_l4.S (impl_stateSentOk_l4.M x4_0 x4_1 x4_2 x4_3 x4_4 + 1) x4_0 x4_1 x4_2 x4_3 x4_4
def impl_stateSentOk_l4.P (x4_0 : St) (x4_1 : Bool) (x4_2 : List Pkt) (x4_3 : Int) (x4_4 : Int) : Prop := (0 ≤ x4_4) ∧ (x4_3 ≤ 9223372036854775807) ∧ (x4_2 = x4_0.sent) ∧ (x4_3 = (x4_0.sent.length : Int)) ∧ ((bif bif decide (x4_3 > 8) then true else (x4_0.live.length : Int) != x4_3 then true else (x4_0.back.length : Int) != x4_3) = false)
def impl_stateSentOk_l4.L : FL := fCons (fC (cPtr 1 (cStE false) rfl)) (fCons (fC cBool) (fCons (fC (cArr false kPkts)) (fCons (fC cInt) (fCons (fC cInt) (fNil)))))
def impl_stateSentOk_l4.o0 (x4_0 : St) (x4_1 : Bool) (x4_2 : List Pkt) (x4_3 : Int) (x4_4 : Int) (r : Nat × Bool × Int × Unit) : Ex × List FV × List Blk := (.ret, [.c (.ptr 0 0), .c (.bool r.2.1), .c (.arr false (.pkts x4_2)), .c (.int x4_3), .c (.int r.2.2.1)], [.raw 1 [.int x4_0.way, .int x4_0.ver, .int x4_0.want, .arr false (.pkts x4_0.sent), .arr false (.bools x4_0.live), .arr false (.bools x4_0.back), .arr false (.ints x4_0.got)]])
def impl_stateSentOk_l4.o1 (x4_0 : St) (x4_1 : Bool) (x4_2 : List Pkt) (x4_3 : Int) (x4_4 : Int) (r : Nat × Bool × Int × Unit) : Ex × List FV × List Blk := (.exit 0, [.c (.ptr 0 0), .c (.bool x4_1), .c (.arr false (.pkts x4_2)), .c (.int x4_3), .c (.int r.2.2.1)], [.raw 1 [.int x4_0.way, .int x4_0.ver, .int x4_0.want, .arr false (.pkts x4_0.sent), .arr false (.bools x4_0.live), .arr false (.bools x4_0.back), .arr false (.ints x4_0.got)]])
def impl_stateSentOk_l4.o (x4_0 : St) (x4_1 : Bool) (x4_2 : List Pkt) (x4_3 : Int) (x4_4 : Int) (r : Nat × Bool × Int × Unit) : Ex × List FV × List Blk := pickAlt [(Nat.beq r.1 0, impl_stateSentOk_l4.o0 x4_0 x4_1 x4_2 x4_3 x4_4 r)] (impl_stateSentOk_l4.o1 x4_0 x4_1 x4_2 x4_3 x4_4 r)
def impl_stateSentOk_l4.d : LDat := ldat 4 [1, 2, 28, 29, 30] [] impl_stateSentOk_l4.L (fun s => impl_stateSentOk_l4.P s.1 s.2.1 s.2.2.1 s.2.2.2.1 s.2.2.2.2.1) (fun s => [(Nat.beq (impl_stateSentOk_l4.R s.1 s.2.1 s.2.2.1 s.2.2.2.1 s.2.2.2.2.1).1 0, impl_stateSentOk_l4.o0 s.1 s.2.1 s.2.2.1 s.2.2.2.1 s.2.2.2.2.1 (impl_stateSentOk_l4.R s.1 s.2.1 s.2.2.1 s.2.2.2.1 s.2.2.2.2.1))]) (fun s => impl_stateSentOk_l4.o1 s.1 s.2.1 s.2.2.1 s.2.2.2.1 s.2.2.2.2.1 (impl_stateSentOk_l4.R s.1 s.2.1 s.2.2.1 s.2.2.2.1 s.2.2.2.2.1)) (fun s => impl_stateSentOk_l4.M s.1 s.2.1 s.2.2.1 s.2.2.2.1 s.2.2.2.2.1)
def impl_stateSentOk.S (a0 : St) : Bool := bif bif bif decide ((a0.sent.length : Int) > 8) then true else (a0.live.length : Int) != (a0.sent.length : Int) then true else (a0.back.length : Int) != (a0.sent.length : Int) then (false) else bif Nat.beq (impl_stateSentOk_l4.R a0 false a0.sent (a0.sent.length : Int) 0).1 0 then ((impl_stateSentOk_l4.R a0 false a0.sent (a0.sent.length : Int) 0).2.1) else (true)
def impl_stateSentOk.enc (r : Bool) : AV × List Blk := (.v (.c (.bool r)), [])
def impl_stateSentOk.L : ShL := sCons sSt (sNil)
def impl_stateSentOk.c : Ctr := vctr 79 impl_stateSentOk.L none (fun s => impl_stateSentOk.enc (impl_stateSentOk.S s.1))
theorem impl_stateSentOk_l4.w (x4_0 : St) (x4_1 : Bool) (x4_2 : List Pkt) (x4_3 : Int) (x4_4 : Int) : evBody (envS [impl_PacketOk.c] []) [] (bodyAt Try.f79 0) impl_stateSentOk_l4.d (x4_0, (x4_1, (x4_2, (x4_3, (x4_4, ()))))) = (And (Imp ((decide (x4_4 < x4_3)) = true) (And ((0 : Int) ≤ x4_4 ∧ x4_4 < (x4_2.length : Int)) (And (Imp (And ((bif bif !(impl_PacketOk.S (x4_2.getD (x4_4).toNat zPkt)) then true else (x4_2.getD (x4_4).toNat zPkt).seq != (wrap (x4_4 + 1)) then true else decide ((x4_2.getD (x4_4).toNat zPkt).ver > x4_0.ver)) = false) (True)) ((0 : Int) ≤ x4_4 ∧ x4_4 < (x4_0.live.length : Int))) (And (Imp (And ((x4_0.live.getD (x4_4).toNat false) = true) (And ((bif bif !(impl_PacketOk.S (x4_2.getD (x4_4).toNat zPkt)) then true else (x4_2.getD (x4_4).toNat zPkt).seq != (wrap (x4_4 + 1)) then true else decide ((x4_2.getD (x4_4).toNat zPkt).ver > x4_0.ver)) = false) (True))) ((0 : Int) ≤ x4_4 ∧ x4_4 < (x4_0.back.length : Int))) (And (Imp ((bif bif bif !(impl_PacketOk.S (x4_2.getD (x4_4).toNat zPkt)) then true else (x4_2.getD (x4_4).toNat zPkt).seq != (wrap (x4_4 + 1)) then true else decide ((x4_2.getD (x4_4).toNat zPkt).ver > x4_0.ver) then true else bif x4_0.live.getD (x4_4).toNat false then x4_0.back.getD (x4_4).toNat false else false) = true) (impl_stateSentOk_l4.o x4_0 x4_1 x4_2 x4_3 x4_4 (impl_stateSentOk_l4.R x4_0 x4_1 x4_2 x4_3 x4_4) = (.ret, [.c (.ptr 0 0), .c (.bool false), .c (.arr false (.pkts x4_2)), .c (.int x4_3), .c (.int x4_4)], [.raw 1 [.int x4_0.way, .int x4_0.ver, .int x4_0.want, .arr false (.pkts x4_0.sent), .arr false (.bools x4_0.live), .arr false (.bools x4_0.back), .arr false (.ints x4_0.got)]]))) (Imp ((bif bif bif !(impl_PacketOk.S (x4_2.getD (x4_4).toNat zPkt)) then true else (x4_2.getD (x4_4).toNat zPkt).seq != (wrap (x4_4 + 1)) then true else decide ((x4_2.getD (x4_4).toNat zPkt).ver > x4_0.ver) then true else bif x4_0.live.getD (x4_4).toNat false then x4_0.back.getD (x4_4).toNat false else false) = false) (And (impl_stateSentOk_l4.P x4_0 x4_1 x4_2 x4_3 (wrap (x4_4 + 1))) (And (impl_stateSentOk_l4.M x4_0 x4_1 x4_2 x4_3 (wrap (x4_4 + 1)) < impl_stateSentOk_l4.M x4_0 x4_1 x4_2 x4_3 x4_4) (impl_stateSentOk_l4.o x4_0 x4_1 x4_2 x4_3 (wrap (x4_4 + 1)) (impl_stateSentOk_l4.R x4_0 x4_1 x4_2 x4_3 (wrap (x4_4 + 1))) = impl_stateSentOk_l4.o x4_0 x4_1 x4_2 x4_3 x4_4 (impl_stateSentOk_l4.R x4_0 x4_1 x4_2 x4_3 x4_4)))))))))) (Imp ((decide (x4_4 < x4_3)) = false) (impl_stateSentOk_l4.o x4_0 x4_1 x4_2 x4_3 x4_4 (impl_stateSentOk_l4.R x4_0 x4_1 x4_2 x4_3 x4_4) = (.exit 0, [.c (.ptr 0 0), .c (.bool x4_1), .c (.arr false (.pkts x4_2)), .c (.int x4_3), .c (.int x4_4)], [.raw 1 [.int x4_0.way, .int x4_0.ver, .int x4_0.want, .arr false (.pkts x4_0.sent), .arr false (.bools x4_0.live), .arr false (.bools x4_0.back), .arr false (.ints x4_0.got)]])))) := by kernel_rfl
theorem impl_stateSentOk_l4.v (x4_0 : St) (x4_1 : Bool) (x4_2 : List Pkt) (x4_3 : Int) (x4_4 : Int) (hp : impl_stateSentOk_l4.P x4_0 x4_1 x4_2 x4_3 x4_4) : And (Imp ((decide (x4_4 < x4_3)) = true) (And ((0 : Int) ≤ x4_4 ∧ x4_4 < (x4_2.length : Int)) (And (Imp (And ((bif bif !(impl_PacketOk.S (x4_2.getD (x4_4).toNat zPkt)) then true else (x4_2.getD (x4_4).toNat zPkt).seq != (wrap (x4_4 + 1)) then true else decide ((x4_2.getD (x4_4).toNat zPkt).ver > x4_0.ver)) = false) (True)) ((0 : Int) ≤ x4_4 ∧ x4_4 < (x4_0.live.length : Int))) (And (Imp (And ((x4_0.live.getD (x4_4).toNat false) = true) (And ((bif bif !(impl_PacketOk.S (x4_2.getD (x4_4).toNat zPkt)) then true else (x4_2.getD (x4_4).toNat zPkt).seq != (wrap (x4_4 + 1)) then true else decide ((x4_2.getD (x4_4).toNat zPkt).ver > x4_0.ver)) = false) (True))) ((0 : Int) ≤ x4_4 ∧ x4_4 < (x4_0.back.length : Int))) (And (Imp ((bif bif bif !(impl_PacketOk.S (x4_2.getD (x4_4).toNat zPkt)) then true else (x4_2.getD (x4_4).toNat zPkt).seq != (wrap (x4_4 + 1)) then true else decide ((x4_2.getD (x4_4).toNat zPkt).ver > x4_0.ver) then true else bif x4_0.live.getD (x4_4).toNat false then x4_0.back.getD (x4_4).toNat false else false) = true) (impl_stateSentOk_l4.o x4_0 x4_1 x4_2 x4_3 x4_4 (impl_stateSentOk_l4.R x4_0 x4_1 x4_2 x4_3 x4_4) = (.ret, [.c (.ptr 0 0), .c (.bool false), .c (.arr false (.pkts x4_2)), .c (.int x4_3), .c (.int x4_4)], [.raw 1 [.int x4_0.way, .int x4_0.ver, .int x4_0.want, .arr false (.pkts x4_0.sent), .arr false (.bools x4_0.live), .arr false (.bools x4_0.back), .arr false (.ints x4_0.got)]]))) (Imp ((bif bif bif !(impl_PacketOk.S (x4_2.getD (x4_4).toNat zPkt)) then true else (x4_2.getD (x4_4).toNat zPkt).seq != (wrap (x4_4 + 1)) then true else decide ((x4_2.getD (x4_4).toNat zPkt).ver > x4_0.ver) then true else bif x4_0.live.getD (x4_4).toNat false then x4_0.back.getD (x4_4).toNat false else false) = false) (And (impl_stateSentOk_l4.P x4_0 x4_1 x4_2 x4_3 (wrap (x4_4 + 1))) (And (impl_stateSentOk_l4.M x4_0 x4_1 x4_2 x4_3 (wrap (x4_4 + 1)) < impl_stateSentOk_l4.M x4_0 x4_1 x4_2 x4_3 x4_4) (impl_stateSentOk_l4.o x4_0 x4_1 x4_2 x4_3 (wrap (x4_4 + 1)) (impl_stateSentOk_l4.R x4_0 x4_1 x4_2 x4_3 (wrap (x4_4 + 1))) = impl_stateSentOk_l4.o x4_0 x4_1 x4_2 x4_3 x4_4 (impl_stateSentOk_l4.R x4_0 x4_1 x4_2 x4_3 x4_4)))))))))) (Imp ((decide (x4_4 < x4_3)) = false) (impl_stateSentOk_l4.o x4_0 x4_1 x4_2 x4_3 x4_4 (impl_stateSentOk_l4.R x4_0 x4_1 x4_2 x4_3 x4_4) = (.exit 0, [.c (.ptr 0 0), .c (.bool x4_1), .c (.arr false (.pkts x4_2)), .c (.int x4_3), .c (.int x4_4)], [.raw 1 [.int x4_0.way, .int x4_0.ver, .int x4_0.want, .arr false (.pkts x4_0.sent), .arr false (.bools x4_0.live), .arr false (.bools x4_0.back), .arr false (.ints x4_0.got)]]))) := by
  simp only [impl_stateSentOk_l4.P] at hp
  obtain ⟨p0, p1, p2, p3, p4⟩ := hp
  refine ⟨fun h1 => ?_, fun h1 => ?_⟩
  · refine ⟨by first | exact True.intro | assumption | omega | grind [wrap_id], ?_⟩
    refine ⟨by intro hπ; first | exact True.intro | assumption | omega | grind [wrap_id], ?_⟩
    refine ⟨by intro hπ; first | exact True.intro | assumption | omega | grind [wrap_id], ?_⟩
    refine ⟨fun h2 => ?_, fun h2 => ?_⟩
    · have e : impl_stateSentOk_l4.R x4_0 x4_1 x4_2 x4_3 x4_4 = (0, (false, (x4_4, ()))) := by unfold impl_stateSentOk_l4.R; rw [impl_stateSentOk_l4.S]; exact (cond_t h1).trans <| (cond_t h2).trans <| rfl
      rw [e]
      rfl
    · have hμ : impl_stateSentOk_l4.M x4_0 x4_1 x4_2 x4_3 x4_4 = impl_stateSentOk_l4.M x4_0 x4_1 x4_2 x4_3 (wrap (x4_4 + 1)) + 1 := by simp only [impl_stateSentOk_l4.M]; first | omega | grind [wrap_id]
      refine ⟨by simp only [impl_stateSentOk_l4.P]; refine ⟨(by first | exact True.intro | assumption | omega | grind [wrap_id]), (by first | exact True.intro | assumption | omega | grind [wrap_id]), (by first | exact True.intro | assumption | omega | grind [wrap_id]), (by first | exact True.intro | assumption | omega | grind [wrap_id]), (by first | exact True.intro | assumption | omega | grind [wrap_id])⟩, by omega, ?_⟩
      have e : impl_stateSentOk_l4.R x4_0 x4_1 x4_2 x4_3 x4_4 = impl_stateSentOk_l4.R x4_0 x4_1 x4_2 x4_3 (wrap (x4_4 + 1)) := by
        have e1 : impl_stateSentOk_l4.R x4_0 x4_1 x4_2 x4_3 x4_4 = impl_stateSentOk_l4.S (impl_stateSentOk_l4.M x4_0 x4_1 x4_2 x4_3 x4_4) x4_0 x4_1 x4_2 x4_3 (wrap (x4_4 + 1)) := by unfold impl_stateSentOk_l4.R; rw [impl_stateSentOk_l4.S]; exact (cond_t h1).trans <| (cond_f h2).trans <| rfl
        rw [e1, hμ]
        rfl
      rw [e]
      rfl
  · have e : impl_stateSentOk_l4.R x4_0 x4_1 x4_2 x4_3 x4_4 = (1, (false, (x4_4, ()))) := by unfold impl_stateSentOk_l4.R; rw [impl_stateSentOk_l4.S]; exact (cond_f h1).trans <| rfl
    rw [e]
    rfl
theorem impl_stateSentOk_l4.g (hG : ∀ c ∈ [impl_PacketOk.c], Good Try.prog c) : LGood Try.prog Try.f79.ntmps impl_stateSentOk_l4.d.ctr (bodyAt Try.f79 0) := by
  refine lgoodS (sp := []) (LL := []) hG (by kernel_rfl) (by rw [show loopsOf (bodyAt Try.f79 0) = [] from by kernel_rfl]; exact noL rfl) fun s hp => ?_
  refine Eq.mpr (impl_stateSentOk_l4.w s.1 s.2.1 s.2.2.1 s.2.2.2.1 s.2.2.2.2.1) ?_
  replace hp : impl_stateSentOk_l4.P s.1 s.2.1 s.2.2.1 s.2.2.2.1 s.2.2.2.2.1 := hp
  exact impl_stateSentOk_l4.v _ _ _ _ _ hp
def impl_stateSentOk_l4.E (x4_0 : St) (x4_1 : Bool) (x4_2 : List Pkt) (x4_3 : Int) (k : Nat) (a : Unit) : Option (Nat × Bool × Int × Unit) := bif bif bif bif !(impl_PacketOk.S (x4_2.getD k zPkt)) then true else (x4_2.getD k zPkt).seq != (wrap ((k : Int) + 1)) then true else decide ((x4_2.getD k zPkt).ver > x4_0.ver) then true else bif x4_0.live.getD k false then x4_0.back.getD k false else false then some (0, (false, ((k : Int), ()))) else none
def impl_stateSentOk_l4.A (x4_0 : St) (x4_1 : Bool) (x4_2 : List Pkt) (x4_3 : Int) (k : Nat) (a : Unit) : Unit := bif bif bif bif !(impl_PacketOk.S (x4_2.getD k zPkt)) then true else (x4_2.getD k zPkt).seq != (wrap ((k : Int) + 1)) then true else decide ((x4_2.getD k zPkt).ver > x4_0.ver) then true else bif x4_0.live.getD k false then x4_0.back.getD k false else false then a else ()
def impl_stateSentOk_l4.fin (x4_0 : St) (x4_1 : Bool) (x4_2 : List Pkt) (x4_3 : Int) (k : Nat) (a : Unit) : Nat × Bool × Int × Unit := (1, (false, ((k : Int), ())))
def impl_stateSentOk_l4.acc (x4_0 : St) (x4_1 : Bool) (x4_2 : List Pkt) (x4_3 : Int) (a : Unit) : Nat → Unit
  | 0 => a
  | k + 1 => impl_stateSentOk_l4.A x4_0 x4_1 x4_2 x4_3 k (impl_stateSentOk_l4.acc x4_0 x4_1 x4_2 x4_3 a k)
theorem impl_stateSentOk_l4.law (x4_0 : St) (x4_1 : Bool) (x4_2 : List Pkt) (x4_3 : Int) (a : Unit) (n : Nat) (hT : x4_3 = (n : Int)) (hn : (n : Int) ≤ 9223372036854775807) :
    ((∀ k, k < n → impl_stateSentOk_l4.E x4_0 x4_1 x4_2 x4_3 k (impl_stateSentOk_l4.acc x4_0 x4_1 x4_2 x4_3 a k) = none) ∧ impl_stateSentOk_l4.R x4_0 x4_1 x4_2 x4_3 0 = impl_stateSentOk_l4.fin x4_0 x4_1 x4_2 x4_3 n (impl_stateSentOk_l4.acc x4_0 x4_1 x4_2 x4_3 a n)) ∨ (∃ k r, k < n ∧ impl_stateSentOk_l4.E x4_0 x4_1 x4_2 x4_3 k (impl_stateSentOk_l4.acc x4_0 x4_1 x4_2 x4_3 a k) = some r ∧ (∀ j, j < k → impl_stateSentOk_l4.E x4_0 x4_1 x4_2 x4_3 j (impl_stateSentOk_l4.acc x4_0 x4_1 x4_2 x4_3 a j) = none) ∧ impl_stateSentOk_l4.R x4_0 x4_1 x4_2 x4_3 0 = r) := by
  have hM : impl_stateSentOk_l4.M x4_0 x4_1 x4_2 x4_3 0 + 1 = n + 1 := by simp only [impl_stateSentOk_l4.M]; omega
  unfold impl_stateSentOk_l4.R
  rw [hM]
  refine loopE (fun m i b => impl_stateSentOk_l4.S m x4_0 x4_1 x4_2 x4_3 i) n hn (impl_stateSentOk_l4.acc x4_0 x4_1 x4_2 x4_3 a) (impl_stateSentOk_l4.E x4_0 x4_1 x4_2 x4_3 ) (impl_stateSentOk_l4.fin x4_0 x4_1 x4_2 x4_3 ) fun m k hk => ?_
  have ha : impl_stateSentOk_l4.acc x4_0 x4_1 x4_2 x4_3 a (k + 1) = impl_stateSentOk_l4.A x4_0 x4_1 x4_2 x4_3 k (impl_stateSentOk_l4.acc x4_0 x4_1 x4_2 x4_3 a k) := rfl
  rw [ha]
  generalize impl_stateSentOk_l4.acc x4_0 x4_1 x4_2 x4_3 a k = b
  simp only [impl_stateSentOk_l4.S, impl_stateSentOk_l4.E, impl_stateSentOk_l4.A, impl_stateSentOk_l4.fin, hT, Int.toNat_natCast]
  all_goals grind
theorem impl_stateSentOk.w (a0 : St) (K : AV → List Blk → Prop) : evFn (envS [impl_PacketOk.c] []) [impl_stateSentOk_l4.d.ctr] [] [] Try.f79 [] (impl_stateSentOk.L.enc (a0, ())) K = (And (Imp ((bif bif decide ((a0.sent.length : Int) > 8) then true else (a0.live.length : Int) != (a0.sent.length : Int) then true else (a0.back.length : Int) != (a0.sent.length : Int)) = true) (K (.v (.c (.bool false))) ([]))) (Imp ((bif bif decide ((a0.sent.length : Int) > 8) then true else (a0.live.length : Int) != (a0.sent.length : Int) then true else (a0.back.length : Int) != (a0.sent.length : Int)) = false) (And (impl_stateSentOk_l4.P a0 false a0.sent (a0.sent.length : Int) 0) (And (Imp (Nat.beq (impl_stateSentOk_l4.R a0 false a0.sent (a0.sent.length : Int) 0).1 0 = true) (K (.v (.c (.bool (impl_stateSentOk_l4.R a0 false a0.sent (a0.sent.length : Int) 0).2.1))) ([]))) (Imp (Nat.beq (impl_stateSentOk_l4.R a0 false a0.sent (a0.sent.length : Int) 0).1 0 = false) (K (.v (.c (.bool true))) ([]))))))) := by kernel_rfl
theorem impl_stateSentOk.v (a0 : St) (hf : St.fact a0 ∧ True) (K : AV → List Blk → Prop) (hK : K (impl_stateSentOk.enc (impl_stateSentOk.S a0)).1 (impl_stateSentOk.enc (impl_stateSentOk.S a0)).2) : And (Imp ((bif bif decide ((a0.sent.length : Int) > 8) then true else (a0.live.length : Int) != (a0.sent.length : Int) then true else (a0.back.length : Int) != (a0.sent.length : Int)) = true) (K (.v (.c (.bool false))) ([]))) (Imp ((bif bif decide ((a0.sent.length : Int) > 8) then true else (a0.live.length : Int) != (a0.sent.length : Int) then true else (a0.back.length : Int) != (a0.sent.length : Int)) = false) (And (impl_stateSentOk_l4.P a0 false a0.sent (a0.sent.length : Int) 0) (And (Imp (Nat.beq (impl_stateSentOk_l4.R a0 false a0.sent (a0.sent.length : Int) 0).1 0 = true) (K (.v (.c (.bool (impl_stateSentOk_l4.R a0 false a0.sent (a0.sent.length : Int) 0).2.1))) ([]))) (Imp (Nat.beq (impl_stateSentOk_l4.R a0 false a0.sent (a0.sent.length : Int) 0).1 0 = false) (K (.v (.c (.bool true))) ([])))))) := by
  obtain ⟨f0, -⟩ := hf
  obtain ⟨f0_0, f0_1, f0_2, f0_3⟩ := f0
  try simp only [big] at *
  refine ⟨fun h1 => ?_, fun h1 => ?_⟩
  · have e : impl_stateSentOk.S a0 = (false) := by unfold impl_stateSentOk.S; exact (cond_t h1).trans <| rfl
    rw [e] at hK
    exact hK
  · refine ⟨by simp only [impl_stateSentOk_l4.P]; refine ⟨(by clear hK; first | exact True.intro | assumption | omega | grind [wrap_id]), (by clear hK; first | exact True.intro | assumption | omega | grind [wrap_id]), (by clear hK; first | exact True.intro | assumption | omega | grind [wrap_id]), (by clear hK; first | exact True.intro | assumption | omega | grind [wrap_id]), (by clear hK; first | exact True.intro | assumption | omega | grind [wrap_id])⟩, ?_⟩
    refine ⟨fun h2 => ?_, fun h2 => ?_⟩
    · have e : impl_stateSentOk.S a0 = ((impl_stateSentOk_l4.R a0 false a0.sent (a0.sent.length : Int) 0).2.1) := by unfold impl_stateSentOk.S; exact (cond_f h1).trans <| (cond_t h2).trans <| rfl
      rw [e] at hK
      exact hK
    · have e : impl_stateSentOk.S a0 = (true) := by unfold impl_stateSentOk.S; exact (cond_f h1).trans <| (cond_f h2).trans <| rfl
      rw [e] at hK
      exact hK
theorem impl_stateSentOk.good : Good Try.prog impl_stateSentOk.c :=
  vgood (sh := []) (sp := []) (LL := [impl_stateSentOk_l4.d.ctr]) (consG impl_PacketOk.good noG) (fn := Try.f79) (by kernel_rfl) (by kernel_rfl) (by rw [show loopsOf (bodyOf Try.f79) = [(bodyAt Try.f79 0)] from by kernel_rfl]; exact consL (l := impl_stateSentOk_l4.d.ctr) (by kernel_rfl) (impl_stateSentOk_l4.g (consG impl_PacketOk.good noG)) (noL rfl)) fun s hp hf => by
    exact Eq.mpr (impl_stateSentOk.w (s.1) (fun r bs' => And (r = (impl_stateSentOk.c.out s).1) (bs' = (impl_stateSentOk.c.out s).2))) (impl_stateSentOk.v (s.1) hf (fun r bs' => And (r = (impl_stateSentOk.c.out s).1) (bs' = (impl_stateSentOk.c.out s).2)) ⟨rfl, rfl⟩)
/-! ### impl.fateOf -/
def impl_fateOf.S (a0 : Int) : Nat × Bool := bif a0 == 0 then (137, true) else bif a0 == 1 then (138, true) else bif a0 == 2 then (139, true) else (0, false)
def impl_fateOf.enc (r : Nat × Bool) : AV × List Blk := (.tup [.c (.ifc r.1), .c (.bool r.2)], [])
def impl_fateOf.L : ShL := sCons sInt (sNil)
def impl_fateOf.c : Ctr := vctr 105 impl_fateOf.L none (fun s => impl_fateOf.enc (impl_fateOf.S s.1))
theorem impl_fateOf.w (a0 : Int) (K : AV → List Blk → Prop) : evFn (envS [] []) [] [] [] Try.f105 [] (impl_fateOf.L.enc (a0, ())) K = (And (Imp ((a0 == 0) = true) (K (.tup [.c (.ifc 137), .c (.bool true)]) ([]))) (Imp ((a0 == 0) = false) (And (Imp ((a0 == 1) = true) (K (.tup [.c (.ifc 138), .c (.bool true)]) ([]))) (Imp ((a0 == 1) = false) (And (Imp ((a0 == 2) = true) (K (.tup [.c (.ifc 139), .c (.bool true)]) ([]))) (Imp ((a0 == 2) = false) (K (.tup [.c (.ifc 0), .c (.bool false)]) ([])))))))) := by kernel_rfl
theorem impl_fateOf.v (a0 : Int) (hf : True ∧ True) (K : AV → List Blk → Prop) (hK : K (impl_fateOf.enc (impl_fateOf.S a0)).1 (impl_fateOf.enc (impl_fateOf.S a0)).2) : And (Imp ((a0 == 0) = true) (K (.tup [.c (.ifc 137), .c (.bool true)]) ([]))) (Imp ((a0 == 0) = false) (And (Imp ((a0 == 1) = true) (K (.tup [.c (.ifc 138), .c (.bool true)]) ([]))) (Imp ((a0 == 1) = false) (And (Imp ((a0 == 2) = true) (K (.tup [.c (.ifc 139), .c (.bool true)]) ([]))) (Imp ((a0 == 2) = false) (K (.tup [.c (.ifc 0), .c (.bool false)]) ([]))))))) := by
  clear hf
  refine ⟨fun h1 => ?_, fun h1 => ?_⟩
  · have e : impl_fateOf.S a0 = (137, true) := by unfold impl_fateOf.S; exact (cond_t h1).trans <| rfl
    rw [e] at hK
    exact hK
  · refine ⟨fun h2 => ?_, fun h2 => ?_⟩
    · have e : impl_fateOf.S a0 = (138, true) := by unfold impl_fateOf.S; exact (cond_f h1).trans <| (cond_t h2).trans <| rfl
      rw [e] at hK
      exact hK
    · refine ⟨fun h3 => ?_, fun h3 => ?_⟩
      · have e : impl_fateOf.S a0 = (139, true) := by unfold impl_fateOf.S; exact (cond_f h1).trans <| (cond_f h2).trans <| (cond_t h3).trans <| rfl
        rw [e] at hK
        exact hK
      · have e : impl_fateOf.S a0 = (0, false) := by unfold impl_fateOf.S; exact (cond_f h1).trans <| (cond_f h2).trans <| (cond_f h3).trans <| rfl
        rw [e] at hK
        exact hK
theorem impl_fateOf.good : Good Try.prog impl_fateOf.c :=
  vgood (sh := []) (sp := []) (LL := []) noG (fn := Try.f105) (by kernel_rfl) (by kernel_rfl) (by rw [show loopsOf (bodyOf Try.f105) = [] from by kernel_rfl]; exact noL rfl) fun s hp hf => by
    exact Eq.mpr (impl_fateOf.w (s.1) (fun r bs' => And (r = (impl_fateOf.c.out s).1) (bs' = (impl_fateOf.c.out s).2))) (impl_fateOf.v (s.1) hf (fun r bs' => And (r = (impl_fateOf.c.out s).1) (bs' = (impl_fateOf.c.out s).2)) ⟨rfl, rfl⟩)
/-! ### impl.stateGotOk -/
def impl_stateGotOk_l4.S : Nat → Bool → (List Int) → Int → Int → Nat × Bool × Int × Unit
  | 0, _, _, _, _ => (0, (false, (0, ())))
  | n + 1, x4_0, x4_1, x4_2, x4_3 => bif decide (x4_3 < x4_2) then bif !(impl_fateOf.S (x4_1.getD (x4_3).toNat 0)).2 then (0, (false, (x4_3, ()))) else impl_stateGotOk_l4.S n x4_0 x4_1 x4_2 (wrap (x4_3 + 1)) else (1, (false, (x4_3, ())))
def impl_stateGotOk_l4.M (x4_0 : Bool) (x4_1 : List Int) (x4_2 : Int) (x4_3 : Int) : Nat := (x4_2 - x4_3).toNat
def impl_stateGotOk_l4.R (x4_0 : Bool) (x4_1 : List Int) (x4_2 : Int) (x4_3 : Int) : Nat × Bool × Int × Unit := impl_stateGotOk_l4.S (impl_stateGotOk_l4.M x4_0 x4_1 x4_2 x4_3 + 1) x4_0 x4_1 x4_2 x4_3
def impl_stateGotOk_l4.P (x4_0 : Bool) (x4_1 : List Int) (x4_2 : Int) (x4_3 : Int) : Prop := (0 ≤ x4_3) ∧ (x4_2 ≤ 9223372036854775807) ∧ (x4_2 = (x4_1.length : Int)) ∧ ((x4_2 != 8) = false)
def impl_stateGotOk_l4.L : FL := fCons (fC cBool) (fCons (fC (cArr false kInts)) (fCons (fC cInt) (fCons (fC cInt) (fNil))))
def impl_stateGotOk_l4.o0 (x4_0 : Bool) (x4_1 : List Int) (x4_2 : Int) (x4_3 : Int) (r : Nat × Bool × Int × Unit) : Ex × List FV × List Blk := (.ret, [.c (.bool r.2.1), .c (.arr false (.ints x4_1)), .c (.int x4_2), .c (.int r.2.2.1)], [])
def impl_stateGotOk_l4.o1 (x4_0 : Bool) (x4_1 : List Int) (x4_2 : Int) (x4_3 : Int) (r : Nat × Bool × Int × Unit) : Ex × List FV × List Blk := (.exit 0, [.c (.bool x4_0), .c (.arr false (.ints x4_1)), .c (.int x4_2), .c (.int r.2.2.1)], [])
def impl_stateGotOk_l4.o (x4_0 : Bool) (x4_1 : List Int) (x4_2 : Int) (x4_3 : Int) (r : Nat × Bool × Int × Unit) : Ex × List FV × List Blk := pickAlt [(Nat.beq r.1 0, impl_stateGotOk_l4.o0 x4_0 x4_1 x4_2 x4_3 r)] (impl_stateGotOk_l4.o1 x4_0 x4_1 x4_2 x4_3 r)
def impl_stateGotOk_l4.d : LDat := ldat 4 [2, 12, 13, 14] [] impl_stateGotOk_l4.L (fun s => impl_stateGotOk_l4.P s.1 s.2.1 s.2.2.1 s.2.2.2.1) (fun s => [(Nat.beq (impl_stateGotOk_l4.R s.1 s.2.1 s.2.2.1 s.2.2.2.1).1 0, impl_stateGotOk_l4.o0 s.1 s.2.1 s.2.2.1 s.2.2.2.1 (impl_stateGotOk_l4.R s.1 s.2.1 s.2.2.1 s.2.2.2.1))]) (fun s => impl_stateGotOk_l4.o1 s.1 s.2.1 s.2.2.1 s.2.2.2.1 (impl_stateGotOk_l4.R s.1 s.2.1 s.2.2.1 s.2.2.2.1)) (fun s => impl_stateGotOk_l4.M s.1 s.2.1 s.2.2.1 s.2.2.2.1)
def impl_stateGotOk.S (a0 : St) : Bool := bif (a0.got.length : Int) != 8 then (false) else bif Nat.beq (impl_stateGotOk_l4.R false a0.got (a0.got.length : Int) 0).1 0 then ((impl_stateGotOk_l4.R false a0.got (a0.got.length : Int) 0).2.1) else (true)
def impl_stateGotOk.enc (r : Bool) : AV × List Blk := (.v (.c (.bool r)), [])
def impl_stateGotOk.L : ShL := sCons sSt (sNil)
def impl_stateGotOk.c : Ctr := vctr 80 impl_stateGotOk.L none (fun s => impl_stateGotOk.enc (impl_stateGotOk.S s.1))
theorem impl_stateGotOk_l4.w (x4_0 : Bool) (x4_1 : List Int) (x4_2 : Int) (x4_3 : Int) : evBody (envS [impl_fateOf.c] []) [] (bodyAt Try.f80 0) impl_stateGotOk_l4.d (x4_0, (x4_1, (x4_2, (x4_3, ())))) = (And (Imp ((decide (x4_3 < x4_2)) = true) (And ((0 : Int) ≤ x4_3 ∧ x4_3 < (x4_1.length : Int)) (And (Imp ((!(impl_fateOf.S (x4_1.getD (x4_3).toNat 0)).2) = true) (impl_stateGotOk_l4.o x4_0 x4_1 x4_2 x4_3 (impl_stateGotOk_l4.R x4_0 x4_1 x4_2 x4_3) = (.ret, [.c (.bool false), .c (.arr false (.ints x4_1)), .c (.int x4_2), .c (.int x4_3)], []))) (Imp ((!(impl_fateOf.S (x4_1.getD (x4_3).toNat 0)).2) = false) (And (impl_stateGotOk_l4.P x4_0 x4_1 x4_2 (wrap (x4_3 + 1))) (And (impl_stateGotOk_l4.M x4_0 x4_1 x4_2 (wrap (x4_3 + 1)) < impl_stateGotOk_l4.M x4_0 x4_1 x4_2 x4_3) (impl_stateGotOk_l4.o x4_0 x4_1 x4_2 (wrap (x4_3 + 1)) (impl_stateGotOk_l4.R x4_0 x4_1 x4_2 (wrap (x4_3 + 1))) = impl_stateGotOk_l4.o x4_0 x4_1 x4_2 x4_3 (impl_stateGotOk_l4.R x4_0 x4_1 x4_2 x4_3)))))))) (Imp ((decide (x4_3 < x4_2)) = false) (impl_stateGotOk_l4.o x4_0 x4_1 x4_2 x4_3 (impl_stateGotOk_l4.R x4_0 x4_1 x4_2 x4_3) = (.exit 0, [.c (.bool x4_0), .c (.arr false (.ints x4_1)), .c (.int x4_2), .c (.int x4_3)], [])))) := by kernel_rfl
theorem impl_stateGotOk_l4.v (x4_0 : Bool) (x4_1 : List Int) (x4_2 : Int) (x4_3 : Int) (hp : impl_stateGotOk_l4.P x4_0 x4_1 x4_2 x4_3) : And (Imp ((decide (x4_3 < x4_2)) = true) (And ((0 : Int) ≤ x4_3 ∧ x4_3 < (x4_1.length : Int)) (And (Imp ((!(impl_fateOf.S (x4_1.getD (x4_3).toNat 0)).2) = true) (impl_stateGotOk_l4.o x4_0 x4_1 x4_2 x4_3 (impl_stateGotOk_l4.R x4_0 x4_1 x4_2 x4_3) = (.ret, [.c (.bool false), .c (.arr false (.ints x4_1)), .c (.int x4_2), .c (.int x4_3)], []))) (Imp ((!(impl_fateOf.S (x4_1.getD (x4_3).toNat 0)).2) = false) (And (impl_stateGotOk_l4.P x4_0 x4_1 x4_2 (wrap (x4_3 + 1))) (And (impl_stateGotOk_l4.M x4_0 x4_1 x4_2 (wrap (x4_3 + 1)) < impl_stateGotOk_l4.M x4_0 x4_1 x4_2 x4_3) (impl_stateGotOk_l4.o x4_0 x4_1 x4_2 (wrap (x4_3 + 1)) (impl_stateGotOk_l4.R x4_0 x4_1 x4_2 (wrap (x4_3 + 1))) = impl_stateGotOk_l4.o x4_0 x4_1 x4_2 x4_3 (impl_stateGotOk_l4.R x4_0 x4_1 x4_2 x4_3)))))))) (Imp ((decide (x4_3 < x4_2)) = false) (impl_stateGotOk_l4.o x4_0 x4_1 x4_2 x4_3 (impl_stateGotOk_l4.R x4_0 x4_1 x4_2 x4_3) = (.exit 0, [.c (.bool x4_0), .c (.arr false (.ints x4_1)), .c (.int x4_2), .c (.int x4_3)], []))) := by
  simp only [impl_stateGotOk_l4.P] at hp
  obtain ⟨p0, p1, p2, p3⟩ := hp
  refine ⟨fun h1 => ?_, fun h1 => ?_⟩
  · refine ⟨by first | exact True.intro | assumption | omega | grind [wrap_id], ?_⟩
    refine ⟨fun h2 => ?_, fun h2 => ?_⟩
    · have e : impl_stateGotOk_l4.R x4_0 x4_1 x4_2 x4_3 = (0, (false, (x4_3, ()))) := by unfold impl_stateGotOk_l4.R; rw [impl_stateGotOk_l4.S]; exact (cond_t h1).trans <| (cond_t h2).trans <| rfl
      rw [e]
      rfl
    · have hμ : impl_stateGotOk_l4.M x4_0 x4_1 x4_2 x4_3 = impl_stateGotOk_l4.M x4_0 x4_1 x4_2 (wrap (x4_3 + 1)) + 1 := by simp only [impl_stateGotOk_l4.M]; first | omega | grind [wrap_id]
      refine ⟨by simp only [impl_stateGotOk_l4.P]; refine ⟨(by first | exact True.intro | assumption | omega | grind [wrap_id]), (by first | exact True.intro | assumption | omega | grind [wrap_id]), (by first | exact True.intro | assumption | omega | grind [wrap_id]), (by first | exact True.intro | assumption | omega | grind [wrap_id])⟩, by omega, ?_⟩
      have e : impl_stateGotOk_l4.R x4_0 x4_1 x4_2 x4_3 = impl_stateGotOk_l4.R x4_0 x4_1 x4_2 (wrap (x4_3 + 1)) := by
        have e1 : impl_stateGotOk_l4.R x4_0 x4_1 x4_2 x4_3 = impl_stateGotOk_l4.S (impl_stateGotOk_l4.M x4_0 x4_1 x4_2 x4_3) x4_0 x4_1 x4_2 (wrap (x4_3 + 1)) := by unfold impl_stateGotOk_l4.R; rw [impl_stateGotOk_l4.S]; exact (cond_t h1).trans <| (cond_f h2).trans <| rfl
        rw [e1, hμ]
        rfl
      rw [e]
      rfl
  · have e : impl_stateGotOk_l4.R x4_0 x4_1 x4_2 x4_3 = (1, (false, (x4_3, ()))) := by unfold impl_stateGotOk_l4.R; rw [impl_stateGotOk_l4.S]; exact (cond_f h1).trans <| rfl
    rw [e]
    rfl
theorem impl_stateGotOk_l4.g (hG : ∀ c ∈ [impl_fateOf.c], Good Try.prog c) : LGood Try.prog Try.f80.ntmps impl_stateGotOk_l4.d.ctr (bodyAt Try.f80 0) := by
  refine lgoodS (sp := []) (LL := []) hG (by kernel_rfl) (by rw [show loopsOf (bodyAt Try.f80 0) = [] from by kernel_rfl]; exact noL rfl) fun s hp => ?_
  refine Eq.mpr (impl_stateGotOk_l4.w s.1 s.2.1 s.2.2.1 s.2.2.2.1) ?_
  replace hp : impl_stateGotOk_l4.P s.1 s.2.1 s.2.2.1 s.2.2.2.1 := hp
  exact impl_stateGotOk_l4.v _ _ _ _ hp
def impl_stateGotOk_l4.E (x4_0 : Bool) (x4_1 : List Int) (x4_2 : Int) (k : Nat) (a : Unit) : Option (Nat × Bool × Int × Unit) := bif !(impl_fateOf.S (x4_1.getD k 0)).2 then some (0, (false, ((k : Int), ()))) else none
def impl_stateGotOk_l4.A (x4_0 : Bool) (x4_1 : List Int) (x4_2 : Int) (k : Nat) (a : Unit) : Unit := bif !(impl_fateOf.S (x4_1.getD k 0)).2 then a else ()
def impl_stateGotOk_l4.fin (x4_0 : Bool) (x4_1 : List Int) (x4_2 : Int) (k : Nat) (a : Unit) : Nat × Bool × Int × Unit := (1, (false, ((k : Int), ())))
def impl_stateGotOk_l4.acc (x4_0 : Bool) (x4_1 : List Int) (x4_2 : Int) (a : Unit) : Nat → Unit
  | 0 => a
  | k + 1 => impl_stateGotOk_l4.A x4_0 x4_1 x4_2 k (impl_stateGotOk_l4.acc x4_0 x4_1 x4_2 a k)
theorem impl_stateGotOk_l4.law (x4_0 : Bool) (x4_1 : List Int) (x4_2 : Int) (a : Unit) (n : Nat) (hT : x4_2 = (n : Int)) (hn : (n : Int) ≤ 9223372036854775807) :
    ((∀ k, k < n → impl_stateGotOk_l4.E x4_0 x4_1 x4_2 k (impl_stateGotOk_l4.acc x4_0 x4_1 x4_2 a k) = none) ∧ impl_stateGotOk_l4.R x4_0 x4_1 x4_2 0 = impl_stateGotOk_l4.fin x4_0 x4_1 x4_2 n (impl_stateGotOk_l4.acc x4_0 x4_1 x4_2 a n)) ∨ (∃ k r, k < n ∧ impl_stateGotOk_l4.E x4_0 x4_1 x4_2 k (impl_stateGotOk_l4.acc x4_0 x4_1 x4_2 a k) = some r ∧ (∀ j, j < k → impl_stateGotOk_l4.E x4_0 x4_1 x4_2 j (impl_stateGotOk_l4.acc x4_0 x4_1 x4_2 a j) = none) ∧ impl_stateGotOk_l4.R x4_0 x4_1 x4_2 0 = r) := by
  have hM : impl_stateGotOk_l4.M x4_0 x4_1 x4_2 0 + 1 = n + 1 := by simp only [impl_stateGotOk_l4.M]; omega
  unfold impl_stateGotOk_l4.R
  rw [hM]
  refine loopE (fun m i b => impl_stateGotOk_l4.S m x4_0 x4_1 x4_2 i) n hn (impl_stateGotOk_l4.acc x4_0 x4_1 x4_2 a) (impl_stateGotOk_l4.E x4_0 x4_1 x4_2 ) (impl_stateGotOk_l4.fin x4_0 x4_1 x4_2 ) fun m k hk => ?_
  have ha : impl_stateGotOk_l4.acc x4_0 x4_1 x4_2 a (k + 1) = impl_stateGotOk_l4.A x4_0 x4_1 x4_2 k (impl_stateGotOk_l4.acc x4_0 x4_1 x4_2 a k) := rfl
  rw [ha]
  generalize impl_stateGotOk_l4.acc x4_0 x4_1 x4_2 a k = b
  simp only [impl_stateGotOk_l4.S, impl_stateGotOk_l4.E, impl_stateGotOk_l4.A, impl_stateGotOk_l4.fin, hT, Int.toNat_natCast]
  all_goals grind
theorem impl_stateGotOk.w (a0 : St) (K : AV → List Blk → Prop) : evFn (envS [impl_fateOf.c] []) [impl_stateGotOk_l4.d.ctr] [] [] Try.f80 [] (impl_stateGotOk.L.enc (a0, ())) K = (And (Imp (((a0.got.length : Int) != 8) = true) (K (.v (.c (.bool false))) ([]))) (Imp (((a0.got.length : Int) != 8) = false) (And (impl_stateGotOk_l4.P false a0.got (a0.got.length : Int) 0) (And (Imp (Nat.beq (impl_stateGotOk_l4.R false a0.got (a0.got.length : Int) 0).1 0 = true) (K (.v (.c (.bool (impl_stateGotOk_l4.R false a0.got (a0.got.length : Int) 0).2.1))) ([]))) (Imp (Nat.beq (impl_stateGotOk_l4.R false a0.got (a0.got.length : Int) 0).1 0 = false) (K (.v (.c (.bool true))) ([]))))))) := by kernel_rfl
theorem impl_stateGotOk.v (a0 : St) (hf : St.fact a0 ∧ True) (K : AV → List Blk → Prop) (hK : K (impl_stateGotOk.enc (impl_stateGotOk.S a0)).1 (impl_stateGotOk.enc (impl_stateGotOk.S a0)).2) : And (Imp (((a0.got.length : Int) != 8) = true) (K (.v (.c (.bool false))) ([]))) (Imp (((a0.got.length : Int) != 8) = false) (And (impl_stateGotOk_l4.P false a0.got (a0.got.length : Int) 0) (And (Imp (Nat.beq (impl_stateGotOk_l4.R false a0.got (a0.got.length : Int) 0).1 0 = true) (K (.v (.c (.bool (impl_stateGotOk_l4.R false a0.got (a0.got.length : Int) 0).2.1))) ([]))) (Imp (Nat.beq (impl_stateGotOk_l4.R false a0.got (a0.got.length : Int) 0).1 0 = false) (K (.v (.c (.bool true))) ([])))))) := by
  obtain ⟨f0, -⟩ := hf
  obtain ⟨f0_0, f0_1, f0_2, f0_3⟩ := f0
  try simp only [big] at *
  refine ⟨fun h1 => ?_, fun h1 => ?_⟩
  · have e : impl_stateGotOk.S a0 = (false) := by unfold impl_stateGotOk.S; exact (cond_t h1).trans <| rfl
    rw [e] at hK
    exact hK
  · refine ⟨by simp only [impl_stateGotOk_l4.P]; refine ⟨(by clear hK; first | exact True.intro | assumption | omega | grind [wrap_id]), (by clear hK; first | exact True.intro | assumption | omega | grind [wrap_id]), (by clear hK; first | exact True.intro | assumption | omega | grind [wrap_id]), (by clear hK; first | exact True.intro | assumption | omega | grind [wrap_id])⟩, ?_⟩
    refine ⟨fun h2 => ?_, fun h2 => ?_⟩
    · have e : impl_stateGotOk.S a0 = ((impl_stateGotOk_l4.R false a0.got (a0.got.length : Int) 0).2.1) := by unfold impl_stateGotOk.S; exact (cond_f h1).trans <| (cond_t h2).trans <| rfl
      rw [e] at hK
      exact hK
    · have e : impl_stateGotOk.S a0 = (true) := by unfold impl_stateGotOk.S; exact (cond_f h1).trans <| (cond_f h2).trans <| rfl
      rw [e] at hK
      exact hK
theorem impl_stateGotOk.good : Good Try.prog impl_stateGotOk.c :=
  vgood (sh := []) (sp := []) (LL := [impl_stateGotOk_l4.d.ctr]) (consG impl_fateOf.good noG) (fn := Try.f80) (by kernel_rfl) (by kernel_rfl) (by rw [show loopsOf (bodyOf Try.f80) = [(bodyAt Try.f80 0)] from by kernel_rfl]; exact consL (l := impl_stateGotOk_l4.d.ctr) (by kernel_rfl) (impl_stateGotOk_l4.g (consG impl_fateOf.good noG)) (noL rfl)) fun s hp hf => by
    exact Eq.mpr (impl_stateGotOk.w (s.1) (fun r bs' => And (r = (impl_stateGotOk.c.out s).1) (bs' = (impl_stateGotOk.c.out s).2))) (impl_stateGotOk.v (s.1) hf (fun r bs' => And (r = (impl_stateGotOk.c.out s).1) (bs' = (impl_stateGotOk.c.out s).2)) ⟨rfl, rfl⟩)
/-! ### impl.StateOk -/
def impl_StateOk.S (a0 : St) : Bool := bif bif bif bif decide (a0.way < 0) then true else decide (a0.way > 4) then true else decide (a0.ver < 1) then true else decide (a0.ver > 9) then (false) else bif a0.way == 4 then bif bif a0.want != (wrap (a0.ver + 1)) then true else decide (a0.want > 9) then (false) else (bif (impl_stateSentOk.S a0) then (impl_stateGotOk.S a0) else false) else bif a0.want != 0 then (false) else (bif (impl_stateSentOk.S a0) then (impl_stateGotOk.S a0) else false)
def impl_StateOk.enc (r : Bool) : AV × List Blk := (.v (.c (.bool r)), [])
def impl_StateOk.L : ShL := sCons sSt (sNil)
def impl_StateOk.c : Ctr := vctr 53 impl_StateOk.L none (fun s => impl_StateOk.enc (impl_StateOk.S s.1))
theorem impl_StateOk.w (a0 : St) (K : AV → List Blk → Prop) : evFn (envS [impl_stateSentOk.c, impl_stateGotOk.c] []) [] [] [] Try.f53 [] (impl_StateOk.L.enc (a0, ())) K = (And (Imp ((bif bif bif decide (a0.way < 0) then true else decide (a0.way > 4) then true else decide (a0.ver < 1) then true else decide (a0.ver > 9)) = true) (K (.v (.c (.bool false))) ([]))) (Imp ((bif bif bif decide (a0.way < 0) then true else decide (a0.way > 4) then true else decide (a0.ver < 1) then true else decide (a0.ver > 9)) = false) (And (Imp ((a0.way == 4) = true) (And (Imp ((bif a0.want != (wrap (a0.ver + 1)) then true else decide (a0.want > 9)) = true) (K (.v (.c (.bool false))) ([]))) (Imp ((bif a0.want != (wrap (a0.ver + 1)) then true else decide (a0.want > 9)) = false) (K (.v (.c (.bool (bif (impl_stateSentOk.S a0) then (impl_stateGotOk.S a0) else false)))) ([]))))) (Imp ((a0.way == 4) = false) (And (Imp ((a0.want != 0) = true) (K (.v (.c (.bool false))) ([]))) (Imp ((a0.want != 0) = false) (K (.v (.c (.bool (bif (impl_stateSentOk.S a0) then (impl_stateGotOk.S a0) else false)))) ([])))))))) := by kernel_rfl
theorem impl_StateOk.v (a0 : St) (hf : St.fact a0 ∧ True) (K : AV → List Blk → Prop) (hK : K (impl_StateOk.enc (impl_StateOk.S a0)).1 (impl_StateOk.enc (impl_StateOk.S a0)).2) : And (Imp ((bif bif bif decide (a0.way < 0) then true else decide (a0.way > 4) then true else decide (a0.ver < 1) then true else decide (a0.ver > 9)) = true) (K (.v (.c (.bool false))) ([]))) (Imp ((bif bif bif decide (a0.way < 0) then true else decide (a0.way > 4) then true else decide (a0.ver < 1) then true else decide (a0.ver > 9)) = false) (And (Imp ((a0.way == 4) = true) (And (Imp ((bif a0.want != (wrap (a0.ver + 1)) then true else decide (a0.want > 9)) = true) (K (.v (.c (.bool false))) ([]))) (Imp ((bif a0.want != (wrap (a0.ver + 1)) then true else decide (a0.want > 9)) = false) (K (.v (.c (.bool (bif (impl_stateSentOk.S a0) then (impl_stateGotOk.S a0) else false)))) ([]))))) (Imp ((a0.way == 4) = false) (And (Imp ((a0.want != 0) = true) (K (.v (.c (.bool false))) ([]))) (Imp ((a0.want != 0) = false) (K (.v (.c (.bool (bif (impl_stateSentOk.S a0) then (impl_stateGotOk.S a0) else false)))) ([]))))))) := by
  obtain ⟨f0, -⟩ := hf
  obtain ⟨f0_0, f0_1, f0_2, f0_3⟩ := f0
  try simp only [big] at *
  refine ⟨fun h1 => ?_, fun h1 => ?_⟩
  · have e : impl_StateOk.S a0 = (false) := by unfold impl_StateOk.S; exact (cond_t h1).trans <| rfl
    rw [e] at hK
    exact hK
  · refine ⟨fun h2 => ?_, fun h2 => ?_⟩
    · refine ⟨fun h3 => ?_, fun h3 => ?_⟩
      · have e : impl_StateOk.S a0 = (false) := by unfold impl_StateOk.S; exact (cond_f h1).trans <| (cond_t h2).trans <| (cond_t h3).trans <| rfl
        rw [e] at hK
        exact hK
      · have e : impl_StateOk.S a0 = (bif (impl_stateSentOk.S a0) then (impl_stateGotOk.S a0) else false) := by unfold impl_StateOk.S; exact (cond_f h1).trans <| (cond_t h2).trans <| (cond_f h3).trans <| rfl
        rw [e] at hK
        exact hK
    · refine ⟨fun h3 => ?_, fun h3 => ?_⟩
      · have e : impl_StateOk.S a0 = (false) := by unfold impl_StateOk.S; exact (cond_f h1).trans <| (cond_f h2).trans <| (cond_t h3).trans <| rfl
        rw [e] at hK
        exact hK
      · have e : impl_StateOk.S a0 = (bif (impl_stateSentOk.S a0) then (impl_stateGotOk.S a0) else false) := by unfold impl_StateOk.S; exact (cond_f h1).trans <| (cond_f h2).trans <| (cond_f h3).trans <| rfl
        rw [e] at hK
        exact hK
theorem impl_StateOk.good : Good Try.prog impl_StateOk.c :=
  vgood (sh := []) (sp := []) (LL := []) (consG impl_stateSentOk.good (consG impl_stateGotOk.good noG)) (fn := Try.f53) (by kernel_rfl) (by kernel_rfl) (by rw [show loopsOf (bodyOf Try.f53) = [] from by kernel_rfl]; exact noL rfl) fun s hp hf => by
    exact Eq.mpr (impl_StateOk.w (s.1) (fun r bs' => And (r = (impl_StateOk.c.out s).1) (bs' = (impl_StateOk.c.out s).2))) (impl_StateOk.v (s.1) hf (fun r bs' => And (r = (impl_StateOk.c.out s).1) (bs' = (impl_StateOk.c.out s).2)) ⟨rfl, rfl⟩)
/-! ### spec.l3Live -/
def spec_l3Live_l3.S : Nat → St → Int → Int → Nat × Int × Int × Unit
  | 0, _, _, _ => (0, (0, (0, ())))
  | n + 1, x3_0, x3_1, x3_2 => bif decide (x3_2 < (x3_0.live.length : Int)) then bif x3_0.live.getD (x3_2).toNat false then spec_l3Live_l3.S n x3_0 (wrap (x3_1 + 1)) (wrap (x3_2 + 1)) else spec_l3Live_l3.S n x3_0 x3_1 (wrap (x3_2 + 1)) else (0, (x3_1, (x3_2, ())))
def spec_l3Live_l3.M (x3_0 : St) (x3_1 : Int) (x3_2 : Int) : Nat := ((x3_0.live.length : Int) - x3_2).toNat
def spec_l3Live_l3.R (x3_0 : St) (x3_1 : Int) (x3_2 : Int) : Nat × Int × Int × Unit := spec_l3Live_l3.S (spec_l3Live_l3.M x3_0 x3_1 x3_2 + 1) x3_0 x3_1 x3_2
def spec_l3Live_l3.P (x3_0 : St) (x3_1 : Int) (x3_2 : Int) : Prop := (0 ≤ x3_2) ∧ ((x3_0.live.length : Int) ≤ 9223372036854775807)
def spec_l3Live_l3.L : FL := fCons (fC (cPtr 1 (cStE false) rfl)) (fCons (fC cInt) (fCons (fC cInt) (fNil)))
def spec_l3Live_l3.o0 (x3_0 : St) (x3_1 : Int) (x3_2 : Int) (r : Nat × Int × Int × Unit) : Ex × List FV × List Blk := (.exit 0, [.c (.ptr 0 0), .c (.int r.2.1), .c (.int r.2.2.1)], [.raw 1 [.int x3_0.way, .int x3_0.ver, .int x3_0.want, .arr false (.pkts x3_0.sent), .arr false (.bools x3_0.live), .arr false (.bools x3_0.back), .arr false (.ints x3_0.got)]])
def spec_l3Live_l3.o (x3_0 : St) (x3_1 : Int) (x3_2 : Int) (r : Nat × Int × Int × Unit) : Ex × List FV × List Blk := pickAlt [] (spec_l3Live_l3.o0 x3_0 x3_1 x3_2 r)
def spec_l3Live_l3.d : LDat := ldat 3 [1, 3, 4] [] spec_l3Live_l3.L (fun s => spec_l3Live_l3.P s.1 s.2.1 s.2.2.1) (fun s => []) (fun s => spec_l3Live_l3.o0 s.1 s.2.1 s.2.2.1 (spec_l3Live_l3.R s.1 s.2.1 s.2.2.1)) (fun s => spec_l3Live_l3.M s.1 s.2.1 s.2.2.1)
def spec_l3Live.S (a0 : St) : Int := ((spec_l3Live_l3.R a0 0 0).2.1)
def spec_l3Live.enc (r : Int) : AV × List Blk := (.v (.c (.int r)), [])
def spec_l3Live.L : ShL := sCons sSt (sNil)
def spec_l3Live.c : Ctr := vctr 69 spec_l3Live.L none (fun s => spec_l3Live.enc (spec_l3Live.S s.1))
theorem spec_l3Live_l3.w (x3_0 : St) (x3_1 : Int) (x3_2 : Int) : evBody (envS [] []) [] (bodyAt Try.f69 0) spec_l3Live_l3.d (x3_0, (x3_1, (x3_2, ()))) = (And (Imp ((decide (x3_2 < (x3_0.live.length : Int))) = true) (And ((0 : Int) ≤ x3_2 ∧ x3_2 < (x3_0.live.length : Int)) (And (Imp ((x3_0.live.getD (x3_2).toNat false) = true) (And (spec_l3Live_l3.P x3_0 (wrap (x3_1 + 1)) (wrap (x3_2 + 1))) (And (spec_l3Live_l3.M x3_0 (wrap (x3_1 + 1)) (wrap (x3_2 + 1)) < spec_l3Live_l3.M x3_0 x3_1 x3_2) (spec_l3Live_l3.o x3_0 (wrap (x3_1 + 1)) (wrap (x3_2 + 1)) (spec_l3Live_l3.R x3_0 (wrap (x3_1 + 1)) (wrap (x3_2 + 1))) = spec_l3Live_l3.o x3_0 x3_1 x3_2 (spec_l3Live_l3.R x3_0 x3_1 x3_2))))) (Imp ((x3_0.live.getD (x3_2).toNat false) = false) (And (spec_l3Live_l3.P x3_0 x3_1 (wrap (x3_2 + 1))) (And (spec_l3Live_l3.M x3_0 x3_1 (wrap (x3_2 + 1)) < spec_l3Live_l3.M x3_0 x3_1 x3_2) (spec_l3Live_l3.o x3_0 x3_1 (wrap (x3_2 + 1)) (spec_l3Live_l3.R x3_0 x3_1 (wrap (x3_2 + 1))) = spec_l3Live_l3.o x3_0 x3_1 x3_2 (spec_l3Live_l3.R x3_0 x3_1 x3_2)))))))) (Imp ((decide (x3_2 < (x3_0.live.length : Int))) = false) (spec_l3Live_l3.o x3_0 x3_1 x3_2 (spec_l3Live_l3.R x3_0 x3_1 x3_2) = (.exit 0, [.c (.ptr 0 0), .c (.int x3_1), .c (.int x3_2)], [.raw 1 [.int x3_0.way, .int x3_0.ver, .int x3_0.want, .arr false (.pkts x3_0.sent), .arr false (.bools x3_0.live), .arr false (.bools x3_0.back), .arr false (.ints x3_0.got)]])))) := by kernel_rfl
theorem spec_l3Live_l3.v (x3_0 : St) (x3_1 : Int) (x3_2 : Int) (hp : spec_l3Live_l3.P x3_0 x3_1 x3_2) : And (Imp ((decide (x3_2 < (x3_0.live.length : Int))) = true) (And ((0 : Int) ≤ x3_2 ∧ x3_2 < (x3_0.live.length : Int)) (And (Imp ((x3_0.live.getD (x3_2).toNat false) = true) (And (spec_l3Live_l3.P x3_0 (wrap (x3_1 + 1)) (wrap (x3_2 + 1))) (And (spec_l3Live_l3.M x3_0 (wrap (x3_1 + 1)) (wrap (x3_2 + 1)) < spec_l3Live_l3.M x3_0 x3_1 x3_2) (spec_l3Live_l3.o x3_0 (wrap (x3_1 + 1)) (wrap (x3_2 + 1)) (spec_l3Live_l3.R x3_0 (wrap (x3_1 + 1)) (wrap (x3_2 + 1))) = spec_l3Live_l3.o x3_0 x3_1 x3_2 (spec_l3Live_l3.R x3_0 x3_1 x3_2))))) (Imp ((x3_0.live.getD (x3_2).toNat false) = false) (And (spec_l3Live_l3.P x3_0 x3_1 (wrap (x3_2 + 1))) (And (spec_l3Live_l3.M x3_0 x3_1 (wrap (x3_2 + 1)) < spec_l3Live_l3.M x3_0 x3_1 x3_2) (spec_l3Live_l3.o x3_0 x3_1 (wrap (x3_2 + 1)) (spec_l3Live_l3.R x3_0 x3_1 (wrap (x3_2 + 1))) = spec_l3Live_l3.o x3_0 x3_1 x3_2 (spec_l3Live_l3.R x3_0 x3_1 x3_2)))))))) (Imp ((decide (x3_2 < (x3_0.live.length : Int))) = false) (spec_l3Live_l3.o x3_0 x3_1 x3_2 (spec_l3Live_l3.R x3_0 x3_1 x3_2) = (.exit 0, [.c (.ptr 0 0), .c (.int x3_1), .c (.int x3_2)], [.raw 1 [.int x3_0.way, .int x3_0.ver, .int x3_0.want, .arr false (.pkts x3_0.sent), .arr false (.bools x3_0.live), .arr false (.bools x3_0.back), .arr false (.ints x3_0.got)]]))) := by
  simp only [spec_l3Live_l3.P] at hp
  obtain ⟨p0, p1⟩ := hp
  refine ⟨fun h1 => ?_, fun h1 => ?_⟩
  · refine ⟨by first | exact True.intro | assumption | omega | grind [wrap_id], ?_⟩
    refine ⟨fun h2 => ?_, fun h2 => ?_⟩
    · have hμ : spec_l3Live_l3.M x3_0 x3_1 x3_2 = spec_l3Live_l3.M x3_0 (wrap (x3_1 + 1)) (wrap (x3_2 + 1)) + 1 := by simp only [spec_l3Live_l3.M]; first | omega | grind [wrap_id]
      refine ⟨by simp only [spec_l3Live_l3.P]; refine ⟨(by first | exact True.intro | assumption | omega | grind [wrap_id]), (by first | exact True.intro | assumption | omega | grind [wrap_id])⟩, by omega, ?_⟩
      have e : spec_l3Live_l3.R x3_0 x3_1 x3_2 = spec_l3Live_l3.R x3_0 (wrap (x3_1 + 1)) (wrap (x3_2 + 1)) := by
        have e1 : spec_l3Live_l3.R x3_0 x3_1 x3_2 = spec_l3Live_l3.S (spec_l3Live_l3.M x3_0 x3_1 x3_2) x3_0 (wrap (x3_1 + 1)) (wrap (x3_2 + 1)) := by unfold spec_l3Live_l3.R; rw [spec_l3Live_l3.S]; exact (cond_t h1).trans <| (cond_t h2).trans <| rfl
        rw [e1, hμ]
        rfl
      rw [e]
      rfl
    · have hμ : spec_l3Live_l3.M x3_0 x3_1 x3_2 = spec_l3Live_l3.M x3_0 x3_1 (wrap (x3_2 + 1)) + 1 := by simp only [spec_l3Live_l3.M]; first | omega | grind [wrap_id]
      refine ⟨by simp only [spec_l3Live_l3.P]; refine ⟨(by first | exact True.intro | assumption | omega | grind [wrap_id]), (by first | exact True.intro | assumption | omega | grind [wrap_id])⟩, by omega, ?_⟩
      have e : spec_l3Live_l3.R x3_0 x3_1 x3_2 = spec_l3Live_l3.R x3_0 x3_1 (wrap (x3_2 + 1)) := by
        have e1 : spec_l3Live_l3.R x3_0 x3_1 x3_2 = spec_l3Live_l3.S (spec_l3Live_l3.M x3_0 x3_1 x3_2) x3_0 x3_1 (wrap (x3_2 + 1)) := by unfold spec_l3Live_l3.R; rw [spec_l3Live_l3.S]; exact (cond_t h1).trans <| (cond_f h2).trans <| rfl
        rw [e1, hμ]
        rfl
      rw [e]
      rfl
  · have e : spec_l3Live_l3.R x3_0 x3_1 x3_2 = (0, (x3_1, (x3_2, ()))) := by unfold spec_l3Live_l3.R; rw [spec_l3Live_l3.S]; exact (cond_f h1).trans <| rfl
    rw [e]
    rfl
theorem spec_l3Live_l3.g (hG : ∀ c ∈ [], Good Try.prog c) : LGood Try.prog Try.f69.ntmps spec_l3Live_l3.d.ctr (bodyAt Try.f69 0) := by
  refine lgoodS (sp := []) (LL := []) hG (by kernel_rfl) (by rw [show loopsOf (bodyAt Try.f69 0) = [] from by kernel_rfl]; exact noL rfl) fun s hp => ?_
  refine Eq.mpr (spec_l3Live_l3.w s.1 s.2.1 s.2.2.1) ?_
  replace hp : spec_l3Live_l3.P s.1 s.2.1 s.2.2.1 := hp
  exact spec_l3Live_l3.v _ _ _ hp
def spec_l3Live_l3.E (x3_0 : St) (k : Nat) (a : Int) : Option (Nat × Int × Int × Unit) := bif x3_0.live.getD k false then none else none
def spec_l3Live_l3.A (x3_0 : St) (k : Nat) (a : Int) : Int := bif x3_0.live.getD k false then (wrap (a + 1)) else (a)
def spec_l3Live_l3.fin (x3_0 : St) (k : Nat) (a : Int) : Nat × Int × Int × Unit := (0, (a, ((k : Int), ())))
def spec_l3Live_l3.acc (x3_0 : St) (a : Int) : Nat → Int
  | 0 => a
  | k + 1 => spec_l3Live_l3.A x3_0 k (spec_l3Live_l3.acc x3_0 a k)
theorem spec_l3Live_l3.law (x3_0 : St) (a : Int) (n : Nat) (hT : (x3_0.live.length : Int) = (n : Int)) (hn : (n : Int) ≤ 9223372036854775807) :
    ((∀ k, k < n → spec_l3Live_l3.E x3_0 k (spec_l3Live_l3.acc x3_0 a k) = none) ∧ spec_l3Live_l3.R x3_0 a 0 = spec_l3Live_l3.fin x3_0 n (spec_l3Live_l3.acc x3_0 a n)) ∨ (∃ k r, k < n ∧ spec_l3Live_l3.E x3_0 k (spec_l3Live_l3.acc x3_0 a k) = some r ∧ (∀ j, j < k → spec_l3Live_l3.E x3_0 j (spec_l3Live_l3.acc x3_0 a j) = none) ∧ spec_l3Live_l3.R x3_0 a 0 = r) := by
  have hM : spec_l3Live_l3.M x3_0 a 0 + 1 = n + 1 := by simp only [spec_l3Live_l3.M]; omega
  unfold spec_l3Live_l3.R
  rw [hM]
  refine loopE (fun m i b => spec_l3Live_l3.S m x3_0 b i) n hn (spec_l3Live_l3.acc x3_0 a) (spec_l3Live_l3.E x3_0 ) (spec_l3Live_l3.fin x3_0 ) fun m k hk => ?_
  have ha : spec_l3Live_l3.acc x3_0 a (k + 1) = spec_l3Live_l3.A x3_0 k (spec_l3Live_l3.acc x3_0 a k) := rfl
  rw [ha]
  generalize spec_l3Live_l3.acc x3_0 a k = b
  simp only [spec_l3Live_l3.S, spec_l3Live_l3.E, spec_l3Live_l3.A, spec_l3Live_l3.fin, hT, Int.toNat_natCast]
  all_goals grind
theorem spec_l3Live.w (a0 : St) (K : AV → List Blk → Prop) : evFn (envS [] []) [spec_l3Live_l3.d.ctr] [] [] Try.f69 [] (spec_l3Live.L.enc (a0, ())) K = (And (spec_l3Live_l3.P a0 0 0) (K (.v (.c (.int (spec_l3Live_l3.R a0 0 0).2.1))) ([]))) := by kernel_rfl
theorem spec_l3Live.v (a0 : St) (hf : St.fact a0 ∧ True) (K : AV → List Blk → Prop) (hK : K (spec_l3Live.enc (spec_l3Live.S a0)).1 (spec_l3Live.enc (spec_l3Live.S a0)).2) : And (spec_l3Live_l3.P a0 0 0) (K (.v (.c (.int (spec_l3Live_l3.R a0 0 0).2.1))) ([])) := by
  obtain ⟨f0, -⟩ := hf
  obtain ⟨f0_0, f0_1, f0_2, f0_3⟩ := f0
  try simp only [big] at *
  refine ⟨by simp only [spec_l3Live_l3.P]; refine ⟨(by clear hK; first | exact True.intro | assumption | omega | grind [wrap_id]), (by clear hK; first | exact True.intro | assumption | omega | grind [wrap_id])⟩, ?_⟩
  have e : spec_l3Live.S a0 = ((spec_l3Live_l3.R a0 0 0).2.1) := by unfold spec_l3Live.S; exact rfl
  rw [e] at hK
  exact hK
theorem spec_l3Live.good : Good Try.prog spec_l3Live.c :=
  vgood (sh := []) (sp := []) (LL := [spec_l3Live_l3.d.ctr]) noG (fn := Try.f69) (by kernel_rfl) (by kernel_rfl) (by rw [show loopsOf (bodyOf Try.f69) = [(bodyAt Try.f69 0)] from by kernel_rfl]; exact consL (l := spec_l3Live_l3.d.ctr) (by kernel_rfl) (spec_l3Live_l3.g noG) (noL rfl)) fun s hp hf => by
    exact Eq.mpr (spec_l3Live.w (s.1) (fun r bs' => And (r = (spec_l3Live.c.out s).1) (bs' = (spec_l3Live.c.out s).2))) (spec_l3Live.v (s.1) hf (fun r bs' => And (r = (spec_l3Live.c.out s).1) (bs' = (spec_l3Live.c.out s).2)) ⟨rfl, rfl⟩)
/-! ### impl.wayIdle -/
def impl_wayIdle_l2.S : Nat → Bool → (List Bool) → Int → Int → Nat × Bool × Int × Unit
  | 0, _, _, _, _ => (0, (false, (0, ())))
  | n + 1, x2_0, x2_1, x2_2, x2_3 => bif decide (x2_3 < x2_2) then bif x2_1.getD (x2_3).toNat false then (0, (false, (x2_3, ()))) else impl_wayIdle_l2.S n x2_0 x2_1 x2_2 (wrap (x2_3 + 1)) else (1, (false, (x2_3, ())))
def impl_wayIdle_l2.M (x2_0 : Bool) (x2_1 : List Bool) (x2_2 : Int) (x2_3 : Int) : Nat := (x2_2 - x2_3).toNat
def impl_wayIdle_l2.R (x2_0 : Bool) (x2_1 : List Bool) (x2_2 : Int) (x2_3 : Int) : Nat × Bool × Int × Unit := impl_wayIdle_l2.S (impl_wayIdle_l2.M x2_0 x2_1 x2_2 x2_3 + 1) x2_0 x2_1 x2_2 x2_3
def impl_wayIdle_l2.P (x2_0 : Bool) (x2_1 : List Bool) (x2_2 : Int) (x2_3 : Int) : Prop := (0 ≤ x2_3) ∧ (x2_2 ≤ 9223372036854775807) ∧ (x2_2 = (x2_1.length : Int))
def impl_wayIdle_l2.L : FL := fCons (fC cBool) (fCons (fC (cArr false kBools)) (fCons (fC cInt) (fCons (fC cInt) (fNil))))
def impl_wayIdle_l2.o0 (x2_0 : Bool) (x2_1 : List Bool) (x2_2 : Int) (x2_3 : Int) (r : Nat × Bool × Int × Unit) : Ex × List FV × List Blk := (.ret, [.c (.bool r.2.1), .c (.arr false (.bools x2_1)), .c (.int x2_2), .c (.int r.2.2.1)], [])
def impl_wayIdle_l2.o1 (x2_0 : Bool) (x2_1 : List Bool) (x2_2 : Int) (x2_3 : Int) (r : Nat × Bool × Int × Unit) : Ex × List FV × List Blk := (.exit 0, [.c (.bool x2_0), .c (.arr false (.bools x2_1)), .c (.int x2_2), .c (.int r.2.2.1)], [])
def impl_wayIdle_l2.o (x2_0 : Bool) (x2_1 : List Bool) (x2_2 : Int) (x2_3 : Int) (r : Nat × Bool × Int × Unit) : Ex × List FV × List Blk := pickAlt [(Nat.beq r.1 0, impl_wayIdle_l2.o0 x2_0 x2_1 x2_2 x2_3 r)] (impl_wayIdle_l2.o1 x2_0 x2_1 x2_2 x2_3 r)
def impl_wayIdle_l2.d : LDat := ldat 2 [2, 6, 7, 8] [] impl_wayIdle_l2.L (fun s => impl_wayIdle_l2.P s.1 s.2.1 s.2.2.1 s.2.2.2.1) (fun s => [(Nat.beq (impl_wayIdle_l2.R s.1 s.2.1 s.2.2.1 s.2.2.2.1).1 0, impl_wayIdle_l2.o0 s.1 s.2.1 s.2.2.1 s.2.2.2.1 (impl_wayIdle_l2.R s.1 s.2.1 s.2.2.1 s.2.2.2.1))]) (fun s => impl_wayIdle_l2.o1 s.1 s.2.1 s.2.2.1 s.2.2.2.1 (impl_wayIdle_l2.R s.1 s.2.1 s.2.2.1 s.2.2.2.1)) (fun s => impl_wayIdle_l2.M s.1 s.2.1 s.2.2.1 s.2.2.2.1)
def impl_wayIdle.S (a0 : St) : Bool := bif Nat.beq (impl_wayIdle_l2.R false a0.live (a0.live.length : Int) 0).1 0 then ((impl_wayIdle_l2.R false a0.live (a0.live.length : Int) 0).2.1) else (true)
def impl_wayIdle.enc (r : Bool) : AV × List Blk := (.v (.c (.bool r)), [])
def impl_wayIdle.L : ShL := sCons sSt (sNil)
def impl_wayIdle.c : Ctr := vctr 68 impl_wayIdle.L none (fun s => impl_wayIdle.enc (impl_wayIdle.S s.1))
theorem impl_wayIdle_l2.w (x2_0 : Bool) (x2_1 : List Bool) (x2_2 : Int) (x2_3 : Int) : evBody (envS [] []) [] (bodyAt Try.f68 0) impl_wayIdle_l2.d (x2_0, (x2_1, (x2_2, (x2_3, ())))) = (And (Imp ((decide (x2_3 < x2_2)) = true) (And ((0 : Int) ≤ x2_3 ∧ x2_3 < (x2_1.length : Int)) (And (Imp ((x2_1.getD (x2_3).toNat false) = true) (impl_wayIdle_l2.o x2_0 x2_1 x2_2 x2_3 (impl_wayIdle_l2.R x2_0 x2_1 x2_2 x2_3) = (.ret, [.c (.bool false), .c (.arr false (.bools x2_1)), .c (.int x2_2), .c (.int x2_3)], []))) (Imp ((x2_1.getD (x2_3).toNat false) = false) (And (impl_wayIdle_l2.P x2_0 x2_1 x2_2 (wrap (x2_3 + 1))) (And (impl_wayIdle_l2.M x2_0 x2_1 x2_2 (wrap (x2_3 + 1)) < impl_wayIdle_l2.M x2_0 x2_1 x2_2 x2_3) (impl_wayIdle_l2.o x2_0 x2_1 x2_2 (wrap (x2_3 + 1)) (impl_wayIdle_l2.R x2_0 x2_1 x2_2 (wrap (x2_3 + 1))) = impl_wayIdle_l2.o x2_0 x2_1 x2_2 x2_3 (impl_wayIdle_l2.R x2_0 x2_1 x2_2 x2_3)))))))) (Imp ((decide (x2_3 < x2_2)) = false) (impl_wayIdle_l2.o x2_0 x2_1 x2_2 x2_3 (impl_wayIdle_l2.R x2_0 x2_1 x2_2 x2_3) = (.exit 0, [.c (.bool x2_0), .c (.arr false (.bools x2_1)), .c (.int x2_2), .c (.int x2_3)], [])))) := by kernel_rfl
theorem impl_wayIdle_l2.v (x2_0 : Bool) (x2_1 : List Bool) (x2_2 : Int) (x2_3 : Int) (hp : impl_wayIdle_l2.P x2_0 x2_1 x2_2 x2_3) : And (Imp ((decide (x2_3 < x2_2)) = true) (And ((0 : Int) ≤ x2_3 ∧ x2_3 < (x2_1.length : Int)) (And (Imp ((x2_1.getD (x2_3).toNat false) = true) (impl_wayIdle_l2.o x2_0 x2_1 x2_2 x2_3 (impl_wayIdle_l2.R x2_0 x2_1 x2_2 x2_3) = (.ret, [.c (.bool false), .c (.arr false (.bools x2_1)), .c (.int x2_2), .c (.int x2_3)], []))) (Imp ((x2_1.getD (x2_3).toNat false) = false) (And (impl_wayIdle_l2.P x2_0 x2_1 x2_2 (wrap (x2_3 + 1))) (And (impl_wayIdle_l2.M x2_0 x2_1 x2_2 (wrap (x2_3 + 1)) < impl_wayIdle_l2.M x2_0 x2_1 x2_2 x2_3) (impl_wayIdle_l2.o x2_0 x2_1 x2_2 (wrap (x2_3 + 1)) (impl_wayIdle_l2.R x2_0 x2_1 x2_2 (wrap (x2_3 + 1))) = impl_wayIdle_l2.o x2_0 x2_1 x2_2 x2_3 (impl_wayIdle_l2.R x2_0 x2_1 x2_2 x2_3)))))))) (Imp ((decide (x2_3 < x2_2)) = false) (impl_wayIdle_l2.o x2_0 x2_1 x2_2 x2_3 (impl_wayIdle_l2.R x2_0 x2_1 x2_2 x2_3) = (.exit 0, [.c (.bool x2_0), .c (.arr false (.bools x2_1)), .c (.int x2_2), .c (.int x2_3)], []))) := by
  simp only [impl_wayIdle_l2.P] at hp
  obtain ⟨p0, p1, p2⟩ := hp
  refine ⟨fun h1 => ?_, fun h1 => ?_⟩
  · refine ⟨by first | exact True.intro | assumption | omega | grind [wrap_id], ?_⟩
    refine ⟨fun h2 => ?_, fun h2 => ?_⟩
    · have e : impl_wayIdle_l2.R x2_0 x2_1 x2_2 x2_3 = (0, (false, (x2_3, ()))) := by unfold impl_wayIdle_l2.R; rw [impl_wayIdle_l2.S]; exact (cond_t h1).trans <| (cond_t h2).trans <| rfl
      rw [e]
      rfl
    · have hμ : impl_wayIdle_l2.M x2_0 x2_1 x2_2 x2_3 = impl_wayIdle_l2.M x2_0 x2_1 x2_2 (wrap (x2_3 + 1)) + 1 := by simp only [impl_wayIdle_l2.M]; first | omega | grind [wrap_id]
      refine ⟨by simp only [impl_wayIdle_l2.P]; refine ⟨(by first | exact True.intro | assumption | omega | grind [wrap_id]), (by first | exact True.intro | assumption | omega | grind [wrap_id]), (by first | exact True.intro | assumption | omega | grind [wrap_id])⟩, by omega, ?_⟩
      have e : impl_wayIdle_l2.R x2_0 x2_1 x2_2 x2_3 = impl_wayIdle_l2.R x2_0 x2_1 x2_2 (wrap (x2_3 + 1)) := by
        have e1 : impl_wayIdle_l2.R x2_0 x2_1 x2_2 x2_3 = impl_wayIdle_l2.S (impl_wayIdle_l2.M x2_0 x2_1 x2_2 x2_3) x2_0 x2_1 x2_2 (wrap (x2_3 + 1)) := by unfold impl_wayIdle_l2.R; rw [impl_wayIdle_l2.S]; exact (cond_t h1).trans <| (cond_f h2).trans <| rfl
        rw [e1, hμ]
        rfl
      rw [e]
      rfl
  · have e : impl_wayIdle_l2.R x2_0 x2_1 x2_2 x2_3 = (1, (false, (x2_3, ()))) := by unfold impl_wayIdle_l2.R; rw [impl_wayIdle_l2.S]; exact (cond_f h1).trans <| rfl
    rw [e]
    rfl
theorem impl_wayIdle_l2.g (hG : ∀ c ∈ [], Good Try.prog c) : LGood Try.prog Try.f68.ntmps impl_wayIdle_l2.d.ctr (bodyAt Try.f68 0) := by
  refine lgoodS (sp := []) (LL := []) hG (by kernel_rfl) (by rw [show loopsOf (bodyAt Try.f68 0) = [] from by kernel_rfl]; exact noL rfl) fun s hp => ?_
  refine Eq.mpr (impl_wayIdle_l2.w s.1 s.2.1 s.2.2.1 s.2.2.2.1) ?_
  replace hp : impl_wayIdle_l2.P s.1 s.2.1 s.2.2.1 s.2.2.2.1 := hp
  exact impl_wayIdle_l2.v _ _ _ _ hp
def impl_wayIdle_l2.E (x2_0 : Bool) (x2_1 : List Bool) (x2_2 : Int) (k : Nat) (a : Unit) : Option (Nat × Bool × Int × Unit) := bif x2_1.getD k false then some (0, (false, ((k : Int), ()))) else none
def impl_wayIdle_l2.A (x2_0 : Bool) (x2_1 : List Bool) (x2_2 : Int) (k : Nat) (a : Unit) : Unit := bif x2_1.getD k false then a else ()
def impl_wayIdle_l2.fin (x2_0 : Bool) (x2_1 : List Bool) (x2_2 : Int) (k : Nat) (a : Unit) : Nat × Bool × Int × Unit := (1, (false, ((k : Int), ())))
def impl_wayIdle_l2.acc (x2_0 : Bool) (x2_1 : List Bool) (x2_2 : Int) (a : Unit) : Nat → Unit
  | 0 => a
  | k + 1 => impl_wayIdle_l2.A x2_0 x2_1 x2_2 k (impl_wayIdle_l2.acc x2_0 x2_1 x2_2 a k)
theorem impl_wayIdle_l2.law (x2_0 : Bool) (x2_1 : List Bool) (x2_2 : Int) (a : Unit) (n : Nat) (hT : x2_2 = (n : Int)) (hn : (n : Int) ≤ 9223372036854775807) :
    ((∀ k, k < n → impl_wayIdle_l2.E x2_0 x2_1 x2_2 k (impl_wayIdle_l2.acc x2_0 x2_1 x2_2 a k) = none) ∧ impl_wayIdle_l2.R x2_0 x2_1 x2_2 0 = impl_wayIdle_l2.fin x2_0 x2_1 x2_2 n (impl_wayIdle_l2.acc x2_0 x2_1 x2_2 a n)) ∨ (∃ k r, k < n ∧ impl_wayIdle_l2.E x2_0 x2_1 x2_2 k (impl_wayIdle_l2.acc x2_0 x2_1 x2_2 a k) = some r ∧ (∀ j, j < k → impl_wayIdle_l2.E x2_0 x2_1 x2_2 j (impl_wayIdle_l2.acc x2_0 x2_1 x2_2 a j) = none) ∧ impl_wayIdle_l2.R x2_0 x2_1 x2_2 0 = r) := by
  have hM : impl_wayIdle_l2.M x2_0 x2_1 x2_2 0 + 1 = n + 1 := by simp only [impl_wayIdle_l2.M]; omega
  unfold impl_wayIdle_l2.R
  rw [hM]
  refine loopE (fun m i b => impl_wayIdle_l2.S m x2_0 x2_1 x2_2 i) n hn (impl_wayIdle_l2.acc x2_0 x2_1 x2_2 a) (impl_wayIdle_l2.E x2_0 x2_1 x2_2 ) (impl_wayIdle_l2.fin x2_0 x2_1 x2_2 ) fun m k hk => ?_
  have ha : impl_wayIdle_l2.acc x2_0 x2_1 x2_2 a (k + 1) = impl_wayIdle_l2.A x2_0 x2_1 x2_2 k (impl_wayIdle_l2.acc x2_0 x2_1 x2_2 a k) := rfl
  rw [ha]
  generalize impl_wayIdle_l2.acc x2_0 x2_1 x2_2 a k = b
  simp only [impl_wayIdle_l2.S, impl_wayIdle_l2.E, impl_wayIdle_l2.A, impl_wayIdle_l2.fin, hT, Int.toNat_natCast]
  all_goals grind
theorem impl_wayIdle.w (a0 : St) (K : AV → List Blk → Prop) : evFn (envS [] []) [impl_wayIdle_l2.d.ctr] [] [] Try.f68 [] (impl_wayIdle.L.enc (a0, ())) K = (And (impl_wayIdle_l2.P false a0.live (a0.live.length : Int) 0) (And (Imp (Nat.beq (impl_wayIdle_l2.R false a0.live (a0.live.length : Int) 0).1 0 = true) (K (.v (.c (.bool (impl_wayIdle_l2.R false a0.live (a0.live.length : Int) 0).2.1))) ([]))) (Imp (Nat.beq (impl_wayIdle_l2.R false a0.live (a0.live.length : Int) 0).1 0 = false) (K (.v (.c (.bool true))) ([]))))) := by kernel_rfl
theorem impl_wayIdle.v (a0 : St) (hf : St.fact a0 ∧ True) (K : AV → List Blk → Prop) (hK : K (impl_wayIdle.enc (impl_wayIdle.S a0)).1 (impl_wayIdle.enc (impl_wayIdle.S a0)).2) : And (impl_wayIdle_l2.P false a0.live (a0.live.length : Int) 0) (And (Imp (Nat.beq (impl_wayIdle_l2.R false a0.live (a0.live.length : Int) 0).1 0 = true) (K (.v (.c (.bool (impl_wayIdle_l2.R false a0.live (a0.live.length : Int) 0).2.1))) ([]))) (Imp (Nat.beq (impl_wayIdle_l2.R false a0.live (a0.live.length : Int) 0).1 0 = false) (K (.v (.c (.bool true))) ([])))) := by
  obtain ⟨f0, -⟩ := hf
  obtain ⟨f0_0, f0_1, f0_2, f0_3⟩ := f0
  try simp only [big] at *
  refine ⟨by simp only [impl_wayIdle_l2.P]; refine ⟨(by clear hK; first | exact True.intro | assumption | omega | grind [wrap_id]), (by clear hK; first | exact True.intro | assumption | omega | grind [wrap_id]), (by clear hK; first | exact True.intro | assumption | omega | grind [wrap_id])⟩, ?_⟩
  refine ⟨fun h1 => ?_, fun h1 => ?_⟩
  · have e : impl_wayIdle.S a0 = ((impl_wayIdle_l2.R false a0.live (a0.live.length : Int) 0).2.1) := by unfold impl_wayIdle.S; exact (cond_t h1).trans <| rfl
    rw [e] at hK
    exact hK
  · have e : impl_wayIdle.S a0 = (true) := by unfold impl_wayIdle.S; exact (cond_f h1).trans <| rfl
    rw [e] at hK
    exact hK
theorem impl_wayIdle.good : Good Try.prog impl_wayIdle.c :=
  vgood (sh := []) (sp := []) (LL := [impl_wayIdle_l2.d.ctr]) noG (fn := Try.f68) (by kernel_rfl) (by kernel_rfl) (by rw [show loopsOf (bodyOf Try.f68) = [(bodyAt Try.f68 0)] from by kernel_rfl]; exact consL (l := impl_wayIdle_l2.d.ctr) (by kernel_rfl) (impl_wayIdle_l2.g noG) (noL rfl)) fun s hp hf => by
    exact Eq.mpr (impl_wayIdle.w (s.1) (fun r bs' => And (r = (impl_wayIdle.c.out s).1) (bs' = (impl_wayIdle.c.out s).2))) (impl_wayIdle.v (s.1) hf (fun r bs' => And (r = (impl_wayIdle.c.out s).1) (bs' = (impl_wayIdle.c.out s).2)) ⟨rfl, rfl⟩)
end Hw
end Go.Proofs.Ytmhighcagpbmeaa
