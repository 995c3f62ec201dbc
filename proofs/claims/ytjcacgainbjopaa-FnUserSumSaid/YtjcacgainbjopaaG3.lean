/- Lists: made by gen.py. -/
import Derived.Test.YtjcacgainbjopaaG0
set_option linter.unusedVariables false
set_option linter.unusedSimpArgs false
set_option maxRecDepth 100000
set_option maxHeartbeats 400000
namespace Go.Proofs.Ytjcacgainbjopaa
namespace Hw
open Go
noncomputable section
attribute [local irreducible] evFn evBody wrap wxor
theorem Za.G : GG [] := noG
def Zb.L : FL := fCons (fC (cArr false kInts)) (fCons (fC (cArr false kInts)) (fCons (fC cBool) (fCons (fC cInt) (fNil))))
def Zb : List Int × List Int × Bool × Int × Unit → LR (List Int × List Int × Bool × Int × Unit) (Nat × Bool × Unit) := fun (y0, y1, y2, y3, ()) => ⟨(0 ≤ y3) ∧ ((y0.length : Int) ≤ 9223372036854775807) ∧ (((y0.length : Int) != (y1.length : Int)) = false) ∧ ((y0.length : Int) = (y1.length : Int)) ∧ (∀ k : Nat, (k : Int) < y3 → y0.getD k 0 = y1.getD k 0) ∧ True, ((y0.length : Int) - y3).toNat, fun X => And (Imp ((decide (y3 < (y0.length : Int))) = true) (And ((0 : Int) ≤ y3 ∧ y3 < (y0.length : Int)) (And ((0 : Int) ≤ y3 ∧ y3 < (y1.length : Int)) (Lt ((y0.getD (y3).toNat 0) != (y1.getD (y3).toNat 0)) fun x1 => And (Imp (x1 = true) (X (.inr (0, false, ())))) (Imp (x1 = false) (Lt (wrap (y3 + 1)) fun x2 => X (.inl (y0, y1, y2, x2, ())))))))) (Imp ((decide (y3 < (y0.length : Int))) = false) (X (.inr (1, false, ())))), fun r => (r.1 = 0 → r.2.1 = false ∧ ¬ y0 = y1) ∧ (¬ r.1 = 0 → y0 = y1) ∧ True, fun r => [(Nat.beq r.1 0, (.ret, [.c (.bool r.2.1)], []))], fun r => (.exit 0, [], [])⟩
theorem Zb.X : XL Zb := mkL (0, false, ()) fun (y0, y1, y2, y3, ()) hp => by
  obtain ⟨p0, p1, p2, p3, p4, -⟩ := hp
  unfold ML; dsimp only [Zb]
  refine May.iff (B.dec) (fun h1 => ?_) (fun h1 => ?_)
  refine May.chk ?_ fun c1 => May.chk ?_ fun c2 => May.lp (B.ne) fun x1 e1 => May.iff (e1) (fun h2 => ?_) (fun h2 => ?_); rotate_left 2
  refine May.ex ⟨?_, ?_, trivial⟩; rotate_left 2
  refine May.lw ⟨?_, ?_⟩ fun x2 e2 => May.nx ⟨?_, ?_, ?_, ?_, ?_, trivial⟩ ?_ ?_ fun r => rfl; rotate_left 9
  refine May.ex ⟨?_, ?_, trivial⟩
  all_goals try dsimp only [Zb]
  all_goals first | with_reducible assumption | omega | exact fun _ q => q | (exact fun h => ⟨rfl, ints_ne (by assumption)⟩; done) | (exact fun _ => ints_eq' (by assumption) (by assumption) (by assumption); done) | (exact step_eq (by assumption) (by omega) (by assumption) (by grind); done) | (intro k hk; omega; done) | rfl | assumption | (simp only [List.length_append, List.length_cons, List.length_nil, List.length_set, List.length_replicate, Int.natCast_add, Int.natCast_one] at *; omega) | grind
abbrev Zb.R := Classical.choose Zb.X
def Zb.k : LCtr := (ld 4 [0, 1, 4, 5] [] Zb.L Zb 0 (fun e => match e with | .ret => [4] | _ => []) (fun _ => []) Zb.R).ctr
theorem Zb.g : LGood Try.prog Try.f9.ntmps Zb.k (bodyAt Try.f9 0) := mkLG {} Zb.X Za.G (by kernel_rfl) (l0 (by kernel_rfl)) (c0 (by kernel_rfl)) fun S s => by kernel_rfl
def Za.L : FL := fCons (fSh sInts) (fCons (fSh sInts) (fNil))
def Za : List Int × List Int × Unit → FR (Bool) := fun (a0, a1, ()) => ⟨(a0.length ≤ 1000000) ∧ True, fun X => And (Imp (((a0.length : Int) != (a1.length : Int)) = true) (X false)) (Imp (((a0.length : Int) != (a1.length : Int)) = false) (CallL Zb.X (a0, a1, false, 0, ()) fun x3 => And (Imp (Nat.beq x3.1 0 = true) (X x3.2.1)) (Imp (Nat.beq x3.1 0 = false) (X true)))), fun r => (r = true ↔ a0 = a1) ∧ True, fun r => (.v (.c (.bool r)), [])⟩
theorem Za.X : XF Za := mkF (false) fun (a0, a1, ()) hp => by
  obtain ⟨p0, -⟩ := hp
  dsimp only [Za]
  refine May.iff (B.ne) (fun h1 => ?_) (fun h1 => ?_)
  refine May.ret ⟨?_, trivial⟩; rotate_left 1
  refine May.loop ⟨?_, ?_, ?_, ?_, ?_, trivial⟩ fun x3 q3 => have q3_0 := q3.1; have q3_1 := q3.2.1; May.iff B.nbeq (fun h2 => ?_) (fun h2 => ?_); rotate_left 5
  refine May.ret ⟨?_, trivial⟩; rotate_left 1
  refine May.ret ⟨?_, trivial⟩
  all_goals try dsimp only
  all_goals first | with_reducible assumption | omega | rfl | assumption | (simp only [List.length_append, List.length_cons, List.length_nil, List.length_set, List.length_replicate, Int.natCast_add, Int.natCast_one] at *; omega) | grind
abbrev Za.S := Classical.choose Za.X
def Za.c : Ctr := fc 9 [true, true] Za.L Za Za.S
theorem Za.good : Good Try.prog Za.c := mkFG (fn := Try.f9) {LL := [Zb.k]} Za.X Za.G (by kernel_rfl) (by kernel_rfl) (lG (by kernel_rfl) (consL (by kernel_rfl) Zb.g (noL rfl))) (c0 (by kernel_rfl)) fun s K => by kernel_rfl
end
end Hw
end Go.Proofs.Ytjcacgainbjopaa
