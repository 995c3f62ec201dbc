/- What became of a packet: made by gen.py. -/
import Derived.Test.YtjcacgainbjopaaG0
set_option linter.unusedVariables false
set_option linter.unusedSimpArgs false
set_option maxRecDepth 100000
set_option maxHeartbeats 400000
namespace Go.Proofs.Ytjcacgainbjopaa
namespace Hw
open Go
noncomputable section
attribute [local irreducible] evFn evBody wrap wxor
def entryOf (k : Nat) : Int := if k = 97 then 1 else if k = 98 then 2 else 0
theorem fateBack {n : Int} (h0 : 0 ≤ n) (h1 : n ≤ 2) : entryOf (ZL.S n).1 = n := by
  have : n = 0 ∨ n = 1 ∨ n = 2 := by omega
  rcases this with rfl | rfl | rfl <;> rfl

def Zct.L : FL := fCons (fSh sSt) (fCons (fSh sInt) (fNil))
def Zct : St × Int × Unit → FR (Nat) := fun (a0, a1, ()) => ⟨(a0.got.length = 8) ∧ (1 ≤ a1) ∧ (a1 ≤ 8) ∧ True, fun X => Lt (wrap (a1 - 1)) fun x1 => And ((0 : Int) ≤ x1 ∧ x1 < (a0.got.length : Int)) (X (ZL.S (a0.got.getD (x1).toNat 0)).1), fun r => (r = (ZL.S (a0.got.getD (a1 - 1).toNat 0)).1) ∧ True, fun r => (.v (.c (.ifc r)), [])⟩
theorem Zct.X : XF Zct := mkF (0) fun (a0, a1, ()) hp => by
  obtain ⟨p0, p1, p2, -⟩ := hp
  dsimp only [Zct]
  refine May.lw ⟨?_, ?_⟩ fun x1 e1 => May.chk ?_ fun c1 => May.ret ⟨?_, trivial⟩
  all_goals try dsimp only
  all_goals first | with_reducible assumption | omega | rfl | assumption | (simp only [List.length_append, List.length_cons, List.length_nil, List.length_set, List.length_replicate, Int.natCast_add, Int.natCast_one] at *; omega) | grind
abbrev Zct.S := Classical.choose Zct.X
def Zct.c : Ctr := fc 54 [true, false] Zct.L Zct Zct.S
theorem Zct.good : Good Try.prog Zct.c := mkFG (fn := Try.f54) {} Zct.X (consG ZL.good noG) (by kernel_rfl) (by kernel_rfl) (l0 (by kernel_rfl)) (c0 (by kernel_rfl)) fun s K => by kernel_rfl
def Zcu.L : FL := fCons (fSh sIfc) (fNil)
def Zcu : Nat × Unit → FR (Int) := fun (a0, ()) => ⟨True, fun X => And (Imp ((Nat.beq a0 97) = true) (X 1)) (Imp ((Nat.beq a0 97) = false) (And (Imp ((Nat.beq a0 98) = true) (X 2)) (Imp ((Nat.beq a0 98) = false) (X 0)))), fun r => (r = entryOf a0) ∧ True, fun r => (.v (.c (.int r)), [])⟩
theorem Zcu.X : XF Zcu := mkF (0) fun (a0, ()) hp => by
  clear hp
  dsimp only [Zcu]
  refine May.iff (B.nbeq) (fun h1 => ?_) (fun h1 => ?_)
  refine May.ret ⟨?_, trivial⟩; rotate_left 1
  refine May.iff (B.nbeq) (fun h2 => ?_) (fun h2 => ?_)
  refine May.ret ⟨?_, trivial⟩; rotate_left 1
  refine May.ret ⟨?_, trivial⟩
  all_goals try dsimp only
  all_goals first | with_reducible assumption | omega | rfl | assumption | (simp only [List.length_append, List.length_cons, List.length_nil, List.length_set, List.length_replicate, Int.natCast_add, Int.natCast_one] at *; omega) | grind [entryOf]
abbrev Zcu.S := Classical.choose Zcu.X
def Zcu.c : Ctr := fc0 53 [false] Zcu.L Zcu Zcu.S
theorem Zcu.good : Good Try.prog Zcu.c := mkFG0 (fn := Try.f53) {} Zcu.X noG (by kernel_rfl) (by kernel_rfl) (l0 (by kernel_rfl)) (c0 (by kernel_rfl)) (fun _ => trivial) fun s K => by kernel_rfl
def Zcv.L : FL := fCons (fSh sSt) (fCons (fSh sInt) (fNil))
def Zcv : St × Int × Unit → FR (Int) := fun (a0, a1, ()) => ⟨True, fun X => Lt (bif bif decide (a1 < 1) then true else decide (a1 > 8) then true else !(ZO.S a0)) fun x1 => And (Imp (x1 = true) (X 0)) (Imp (x1 = false) (Call Zct.X (a0, a1, ()) fun x2 => Call0 Zcu.X (x2, ()) fun x3 => X x3)), fun r => (GotQ a0 a1 r) ∧ True, fun r => (.v (.c (.int r)), [])⟩
theorem Zcv.X : XF Zcv := mkF (0) fun (a0, a1, ()) hp => by
  clear hp
  dsimp only [Zcv]
  refine May.lp (B.or (B.or (B.dec) (B.dec)) (B.not (implSt))) fun x1 e1 => May.iff (e1) (fun h1 => ?_) (fun h1 => ?_)
  refine May.ret ⟨?_, trivial⟩; rotate_left 1
  refine May.call ⟨?_, ?_, ?_, trivial⟩ fun x2 q2 => have q2 := q2.1; May.call0 trivial fun x3 q3 => have q3 := q3.1; May.ret ⟨?_, trivial⟩
  all_goals try dsimp only
  all_goals first | with_reducible assumption | omega | (have ho := (show StOk a0 by grind); have hl := stL4 ho; have hg := got_rng ho (n := a1) (by grind) (by grind); have hb := fateBack hg.1 hg.2; first | exact hl | (rw [q3, q2]; exact ⟨fun _ _ _ => hb, fun h => absurd ⟨ho, by omega, by omega⟩ h⟩); done) | (simp only [List.length_append, List.length_cons, List.length_nil, List.length_set, List.length_replicate, Int.natCast_add, Int.natCast_one] at *; omega) | grind
abbrev Zcv.S := Classical.choose Zcv.X
def Zcv.c : Ctr := fc0 45 [true, false] Zcv.L Zcv Zcv.S
theorem Zcv.good : Good Try.prog Zcv.c := mkFG0 (fn := Try.f45) {} Zcv.X (consG ZO.good (consG Zct.good (consG Zcu.good noG))) (by kernel_rfl) (by kernel_rfl) (l0 (by kernel_rfl)) (c0 (by kernel_rfl)) (fun _ => trivial) fun s K => by kernel_rfl
end
end Hw
end Go.Proofs.Ytjcacgainbjopaa
