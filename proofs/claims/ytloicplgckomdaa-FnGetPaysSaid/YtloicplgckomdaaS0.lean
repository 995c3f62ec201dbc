/- Copies: made by gen.py. -/
import Derived.Test.YtloicplgckomdaaE1
set_option linter.unusedVariables false
set_option linter.unusedSimpArgs false
set_option maxRecDepth 100000
set_option maxHeartbeats 400000
namespace Go.Proofs.Ytloicplgckomdaa
namespace Hw
open Go
noncomputable section
attribute [local irreducible] evFn evBody wrap wxor
def ZaM.L : FL := fCons (fSh sInts) (fNil)
def ZaM : List Int × Unit → FR (Unit) := fun (a0, ()) => ⟨(a0.length ≤ 4294967296) ∧ True, fun X => And (((a0.length : Int) : Int) = (a0.length : Int) ∧ (0 : Int) ≤ (a0.length : Int) ∧ ((a0.length : Int) : Int) ≤ 4294967296) (And ((Arr.rep .int ((a0.length : Int)).toNat).len = a0.length) (X ())), fun r => True, fun r => (.v (.c (.own 0 1 3)), [.arr (.ints a0)])⟩
theorem ZaM.X : XF ZaM := mkF () fun (a0, ()) hp => by
  obtain ⟨p0, -⟩ := hp
  dsimp only [ZaM]
  refine May.chk ?_ fun c1 => May.chk ?_ fun c2 => May.ret trivial
  all_goals try dsimp only
  all_goals first | with_reducible assumption | omega | (exact (rep_spec _ _).1.trans (by omega); done) | rfl | assumption | (simp only [List.length_append, List.length_cons, List.length_nil, List.length_set, List.length_replicate, Int.natCast_add, Int.natCast_one] at *; omega) | grind
abbrev ZaM.S := Classical.choose ZaM.X
def ZaM.c : Ctr := fc 88 [true] ZaM.L ZaM ZaM.S
theorem ZaM.good : Good Try.prog ZaM.c := mkFG (fn := Try.f88) {sh := [[some (.int, 3)]]} ZaM.X noG (by kernel_rfl) (by kernel_rfl) (l0 (by kernel_rfl)) (c0 (by kernel_rfl)) fun s K => by kernel_rfl
def ZaN.L : FL := fCons (fSh sBools) (fNil)
def ZaN : List Bool × Unit → FR (Unit) := fun (a0, ()) => ⟨(a0.length ≤ 4294967296) ∧ True, fun X => And (((a0.length : Int) : Int) = (a0.length : Int) ∧ (0 : Int) ≤ (a0.length : Int) ∧ ((a0.length : Int) : Int) ≤ 4294967296) (And ((Arr.rep .bool ((a0.length : Int)).toNat).len = a0.length) (X ())), fun r => True, fun r => (.v (.c (.own 0 1 4)), [.arr (.bools a0)])⟩
theorem ZaN.X : XF ZaN := mkF () fun (a0, ()) hp => by
  obtain ⟨p0, -⟩ := hp
  dsimp only [ZaN]
  refine May.chk ?_ fun c1 => May.chk ?_ fun c2 => May.ret trivial
  all_goals try dsimp only
  all_goals first | with_reducible assumption | omega | (exact (rep_spec _ _).1.trans (by omega); done) | rfl | assumption | (simp only [List.length_append, List.length_cons, List.length_nil, List.length_set, List.length_replicate, Int.natCast_add, Int.natCast_one] at *; omega) | grind
abbrev ZaN.S := Classical.choose ZaN.X
def ZaN.c : Ctr := fc 92 [true] ZaN.L ZaN ZaN.S
theorem ZaN.good : Good Try.prog ZaN.c := mkFG (fn := Try.f92) {sh := [[some (.bool, 4)]]} ZaN.X noG (by kernel_rfl) (by kernel_rfl) (l0 (by kernel_rfl)) (c0 (by kernel_rfl)) fun s K => by kernel_rfl
def ZaO.L : FL := fCons (fSh sPkts) (fNil)
def ZaO : List Pkt × Unit → FR (Unit) := fun (a0, ()) => ⟨(a0.length ≤ 4294967296) ∧ True, fun X => And (((a0.length : Int) : Int) = (a0.length : Int) ∧ (0 : Int) ≤ (a0.length : Int) ∧ ((a0.length : Int) : Int) ≤ 4294967296) (And ((Arr.rep .pkt ((a0.length : Int)).toNat).len = a0.length) (X ())), fun r => True, fun r => (.v (.c (.own 0 7 49)), [.arr (.pkts a0)])⟩
theorem ZaO.X : XF ZaO := mkF () fun (a0, ()) hp => by
  obtain ⟨p0, -⟩ := hp
  dsimp only [ZaO]
  refine May.chk ?_ fun c1 => May.chk ?_ fun c2 => May.ret trivial
  all_goals try dsimp only
  all_goals first | with_reducible assumption | omega | (exact (rep_spec _ _).1.trans (by omega); done) | rfl | assumption | (simp only [List.length_append, List.length_cons, List.length_nil, List.length_set, List.length_replicate, Int.natCast_add, Int.natCast_one] at *; omega) | grind
abbrev ZaO.S := Classical.choose ZaO.X
def ZaO.c : Ctr := fc 91 [true] ZaO.L ZaO ZaO.S
theorem ZaO.good : Good Try.prog ZaO.c := mkFG (fn := Try.f91) {sh := [[some (.pkt, 49)]]} ZaO.X noG (by kernel_rfl) (by kernel_rfl) (l0 (by kernel_rfl)) (c0 (by kernel_rfl)) fun s K => by kernel_rfl
def ZaP.L : FL := fCons (fSh sSt) (fNil)
def ZaP : St × Unit → FR (Unit) := fun (a0, ()) => ⟨(a0.sm) ∧ True, fun X => And ((ZaO (a0.sent, ())).P) (And ((ZaN (a0.live, ())).P) (And ((ZaN (a0.back, ())).P) (And ((ZaM (a0.got, ())).P) (X ())))), fun r => True, fun r => (.v (.agg [.int a0.way, .int a0.ver, .int a0.want, .own 0 7 49, .own 1 1 4, .own 2 1 4, .own 3 1 3]), [.arr (.pkts a0.sent), .arr (.bools a0.live), .arr (.bools a0.back), .arr (.ints a0.got)])⟩
theorem ZaP.X : XF ZaP := mkF () fun (a0, ()) hp => by
  obtain ⟨p0, -⟩ := hp
  dsimp only [ZaP]
  refine May.chk ⟨?_, trivial⟩ fun c1 => May.chk ⟨?_, trivial⟩ fun c2 => May.chk ⟨?_, trivial⟩ fun c3 => May.chk ⟨?_, trivial⟩ fun c4 => May.ret trivial
  all_goals try dsimp only
  all_goals first | with_reducible assumption | omega | rfl | assumption | (simp only [List.length_append, List.length_cons, List.length_nil, List.length_set, List.length_replicate, Int.natCast_add, Int.natCast_one] at *; omega) | grind [St.sm]
abbrev ZaP.S := Classical.choose ZaP.X
def ZaP.c : Ctr := fc 57 [true] ZaP.L ZaP ZaP.S
theorem ZaP.good : Good Try.prog ZaP.c := mkFG (fn := Try.f57) {sh := [[none, none, none, some (.pkt, 49), some (.bool, 4), some (.bool, 4), some (.int, 3)]]} ZaP.X (consG ZaO.good (consG ZaN.good (consG ZaM.good noG))) (by kernel_rfl) (by kernel_rfl) (l0 (by kernel_rfl)) (c0 (by kernel_rfl)) fun s K => by kernel_rfl
end
end Hw
end Go.Proofs.Ytloicplgckomdaa
