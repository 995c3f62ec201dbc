/- What a step does: made by gen.py. -/
import Derived.Test.YtloicplgckomdaaW0
import Derived.Test.YtloicplgckomdaaS0
set_option linter.unusedVariables false
set_option linter.unusedSimpArgs false
set_option maxRecDepth 100000
set_option maxHeartbeats 400000
namespace Go.Proofs.Ytloicplgckomdaa
namespace Hw
open Go
noncomputable section
attribute [local irreducible] evFn evBody wrap wxor
def Za8.L : FL := fCons (fC (cPtr 1 cStO rfl)) (fNil)
def Za8 : St × Unit → FR (St) := fun (a0, ()) => ⟨True, fun X => X (⟨1, a0.ver, a0.want, a0.sent, a0.live, a0.back, a0.got⟩ : St), fun r => (r = ⟨1, a0.ver, a0.want, a0.sent, a0.live, a0.back, a0.got⟩) ∧ True, fun r => (.tup [], [.raw 1 [.int r.way, .int r.ver, .int r.want, .own 1 7 49, .own 2 1 4, .own 3 1 4, .own 4 1 3], .arr (.pkts r.sent), .arr (.bools r.live), .arr (.bools r.back), .arr (.ints r.got)])⟩
theorem Za8.X : XF Za8 := mkF (zSt) fun (a0, ()) hp => by
  clear hp
  dsimp only [Za8]
  refine May.ret ⟨?_, trivial⟩
  all_goals try dsimp only
  all_goals first | with_reducible assumption | omega | rfl | assumption | (simp only [List.length_append, List.length_cons, List.length_nil, List.length_set, List.length_replicate, Int.natCast_add, Int.natCast_one] at *; omega) | grind
abbrev Za8.S := Classical.choose Za8.X
def Za8.c : Ctr := fc0 117 [false] Za8.L Za8 Za8.S
theorem Za8.good : Good Try.prog Za8.c := mkFG0 (fn := Try.f117) {} Za8.X noG (by kernel_rfl) (by kernel_rfl) (l0 (by kernel_rfl)) (c0 (by kernel_rfl)) (fun _ => trivial) fun s K => by kernel_rfl
def Za9.L : FL := fCons (fC (cPtr 1 cStO rfl)) (fNil)
def Za9 : St × Unit → FR (St) := fun (a0, ()) => ⟨True, fun X => X (⟨2, a0.ver, a0.want, a0.sent, a0.live, a0.back, a0.got⟩ : St), fun r => (r = ⟨2, a0.ver, a0.want, a0.sent, a0.live, a0.back, a0.got⟩) ∧ True, fun r => (.tup [], [.raw 1 [.int r.way, .int r.ver, .int r.want, .own 1 7 49, .own 2 1 4, .own 3 1 4, .own 4 1 3], .arr (.pkts r.sent), .arr (.bools r.live), .arr (.bools r.back), .arr (.ints r.got)])⟩
theorem Za9.X : XF Za9 := mkF (zSt) fun (a0, ()) hp => by
  clear hp
  dsimp only [Za9]
  refine May.ret ⟨?_, trivial⟩
  all_goals try dsimp only
  all_goals first | with_reducible assumption | omega | rfl | assumption | (simp only [List.length_append, List.length_cons, List.length_nil, List.length_set, List.length_replicate, Int.natCast_add, Int.natCast_one] at *; omega) | grind
abbrev Za9.S := Classical.choose Za9.X
def Za9.c : Ctr := fc0 119 [false] Za9.L Za9 Za9.S
theorem Za9.good : Good Try.prog Za9.c := mkFG0 (fn := Try.f119) {} Za9.X noG (by kernel_rfl) (by kernel_rfl) (l0 (by kernel_rfl)) (c0 (by kernel_rfl)) (fun _ => trivial) fun s K => by kernel_rfl
def Zba.L : FL := fCons (fC (cPtr 1 cStO rfl)) (fNil)
def Zba : St × Unit → FR (St) := fun (a0, ()) => ⟨True, fun X => X (⟨3, a0.ver, a0.want, a0.sent, a0.live, a0.back, a0.got⟩ : St), fun r => (r = ⟨3, a0.ver, a0.want, a0.sent, a0.live, a0.back, a0.got⟩) ∧ True, fun r => (.tup [], [.raw 1 [.int r.way, .int r.ver, .int r.want, .own 1 7 49, .own 2 1 4, .own 3 1 4, .own 4 1 3], .arr (.pkts r.sent), .arr (.bools r.live), .arr (.bools r.back), .arr (.ints r.got)])⟩
theorem Zba.X : XF Zba := mkF (zSt) fun (a0, ()) hp => by
  clear hp
  dsimp only [Zba]
  refine May.ret ⟨?_, trivial⟩
  all_goals try dsimp only
  all_goals first | with_reducible assumption | omega | rfl | assumption | (simp only [List.length_append, List.length_cons, List.length_nil, List.length_set, List.length_replicate, Int.natCast_add, Int.natCast_one] at *; omega) | grind
abbrev Zba.S := Classical.choose Zba.X
def Zba.c : Ctr := fc0 121 [false] Zba.L Zba Zba.S
theorem Zba.good : Good Try.prog Zba.c := mkFG0 (fn := Try.f121) {} Zba.X noG (by kernel_rfl) (by kernel_rfl) (l0 (by kernel_rfl)) (c0 (by kernel_rfl)) (fun _ => trivial) fun s K => by kernel_rfl
def Zbb.L : FL := fCons (fC (cPtr 1 cStO rfl)) (fNil)
def Zbb : St × Unit → FR (St) := fun (a0, ()) => ⟨True, fun X => X (⟨3, a0.ver, a0.want, a0.sent, a0.live, a0.back, a0.got⟩ : St), fun r => (r = ⟨3, a0.ver, a0.want, a0.sent, a0.live, a0.back, a0.got⟩) ∧ True, fun r => (.tup [], [.raw 1 [.int r.way, .int r.ver, .int r.want, .own 1 7 49, .own 2 1 4, .own 3 1 4, .own 4 1 3], .arr (.pkts r.sent), .arr (.bools r.live), .arr (.bools r.back), .arr (.ints r.got)])⟩
theorem Zbb.X : XF Zbb := mkF (zSt) fun (a0, ()) hp => by
  clear hp
  dsimp only [Zbb]
  refine May.ret ⟨?_, trivial⟩
  all_goals try dsimp only
  all_goals first | with_reducible assumption | omega | rfl | assumption | (simp only [List.length_append, List.length_cons, List.length_nil, List.length_set, List.length_replicate, Int.natCast_add, Int.natCast_one] at *; omega) | grind
abbrev Zbb.S := Classical.choose Zbb.X
def Zbb.c : Ctr := fc0 123 [false] Zbb.L Zbb Zbb.S
theorem Zbb.good : Good Try.prog Zbb.c := mkFG0 (fn := Try.f123) {} Zbb.X noG (by kernel_rfl) (by kernel_rfl) (l0 (by kernel_rfl)) (c0 (by kernel_rfl)) (fun _ => trivial) fun s K => by kernel_rfl
def Zbc.L : FL := fCons (fC (cPtr 1 cStO rfl)) (fNil)
def Zbc : St × Unit → FR (St) := fun (a0, ()) => ⟨True, fun X => X (⟨4, a0.ver, wrap (a0.ver + 1), a0.sent, a0.live, a0.back, a0.got⟩ : St), fun r => (r = ⟨4, a0.ver, wrap (a0.ver + 1), a0.sent, a0.live, a0.back, a0.got⟩) ∧ True, fun r => (.tup [], [.raw 1 [.int r.way, .int r.ver, .int r.want, .own 1 7 49, .own 2 1 4, .own 3 1 4, .own 4 1 3], .arr (.pkts r.sent), .arr (.bools r.live), .arr (.bools r.back), .arr (.ints r.got)])⟩
theorem Zbc.X : XF Zbc := mkF (zSt) fun (a0, ()) hp => by
  clear hp
  dsimp only [Zbc]
  refine May.ret ⟨?_, trivial⟩
  all_goals try dsimp only
  all_goals first | with_reducible assumption | omega | rfl | assumption | (simp only [List.length_append, List.length_cons, List.length_nil, List.length_set, List.length_replicate, Int.natCast_add, Int.natCast_one] at *; omega) | grind
abbrev Zbc.S := Classical.choose Zbc.X
def Zbc.c : Ctr := fc0 125 [false] Zbc.L Zbc Zbc.S
theorem Zbc.good : Good Try.prog Zbc.c := mkFG0 (fn := Try.f125) {} Zbc.X noG (by kernel_rfl) (by kernel_rfl) (l0 (by kernel_rfl)) (c0 (by kernel_rfl)) (fun _ => trivial) fun s K => by kernel_rfl
def Zbd.L : FL := fCons (fC (cPtr 1 cStO rfl)) (fNil)
def Zbd : St × Unit → FR (St) := fun (a0, ()) => ⟨True, fun X => X (⟨3, a0.want, 0, a0.sent, a0.live, a0.back, a0.got⟩ : St), fun r => (r = ⟨3, a0.want, 0, a0.sent, a0.live, a0.back, a0.got⟩) ∧ True, fun r => (.tup [], [.raw 1 [.int r.way, .int r.ver, .int r.want, .own 1 7 49, .own 2 1 4, .own 3 1 4, .own 4 1 3], .arr (.pkts r.sent), .arr (.bools r.live), .arr (.bools r.back), .arr (.ints r.got)])⟩
theorem Zbd.X : XF Zbd := mkF (zSt) fun (a0, ()) hp => by
  clear hp
  dsimp only [Zbd]
  refine May.ret ⟨?_, trivial⟩
  all_goals try dsimp only
  all_goals first | with_reducible assumption | omega | rfl | assumption | (simp only [List.length_append, List.length_cons, List.length_nil, List.length_set, List.length_replicate, Int.natCast_add, Int.natCast_one] at *; omega) | grind
abbrev Zbd.S := Classical.choose Zbd.X
def Zbd.c : Ctr := fc0 128 [false] Zbd.L Zbd Zbd.S
theorem Zbd.good : Good Try.prog Zbd.c := mkFG0 (fn := Try.f128) {} Zbd.X noG (by kernel_rfl) (by kernel_rfl) (l0 (by kernel_rfl)) (c0 (by kernel_rfl)) (fun _ => trivial) fun s K => by kernel_rfl
end
end Hw
end Go.Proofs.Ytloicplgckomdaa
