/- What is not settled, 3: made by gen.py. -/
import Derived.Test.YtjcacgainbjopaaG0
set_option linter.unusedVariables false
set_option linter.unusedSimpArgs false
set_option maxRecDepth 100000
set_option maxHeartbeats 400000
namespace Go.Proofs.Ytjcacgainbjopaa
namespace Hw
open Go
noncomputable section
attribute [local irreducible] evFn evBody wrap wxor
theorem Zbg.G : GG [ZO.c] := (consG ZO.good noG)
def Zbh.L : FL := fCons (fC (cOwn kInts 3)) (fCons (fC (cArr false kBools)) (fCons (fC cInt) (fCons (fC cInt) (fNil))))
def Zbh : List Int × List Bool × Int × Int × Unit → LR (List Int × List Bool × Int × Int × Unit) (Nat × (List Int) × Unit) := fun (y0, y1, y2, y3, ()) => ⟨(0 ≤ y3) ∧ (y2 ≤ 9223372036854775807) ∧ (y2 = (y1.length : Int)) ∧ (y0 = lives y1 y3.toNat) ∧ (y1.length ≤ 8) ∧ (y3 ≤ (y1.length : Int)) ∧ True, (y2 - y3).toNat, fun X => And (Imp ((decide (y3 < y2)) = true) (And ((0 : Int) ≤ y3 ∧ y3 < (y1.length : Int)) (And (Imp ((y1.getD (y3).toNat false) = true) (Lt (wrap (y3 + 1)) fun x1 => And ((y0 ++ ([x1])).length ≤ 4294967296) (X (.inl ((y0 ++ ([x1])), y1, y2, x1, ()))))) (Imp ((y1.getD (y3).toNat false) = false) (Lt (wrap (y3 + 1)) fun x2 => X (.inl (y0, y1, y2, x2, ()))))))) (Imp ((decide (y3 < y2)) = false) (X (.inr (0, y0, ())))), fun r => (r.2.1 = lives y1 y1.length) ∧ True, fun r => [], fun r => (.exit 0, [.c (.own 0 1 3)], [.arr (.ints r.2.1)])⟩
theorem Zbh.X : XL Zbh := mkL (0, [], ()) fun (y0, y1, y2, y3, ()) hp => by
  obtain ⟨p0, p1, p2, p3, p4, p5, -⟩ := hp
  unfold ML; dsimp only [Zbh]
  refine May.iff (B.dec) (fun h1 => ?_) (fun h1 => ?_)
  refine May.chk ?_ fun c1 => May.iff (Iff.rfl) (fun h2 => ?_) (fun h2 => ?_); rotate_left 1
  refine May.lw ⟨?_, ?_⟩ fun x1 e1 => May.chk ?_ fun c2 => May.nx ⟨?_, ?_, ?_, ?_, ?_, ?_, trivial⟩ ?_ ?_ fun r => rfl; rotate_left 11
  refine May.lw ⟨?_, ?_⟩ fun x2 e2 => May.nx ⟨?_, ?_, ?_, ?_, ?_, ?_, trivial⟩ ?_ ?_ fun r => rfl; rotate_left 10
  refine May.ex ⟨?_, trivial⟩
  all_goals try dsimp only [Zbh]
  all_goals first | with_reducible assumption | omega | exact fun _ q => q | (have := stL (s := a0) (by grind); omega; done) | (rw [p3, e1]; exact lives_t rfl (by omega) h2; done) | (rw [p3]; exact lives_f (by omega) (by omega) h2; done) | ((show y0 = lives y1 y1.length); rw [p3, show y3.toNat = y1.length by omega]; done) | (have := lives_len (l := y1) y3.toNat; rw [p3]; simp only [List.length_append, List.length_cons, List.length_nil]; omega; done) | (rfl; done) | rfl | assumption | (simp only [List.length_append, List.length_cons, List.length_nil, List.length_set, List.length_replicate, Int.natCast_add, Int.natCast_one] at *; omega) | grind
abbrev Zbh.R := Classical.choose Zbh.X
def Zbh.k : LCtr := (ld 5 [3, 10, 11, 12] [[some (.int, 3)]] Zbh.L Zbh 0 (fun _ => [3]) (fun _ => [[some (.int, 3)]]) Zbh.R).ctr
theorem Zbh.g : LGood Try.prog Try.f16.ntmps Zbh.k (bodyAt Try.f16 0) := mkLG {} Zbh.X Zbg.G (by kernel_rfl) (l0 (by kernel_rfl)) (c0 (by kernel_rfl)) fun S s => by kernel_rfl
def Zbg.L : FL := fCons (fSh sSt) (fNil)
def Zbg : St × Unit → FR ((List Int)) := fun (a0, ()) => ⟨True, fun X => And (Imp ((!(ZO.S a0)) = true) (X [])) (Imp ((!(ZO.S a0)) = false) (CallL Zbh.X ([], a0.live, (a0.live.length : Int), 0, ()) fun x3 => X x3.2.1)), fun r => (StOk a0 → r = lives a0.live a0.live.length) ∧ (¬ StOk a0 → r = []) ∧ True, fun r => (.v (.c (.arr true (.ints r))), [])⟩
theorem Zbg.X : XF Zbg := mkF ([]) fun (a0, ()) hp => by
  clear hp
  dsimp only [Zbg]
  refine May.iff (B.not (implSt)) (fun h1 => ?_) (fun h1 => ?_)
  refine May.ret ⟨?_, ?_, trivial⟩; rotate_left 2
  refine May.loop ⟨?_, ?_, ?_, ?_, ?_, ?_, trivial⟩ fun x3 q3 => have q3 := q3.1; May.ret ⟨?_, ?_, trivial⟩
  all_goals try dsimp only
  all_goals first | with_reducible assumption | omega | (have := stL (s := a0) (by grind); omega; done) | rfl | assumption | (simp only [List.length_append, List.length_cons, List.length_nil, List.length_set, List.length_replicate, Int.natCast_add, Int.natCast_one] at *; omega) | grind
abbrev Zbg.S := Classical.choose Zbg.X
def Zbg.c : Ctr := fc0 16 [true] Zbg.L Zbg Zbg.S
theorem Zbg.good : Good Try.prog Zbg.c := mkFG0 (fn := Try.f16) {LL := [Zbh.k], sh := [[some (.int, 3)]], lst := true} Zbg.X Zbg.G (by kernel_rfl) (by kernel_rfl) (lG (by kernel_rfl) (consL (by kernel_rfl) Zbh.g (noL rfl))) (c0 (by kernel_rfl)) (fun _ => trivial) fun s K => by kernel_rfl
end
end Hw
end Go.Proofs.Ytjcacgainbjopaa
