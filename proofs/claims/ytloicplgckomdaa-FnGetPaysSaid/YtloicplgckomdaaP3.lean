/- What a user has: made by gen.py. -/
import Derived.Test.YtloicplgckomdaaM2
set_option linter.unusedVariables false
set_option linter.unusedSimpArgs false
set_option maxRecDepth 100000
set_option maxHeartbeats 400000
namespace Go.Proofs.Ytloicplgckomdaa
namespace Hw
open Go
noncomputable section
attribute [local irreducible] evFn evBody wrap wxor
abbrev HasK (b : Bk) (k f n : Int) : Prop := (1 ≤ f ∧ f ≤ 3) → b.own.length = 3 → b.notes.length = 3 → n = (lstK b k).getD (f - 1).toNat 0
theorem has_0 {b : Bk} {k f : Int} (h : ((f < 1 ∨ f > 3) ∨ ¬(b.own.length : Int) = 3) ∨ ¬(b.notes.length : Int) = 3) : HasK b k f 0 := fun h1 h2 h3 => by omega
theorem has_1 {b : Bk} {k f i : Int} (h : k = 1) (e : i = f - 1) : HasK b k f (b.own.getD i.toNat 0) := fun _ _ _ => by
  unfold lstK
  rw [if_pos h, e]
theorem has_2 {b : Bk} {k f i : Int} (h : ¬ k = 1) (e : i = f - 1) : HasK b k f (b.notes.getD i.toNat 0) := fun _ _ _ => by
  unfold lstK
  rw [if_neg h, e]

def Zcn.L : FL := fCons (fSh sBk) (fCons (fSh sInt) (fCons (fSh sInt) (fNil)))
def Zcn : Bk × Int × Int × Unit → FR (Int) := fun (a0, a1, a2, ()) => ⟨(a0.own.length ≤ 1000000) ∧ (a0.notes.length ≤ 1000000) ∧ True, fun X => Lt (bif bif decide (a2 < 1) then true else decide (a2 > 3) then true else (a0.own.length : Int) != 3) fun x1 => And (Imp ((bif x1 then true else (a0.notes.length : Int) != 3) = true) (X 0)) (Imp ((bif x1 then true else (a0.notes.length : Int) != 3) = false) (And (Imp ((a1 == 1) = true) (Lt (wrap (a2 - 1)) fun x2 => And ((0 : Int) ≤ x2 ∧ x2 < (a0.own.length : Int)) (X (a0.own.getD (x2).toNat 0)))) (Imp ((a1 == 1) = false) (Lt (wrap (a2 - 1)) fun x3 => And ((0 : Int) ≤ x3 ∧ x3 < (a0.notes.length : Int)) (X (a0.notes.getD (x3).toNat 0)))))), fun r => (HasK a0 a1 a2 r) ∧ True, fun r => (.v (.c (.int r)), [])⟩
theorem Zcn.X : XF Zcn := mkF (0) fun (a0, a1, a2, ()) hp => by
  obtain ⟨p0, p1, -⟩ := hp
  dsimp only [Zcn]
  refine May.lp (B.or (B.or (B.dec) (B.dec)) (B.ne)) fun x1 e1 => May.iff (B.or (e1) (B.ne)) (fun h1 => ?_) (fun h1 => ?_)
  refine May.ret ⟨?_, trivial⟩; rotate_left 1
  refine May.iff (B.eq) (fun h2 => ?_) (fun h2 => ?_)
  refine May.lw ⟨?_, ?_⟩ fun x2 e2 => May.chk ?_ fun c1 => May.ret ⟨?_, trivial⟩; rotate_left 4
  refine May.lw ⟨?_, ?_⟩ fun x3 e3 => May.chk ?_ fun c2 => May.ret ⟨?_, trivial⟩
  all_goals try dsimp only
  all_goals first | with_reducible assumption | omega | (exact has_0 h1; done) | (exact has_1 h2 e2; done) | (exact has_2 h2 e3; done)
abbrev Zcn.S := Classical.choose Zcn.X
def Zcn.c : Ctr := fc 41 [true, false, false] Zcn.L Zcn Zcn.S
theorem Zcn.good : Good Try.prog Zcn.c := mkFG (fn := Try.f41) {} Zcn.X noG (by kernel_rfl) (by kernel_rfl) (l0 (by kernel_rfl)) (c0 (by kernel_rfl)) fun s K => by kernel_rfl
end
end Hw
end Go.Proofs.Ytloicplgckomdaa
