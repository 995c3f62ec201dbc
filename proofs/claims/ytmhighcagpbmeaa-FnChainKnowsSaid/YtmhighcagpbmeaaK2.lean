/- Laws of chains: made by gen.py. -/
import Derived.Test.YtmhighcagpbmeaaK1
import Derived.Test.YtmhighcagpbmeaaE15
set_option linter.unusedVariables false
set_option linter.unusedSimpArgs false
set_option maxRecDepth 100000
set_option maxHeartbeats 400000
namespace Go.Proofs.Ytmhighcagpbmeaa
namespace Hw
open Go
noncomputable section
attribute [local irreducible] evFn evBody wrap wxor
theorem okOfC {a b : Bool} (h : ¬(¬a = b ∨ ¬a = true)) : a = true := Classical.byContradiction fun g => h (.inr g)
theorem ok_knows {c : Ch} (h : ChOk c) {l : List Int} : ChOk ⟨c.id, c.bank, c.st, c.past, l⟩ ↔ KnOk l := ⟨fun g => g.2.2.2.2.2, fun g => ⟨h.1, h.2.1, h.2.2.1, h.2.2.2.1, h.2.2.2.2.1, g⟩⟩
theorem ZbN {c : Ch} (hl : c.lt) (h : ZY.S c = true) {l : List Int} (hk : l.length ≤ 1000000 + 1) : ZY.S ⟨c.id, c.bank, c.st, c.past, l⟩ = true ↔ KnOk l :=
  (implCh (c := ⟨c.id, c.bank, c.st, c.past, l⟩) (by show (l.length : Int) ≤ _; omega)).trans (ok_knows ((implChL hl).1 h))
theorem kn_cons {l : List Int} : ¬ KnOk ([0] ++ l) := fun h => by
  have : (1 : Int) ≤ 0 := (h 0 (by simp)).1.1
  omega
theorem knows_fin {c : Ch} {x y z : Bool} (hl : c.lt) (h : ¬(¬ZY.S c = ZV.S c ∨ ¬ZY.S c = true)) (e4 : x = true ↔ ZY.S ⟨c.id, c.bank, c.st, c.past, []⟩ = true) (e5 : y = true ↔ ZY.S ⟨c.id, c.bank, c.st, c.past, [91]⟩ = true) (e6 : z = true ↔ ZY.S ⟨c.id, c.bank, c.st, c.past, [0] ++ c.knows⟩ = true) : (bif bif x then !y else false then !z else false) = true := by
  have ho := okOfC h
  have k := hl.2.2.2
  rw [B.and (B.and e4 (B.not e5)) (B.not e6)]
  refine ⟨⟨(ZbN hl ho (by decide)).2 fun k hk => absurd hk (Nat.not_lt_zero k), fun g => ?_⟩, fun g => kn_cons ((ZbN hl ho (by simp; omega)).1 g)⟩
  have : (91 : Int) ≤ 90 := ((ZbN hl ho (by decide)).1 g 0 (by decide)).1.2
  omega

def ZbL.L : FL := fCons (fC (cArr true kU8s)) (fNil)
def ZbL : List Int × Unit → FR (Bool) := fun (a0, ()) => ⟨(∀ k, 0 ≤ a0.getD k 0 ∧ a0.getD k 0 ≤ 255) ∧ True, fun X => And (Imp ((decide ((a0.length : Int) > 1048576)) = true) (X true)) (Imp ((decide ((a0.length : Int) > 1048576)) = false) (Call ZbJ.X (a0, ()) fun x1 => Lt (!(((ZY.S x1) : Bool) == (ZV.S x1))) fun x2 => And (Imp ((bif x2 then true else !(ZY.S x1)) = true) (Lt (((ZY.S x1) : Bool) == (ZV.S x1)) fun x3 => X x3)) (Imp ((bif x2 then true else !(ZY.S x1)) = false) (And ((([0]) ++ x1.knows).length ≤ 4294967296) (Lt (ZY.S (⟨x1.id, x1.bank, x1.st, x1.past, []⟩ : Ch)) fun x4 => Lt (ZY.S (⟨x1.id, x1.bank, x1.st, x1.past, [91]⟩ : Ch)) fun x5 => Lt (ZY.S (⟨x1.id, x1.bank, x1.st, x1.past, (([0]) ++ x1.knows)⟩ : Ch)) fun x6 => X (bif bif x4 then !x5 else false then !x6 else false)))))), fun r => (r = true) ∧ True, fun r => (.v (.c (.bool r)), [])⟩
theorem ZbL.X : XF ZbL := mkF (false) fun (a0, ()) hp => by
  obtain ⟨p0, -⟩ := hp
  dsimp only [ZbL]
  refine May.iff (B.dec) (fun h1 => ?_) (fun h1 => ?_)
  refine May.ret ⟨?_, trivial⟩; rotate_left 1
  refine May.call ⟨?_, trivial⟩ fun x1 q1 => have q1 := q1.1; May.lp (B.not (B.beq)) fun x2 e2 => May.iff (B.or (e2) (B.not (Iff.rfl))) (fun h2 => ?_) (fun h2 => ?_); rotate_left 1
  refine May.lp (B.beq) fun x3 e3 => May.ret ⟨?_, trivial⟩; rotate_left 1
  refine May.chk ?_ fun c1 => May.lp (Iff.rfl) fun x4 e4 => May.lp (Iff.rfl) fun x5 e5 => May.lp (Iff.rfl) fun x6 e6 => May.ret ⟨?_, trivial⟩
  all_goals try dsimp only
  all_goals first | with_reducible assumption | omega | (with_reducible rfl; done) | (exact e3.2 (chSame q1); done) | (have := q1.2.2.2; simp only [List.length_append, List.length_cons, List.length_nil]; omega; done) | (exact knows_fin q1 h2 e4 e5 e6; done)
abbrev ZbL.S := Classical.choose ZbL.X
def ZbL.c : Ctr := fc 3 [false] ZbL.L ZbL ZbL.S
theorem ZbL.good : Good Try.prog ZbL.c := mkFG (fn := Try.f3) {} ZbL.X (consG ZbJ.good (consG ZY.good (consG ZV.good noG))) (by kernel_rfl) (by kernel_rfl) (l0 (by kernel_rfl)) (c0 (by kernel_rfl)) fun s K => by kernel_rfl
end
end Hw
end Go.Proofs.Ytmhighcagpbmeaa
