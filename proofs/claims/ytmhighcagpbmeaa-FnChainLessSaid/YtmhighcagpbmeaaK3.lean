/- Laws of chains, 2: made by gen.py. -/
import Derived.Test.YtmhighcagpbmeaaK1
import Derived.Test.YtmhighcagpbmeaaE15
set_option linter.unusedVariables false
set_option linter.unusedSimpArgs false
set_option maxRecDepth 100000
set_option maxHeartbeats 400000
namespace Go.Proofs.Ytmhighcagpbmeaa
namespace Hw
open Go
noncomputable section
attribute [local irreducible] evFn evBody wrap wxor
theorem okOfC {a b : Bool} (h : ¬(¬a = b ∨ ¬a = true)) : a = true := Classical.byContradiction fun g => h (.inr g)
theorem ok_knows {c : Ch} (h : ChOk c) {l : List Int} : ChOk ⟨c.id, c.bank, c.st, c.past, l⟩ ↔ KnOk l := ⟨fun g => g.2.2.2.2.2, fun g => ⟨h.1, h.2.1, h.2.2.1, h.2.2.2.1, h.2.2.2.2.1, g⟩⟩
theorem ZbN {c : Ch} (hl : c.lt) (h : ZY.S c = true) {l : List Int} (hk : l.length ≤ 1000000 + 1) : ZY.S ⟨c.id, c.bank, c.st, c.past, l⟩ = true ↔ KnOk l :=
  (implCh (c := ⟨c.id, c.bank, c.st, c.past, l⟩) (by show (l.length : Int) ≤ _; omega)).trans (ok_knows ((implChL hl).1 h))
theorem kn_cons {l : List Int} : ¬ KnOk ([0] ++ l) := fun h => by
  have : (1 : Int) ≤ 0 := (h 0 (by simp)).1.1
  omega
theorem drop0 {α : Type} (l : List α) : l.drop 0 = l := rfl
theorem getD_tk {α : Type} {l : List α} {n k : Nat} {d : α} (h : k < (l.take n).length) : (l.take n).getD k d = l.getD k d := by
  rw [List.length_take] at h
  simp only [List.getD_eq_getElem?_getD, List.getElem?_take, if_pos (show k < n by omega)]
theorem kn_take {l : List Int} (h : KnOk l) (n : Nat) : KnOk (l.take n) := fun k hk => by
  have hk' : k < l.length := by rw [List.length_take] at hk; omega
  rw [getD_tk hk]
  refine ⟨(h k hk').1, fun h0 => ?_⟩
  rw [getD_tk (by omega)]
  exact (h k hk').2 h0
theorem kn_one {l : List Int} (h : KnOk l) : KnOk ([] ++ l ++ [1]) ↔ (l.length : Int) = 0 := by
  rw [List.nil_append]
  constructor
  · intro g
    rcases Nat.eq_zero_or_pos l.length with h0 | h0
    · omega
    · have g1 := (g l.length (by simp)).2 h0
      rw [getD_at rfl, getD_lt (by omega)] at g1
      have := (h (l.length - 1) (by omega)).1.1
      omega
  · intro h0
    have : l = [] := List.eq_nil_of_length_eq_zero (by omega)
    subst this
    intro k hk
    have : k = 0 := by simp at hk; omega
    subst this
    exact ⟨⟨by decide, by decide⟩, fun h => absurd h (Nat.lt_irrefl 0)⟩
theorem ok_past {c : Ch} (h : ChOk c) (n : Nat) : ChOk ⟨c.id, c.bank, c.st, c.past.take n, c.knows⟩ := by
  refine ⟨h.1, h.2.1, h.2.2.1, ?_, fun k hk => ?_, h.2.2.2.2.2⟩
  · show (c.past.take n).length ≤ 90
    have := h.2.2.2.1
    rw [List.length_take]
    omega
  · have hk : k < (c.past.take n).length := hk
    show StOk ((c.past.take n).getD k zSt)
    rw [getD_tk hk]
    rw [List.length_take] at hk
    exact h.2.2.2.2.1 k (by omega)
theorem less_fin {c : Ch} {i j : Int} {z x : Bool} (hl : c.lt) (h : ¬(¬ZY.S c = ZV.S c ∨ ¬ZY.S c = true)) (e11 : z = true ↔ ZY.S ⟨c.id, c.bank, c.st, c.past, [] ++ c.knows ++ [1]⟩ = true)
    (e12 : x = true ↔ (ZY.S ⟨c.id, c.bank, c.st, c.past, (c.knows.take i.toNat).drop 0⟩ = true ∧ ZY.S ⟨c.id, c.bank, c.st, (c.past.take j.toNat).drop 0, c.knows⟩ = true) ∧ z = ((c.knows.length : Int) == 0)) : x = true := by
  have ho := okOfC h
  have hc := (implChL hl).1 ho
  have k := hl.2.2.2
  refine e12.2 ⟨⟨(ZbN hl ho (by rw [drop0, List.length_take]; omega)).2 (kn_take hc.2.2.2.2.2 _), ?_⟩, ?_⟩
  · exact (implCh (c := ⟨c.id, c.bank, c.st, (c.past.take j.toNat).drop 0, c.knows⟩) (by show (c.knows.length : Int) ≤ _; omega)).2 (ok_past hc _)
  · rw [Bool.eq_iff_iff, e11, ZbN hl ho (by simp; omega), kn_one hc.2.2.2.2.2, beq_iff_eq]

def ZbM.L : FL := fCons (fC (cArr true kU8s)) (fCons (fC (cArr true kU8s)) (fNil))
def ZbM : List Int × List Int × Unit → FR (Bool) := fun (a0, a1, ()) => ⟨(∀ k, 0 ≤ a0.getD k 0 ∧ a0.getD k 0 ≤ 255) ∧ True, fun X => Lt (bif decide ((a0.length : Int) > 1048576) then true else decide ((a1.length : Int) > 1048576)) fun x1 => And (Imp (x1 = true) (X true)) (Imp (x1 = false) (Call ZbJ.X (a0, ()) fun x2 => Lt (!(((ZY.S x2) : Bool) == (ZV.S x2))) fun x3 => And (Imp ((bif x3 then true else !(ZY.S x2)) = true) (Lt (((ZY.S x2) : Bool) == (ZV.S x2)) fun x4 => X x4)) (Imp ((bif x3 then true else !(ZY.S x2)) = false) (Lt (wrap ((x2.knows.length : Int) + 1)) fun x5 => And ((x5 : Int) ≠ 0) (Lt ((a1.length : Int).tmod x5) fun x6 => And ((0 : Int) ≤ x6 ∧ x6 ≤ (x2.knows.length : Int)) (Lt (wrap ((x2.past.length : Int) + 1)) fun x7 => And ((x7 : Int) ≠ 0) (Lt ((a1.length : Int).tmod x7) fun x8 => And ((0 : Int) ≤ x8 ∧ x8 ≤ (x2.past.length : Int)) (And (([] ++ x2.knows).length ≤ 4294967296) (And ((([] ++ x2.knows) ++ ([1])).length ≤ 4294967296) (Lt (ZY.S (⟨x2.id, x2.bank, x2.st, x2.past, (x2.knows.take (x6).toNat).drop 0⟩ : Ch)) fun x9 => Lt (ZY.S (⟨x2.id, x2.bank, x2.st, (x2.past.take (x8).toNat).drop 0, x2.knows⟩ : Ch)) fun x10 => Lt (ZY.S (⟨x2.id, x2.bank, x2.st, x2.past, (([] ++ x2.knows) ++ ([1]))⟩ : Ch)) fun x11 => Lt (bif bif x9 then x10 else false then (x11 : Bool) == ((x2.knows.length : Int) == 0) else false) fun x12 => X x12)))))))))), fun r => (r = true) ∧ True, fun r => (.v (.c (.bool r)), [])⟩
theorem ZbM.X : XF ZbM := mkF (false) fun (a0, a1, ()) hp => by
  obtain ⟨p0, -⟩ := hp
  dsimp only [ZbM]
  refine May.lp (B.or (B.dec) (B.dec)) fun x1 e1 => May.iff (e1) (fun h1 => ?_) (fun h1 => ?_)
  refine May.ret ⟨?_, trivial⟩; rotate_left 1
  refine May.call ⟨?_, trivial⟩ fun x2 q2 => have q2 := q2.1; May.lp (B.not (B.beq)) fun x3 e3 => May.iff (B.or (e3) (B.not (Iff.rfl))) (fun h2 => ?_) (fun h2 => ?_); rotate_left 1
  refine May.lp (B.beq) fun x4 e4 => May.ret ⟨?_, trivial⟩; rotate_left 1
  refine May.lw ⟨?_, ?_⟩ fun x5 e5 => May.chk ?_ fun c1 => May.lm ?_ fun x6 e6 => May.chk ?_ fun c2 => May.lw ⟨?_, ?_⟩ fun x7 e7 => May.chk ?_ fun c3 => May.lm ?_ fun x8 e8 => May.chk ?_ fun c4 => ?_; rotate_left 10
  refine May.chk ?_ fun c5 => May.chk ?_ fun c6 => May.lp (Iff.rfl) fun x9 e9 => May.lp (Iff.rfl) fun x10 e10 => May.lp (Iff.rfl) fun x11 e11 => May.lp (B.and (B.and (e9) (e10)) (B.beq)) fun x12 e12 => May.ret ⟨?_, trivial⟩
  all_goals try dsimp only
  all_goals first | with_reducible assumption | omega | (with_reducible rfl; done) | (exact e4.2 (chSame q2); done) | (have := q2.2.2.2; simp only [List.length_append, List.length_cons, List.length_nil]; omega; done) | (have := q2.2.2.2; omega; done) | (have := q2.2.2.1.1; omega; done) | (exact less_fin q2 h2 e11 e12; done)
abbrev ZbM.S := Classical.choose ZbM.X
def ZbM.c : Ctr := fc 4 [false, false] ZbM.L ZbM ZbM.S
theorem ZbM.good : Good Try.prog ZbM.c := mkFG (fn := Try.f4) {} ZbM.X (consG ZbJ.good (consG ZY.good (consG ZV.good noG))) (by kernel_rfl) (by kernel_rfl) (l0 (by kernel_rfl)) (c0 (by kernel_rfl)) fun s K => by kernel_rfl
end
end Hw
end Go.Proofs.Ytmhighcagpbmeaa
