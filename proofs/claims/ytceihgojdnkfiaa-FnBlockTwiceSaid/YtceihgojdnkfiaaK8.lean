/- Laws of heights, 2: made by gen.py. -/
import Derived.Test.YtceihgojdnkfiaaK5
import Derived.Test.YtceihgojdnkfiaaK6
import Derived.Test.YtceihgojdnkfiaaE17
set_option linter.unusedVariables false
set_option linter.unusedSimpArgs false
set_option maxRecDepth 100000
set_option maxHeartbeats 400000
namespace Go.Proofs.Ytceihgojdnkfiaa
namespace Hw
open Go
noncomputable section
attribute [local irreducible] evFn evBody wrap wxor
theorem getD_app {α : Type} {l : List α} {a d : α} {k : Nat} : (l ++ [a]).getD k d = if k < l.length then l.getD k d else if k = l.length then a else d := by
  simp only [List.getD_eq_getElem?_getD, List.getElem?_append]
  split
  · rfl
  · split
    · rename_i h
      simp [h]
    · rename_i h1 h2
      rw [List.getElem?_eq_none (by simp; omega)]
      rfl
theorem zst_lt : zSt.lt := ⟨by decide, by decide, by decide, by decide⟩
theorem blk_lt {c : Ch} (h : c.lt) (hp : c.past.length < 1000000) : (blkC c).lt := by
  unfold blkC
  split
  · refine ⟨h.1, h.2.1, ⟨by show (c.past ++ [c.st]).length ≤ _; rw [List.length_append, List.length_singleton]; omega, fun k => ?_⟩, h.2.2.2⟩
    show ((c.past ++ [c.st]).getD k zSt).lt
    rw [getD_app]
    split
    · exact h.2.2.1.2 k
    · split
      · exact h.2.1
      · exact zst_lt
  · exact h
theorem zch_lt : zCh.lt := ⟨⟨by decide, by decide, by decide, by decide⟩, zst_lt, ⟨by decide, fun k => by rw [getD_ge (Nat.zero_le k)]; exact zst_lt⟩, by decide⟩
theorem blkQ_lt {c r : Ch} (q : BlkQ c r) (h : c.lt) : r.lt := by
  by_cases g : ChOk c
  · rw [q.1 g]
    exact blk_lt h (by have := g.2.2.2.1; omega)
  · rw [q.2 g]
    exact zch_lt
theorem blk_ok {c : Ch} (h : ChOk c) : ChOk (blkC c) := by
  obtain ⟨h1, h2, h3, h4, h5, h6⟩ := id h
  unfold blkC
  split
  · refine ⟨h1, h2, h3, by show (c.past ++ [c.st]).length ≤ 90; rw [List.length_append, List.length_singleton]; omega, fun k hk => ?_, h6⟩
    show StOk ((c.past ++ [c.st]).getD k zSt)
    have hk : k < (c.past ++ [c.st]).length := hk
    rw [List.length_append, List.length_singleton] at hk
    rw [getD_app]
    split
    · exact h5 k (by assumption)
    · rw [if_pos (by omega)]
      exact h3
  · exact h
theorem blk_same {c x y : Ch} (q1 : BlkQ c x) (q2 : BlkQ c y) : x = y := by
  by_cases g : ChOk c
  · rw [q1.1 g, q2.1 g]
  · rw [q1.2 g, q2.2 g]
theorem at_lt {c : Ch} {h : Int} {r : St} {b : Bool} (q : AtQ c h r b) (hl : c.lt) : r.lt := by
  by_cases g : b = true
  · rw [q.2.1 g]
    exact hl.2.2.1.2 _
  · rw [q.2.2 g]
    exact zst_lt
theorem bOk {c : Ch} {x : Bool} (hl : c.lt) (h : ¬(¬x = true ∨ ¬ZV.S c = true)) : ChOk c := (specChL hl).1 (nn fun g => h (.inr g))
theorem blk_cut {c : Ch} (h : ¬ (c.past.length : Int) = 90) (ho : ChOk c) : (⟨(blkC c).id, (blkC c).bank, (blkC c).st, List.drop 0 (List.take (c.past.length : Int).toNat (blkC c).past), (blkC c).knows⟩ : Ch) = c := by
  have h4 := ho.2.2.2.1
  unfold blkC
  rw [if_pos (by omega)]
  cases c
  simp
theorem cut_lt {c : Ch} {n : Nat} (h : c.lt) : (⟨c.id, c.bank, c.st, List.drop 0 (List.take n c.past), c.knows⟩ : Ch).lt := by
  refine ⟨h.1, h.2.1, ⟨?_, fun k => ?_⟩, h.2.2.2⟩
  · show (List.drop 0 (List.take n c.past)).length ≤ _
    have := h.2.2.1.1
    rw [List.drop_zero, List.length_take]
    omega
  · show ((List.drop 0 (List.take n c.past)).getD k zSt).lt
    rw [List.drop_zero, List.getD_eq_getElem?_getD, List.getElem?_take]
    split
    · rw [← List.getD_eq_getElem?_getD]
      exact h.2.2.1.2 k
    · exact zst_lt
theorem at_blk {c r : Ch} {s : St} {b : Bool} {n : Int} (ho : ChOk c) (hn : ¬ (c.past.length : Int) = 90) (e : n = (c.past.length : Int) + 1) (q : AtQ (blkC c) n s b) : b = true ∧ s = c.st := by
  have h4 := ho.2.2.2.1
  have hb : (blkC c).past = c.past ++ [c.st] := by
    unfold blkC
    rw [if_pos (by omega)]
  have : b = true := q.1.2 ⟨blk_ok ho, by omega, by rw [hb, List.length_append, List.length_singleton]; omega⟩
  refine ⟨this, ?_⟩
  rw [q.2.1 this, hb, show (n - 1).toNat = c.past.length by omega, getD_app, if_neg (by omega), if_pos rfl]
theorem block_fin {c x : Ch} {s : St} {n : Int} {b d e f : Bool} (hl : c.lt) (q2 : BlkQ c x) (ho : ChOk c) (h3 : ¬ (c.past.length : Int) = 90) (e6 : n = (c.past.length : Int) + 1) (q7 : AtQ x n s b) (q8 : d = true ↔ s = c.st) (q9 : e = true ↔ (⟨x.id, x.bank, x.st, List.drop 0 (List.take (c.past.length : Int).toNat x.past), x.knows⟩ : Ch) = c) (e10 : f = true ↔ ((b = true ∧ d = true) ∧ e = true) ∧ ZY.S x = true) : f = true := by
  have hx := blkQ_lt q2 hl
  have hq := q2.1 ho
  subst hq
  obtain ⟨a1, a2⟩ := at_blk (r := c) ho h3 e6 q7
  exact e10.2 ⟨⟨⟨a1, q8.2 a2⟩, q9.2 (blk_cut h3 ho)⟩, (implChL hx).2 (blk_ok ho)⟩
theorem block_full {c x : Ch} {d : Bool} (q2 : BlkQ c x) (ho : ChOk c) (h3 : (c.past.length : Int) = 90) (q5 : d = true ↔ x = c) : d = true := by
  rw [q5, q2.1 ho]
  unfold blkC
  rw [if_neg (by omega)]
theorem block_le {c x : Ch} (q2 : BlkQ c x) (ho : ChOk c) : 0 ≤ (c.past.length : Int) ∧ (c.past.length : Int) ≤ (x.past.length : Int) := by
  rw [q2.1 ho]
  unfold blkC
  split
  · show _ ∧ _ ≤ (((c.past ++ [c.st]).length : Nat) : Int)
    rw [List.length_append]
    omega
  · omega
theorem blk_at {c : Ch} (h : (c.past.length : Int) < 90) : blkC c = ⟨c.id, c.bank, c.st, c.past ++ [c.st], c.knows⟩ := if_pos h
theorem twice_fin {c x y : Ch} {s t : St} {n m : Int} {b d e f g : Bool} (hl : c.lt) (q2 : BlkQ c x) (ho : ChOk c) (h3 : ¬ (c.past.length : Int) > 88) (q6 : BlkQ x y) (e7 : n = (c.past.length : Int) + 1) (q8 : AtQ y n s b) (e9 : m = (c.past.length : Int) + 2) (q10 : AtQ y m t d) (q11 : e = true ↔ s = t) (e12 : f = true ↔ (b = true ∧ d = true) ∧ e = true) (q13 : g = true ↔ s = c.st) : (bif f then g else false) = true := by
  have hq := q2.1 ho
  subst hq
  have hq := q6.1 (blk_ok ho)
  subst hq
  have hp : (blkC c).past = c.past ++ [c.st] := by rw [blk_at (by omega)]
  have hs : (blkC c).st = c.st := by rw [blk_at (by omega)]
  have hn : (blkC c).past.length = c.past.length + 1 := by rw [hp, List.length_append, List.length_singleton]
  obtain ⟨a1, a2⟩ := at_blk (r := c) (blk_ok ho) (by omega) (by omega) q10
  have hp2 : (blkC (blkC c)).past = (c.past ++ [c.st]) ++ [c.st] := by rw [blk_at (by omega), hp, hs]
  have hb : b = true := q8.1.2 ⟨blk_ok (blk_ok ho), by omega, by rw [hp2, List.length_append, List.length_append, List.length_singleton]; omega⟩
  have hs2 : s = c.st := by rw [q8.2.1 hb, hp2, show (n - 1).toNat = c.past.length by omega, getD_app, if_pos (by simp), getD_app, if_neg (by omega), if_pos rfl]
  rw [B.and e12 q13]
  exact ⟨⟨⟨hb, a1⟩, q11.2 (by rw [a2, hs2, hs])⟩, hs2⟩

def ZbX.L : FL := fCons (fC (cArr true kU8s)) (fNil)
def ZbX : List Int × Unit → FR (Bool) := fun (a0, ()) => ⟨(∀ k, 0 ≤ a0.getD k 0 ∧ a0.getD k 0 ≤ 255) ∧ True, fun X => And (Imp ((decide ((a0.length : Int) > 1048576)) = true) (X true)) (Imp ((decide ((a0.length : Int) > 1048576)) = false) (Call ZbV.X (a0, ()) fun x1 => Call ZbO.X (x1, ()) fun x2 => Call ZbP.X (x1, ()) fun x3 => Call ZbT.X (x2, x3, ()) fun x4 => Lt (bif bif !x4 then true else !(ZV.S x1) then true else decide ((x1.past.length : Int) > 88)) fun x5 => And (Imp (x5 = true) (And ((ZbP (x1, ())).P) (And ((ZbT (x2, x3, ())).P) (X x4)))) (Imp (x5 = false) (Call ZbO.X (x2, ()) fun x6 => Lt (wrap ((x1.past.length : Int) + 1)) fun x7 => Call ZbQ.X (x6, x7, ()) fun x8 => Lt (wrap ((x1.past.length : Int) + 2)) fun x9 => Call ZbQ.X (x6, x9, ()) fun x10 => And (Imp (And ((bif x8.2 then x10.2 else false) = true) (True)) ((Zbq (x8.1, x10.1, ())).P)) (Lt ((Zbq.S (x8.1, x10.1, ()))) fun x11 => Lt (bif bif x8.2 then x10.2 else false then x11 else false) fun x12 => And (Imp (And (x12 = true) (True)) ((Zbq (x8.1, x1.st, ())).P)) (Lt ((Zbq.S (x8.1, x1.st, ()))) fun x13 => X (bif x12 then x13 else false))))))), fun r => (r = true) ∧ True, fun r => (.v (.c (.bool r)), [])⟩
theorem ZbX.X : XF ZbX := mkF (false) fun (a0, ()) hp => by
  obtain ⟨p0, -⟩ := hp
  dsimp only [ZbX]
  refine May.iff (B.dec) (fun h1 => ?_) (fun h1 => ?_)
  refine May.ret ⟨?_, trivial⟩; rotate_left 1
  refine May.call ⟨?_, trivial⟩ fun x1 q1 => have q1 := q1.1; May.call ⟨?_, trivial⟩ fun x2 q2 => have q2 := q2.1; May.call ⟨?_, trivial⟩ fun x3 q3 => have q3 := q3.1; May.call ⟨?_, trivial⟩ fun x4 q4 => have q4 := q4.1; May.lp (B.or (B.or (B.not (Iff.rfl)) (B.not (Iff.rfl))) (B.dec)) fun x5 e5 => May.iff (e5) (fun h2 => ?_) (fun h2 => ?_); rotate_left 4
  refine May.chk ⟨?_, trivial⟩ fun c1 => May.chk ⟨?_, trivial⟩ fun c2 => May.ret ⟨?_, trivial⟩; rotate_left 3
  refine May.call ⟨?_, trivial⟩ fun x6 q6 => have q6 := q6.1; May.lw ⟨?_, ?_⟩ fun x7 e7 => May.call ⟨?_, trivial⟩ fun x8 q8 => have q8 := q8.1; May.lw ⟨?_, ?_⟩ fun x9 e9 => May.call ⟨?_, trivial⟩ fun x10 q10 => have q10 := q10.1; May.chk (fun hπ => have g1 := Iff.mp (B.and (Iff.rfl) (Iff.rfl)) hπ.1; ⟨?_, trivial⟩) fun c3 => May.clq ⟨?_, trivial⟩ fun x11 q11 => have q11 := q11.1; May.lp (B.and (B.and (Iff.rfl) (Iff.rfl)) (Iff.rfl)) fun x12 e12 => ?_; rotate_left 9
  refine May.chk (fun hπ => have g1 := Iff.mp (e12) hπ.1; ⟨?_, trivial⟩) fun c4 => May.clq ⟨?_, trivial⟩ fun x13 q13 => have q13 := q13.1; May.ret ⟨?_, trivial⟩
  all_goals try dsimp only
  all_goals first | with_reducible assumption | omega | (with_reducible rfl; done) | (exact blkQ_lt q2 q1; done) | (exact q4.2 (blk_same q2 q3); done) | (exact blkQ_lt q6 (blkQ_lt q2 q1); done) | (exact at_lt q8 (blkQ_lt q6 (blkQ_lt q2 q1)); done) | (exact twice_fin q1 q2 (bOk q1 fun g => h2 (.inl g)) (fun g => h2 (.inr g)) q6 e7 q8 e9 q10 q11 e12 q13; done)
abbrev ZbX.S := Classical.choose ZbX.X
def ZbX.c : Ctr := fc 5 [false] ZbX.L ZbX ZbX.S
theorem ZbX.good : Good Try.prog ZbX.c := mkFG (fn := Try.f5) {} ZbX.X (consG ZbV.good (consG ZbO.good (consG ZbP.good (consG ZbT.good (consG ZV.good (consG ZbQ.good (consG Zbq.good noG))))))) (by kernel_rfl) (by kernel_rfl) (l0 (by kernel_rfl)) (c0 (by kernel_rfl)) fun s K => by kernel_rfl
end
end Hw
end Go.Proofs.Ytceihgojdnkfiaa
