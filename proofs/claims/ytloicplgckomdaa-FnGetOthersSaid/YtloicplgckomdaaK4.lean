/- A height ends: made by gen.py. -/
import Derived.Test.YtloicplgckomdaaK0
import Derived.Test.YtloicplgckomdaaK1
set_option linter.unusedVariables false
set_option linter.unusedSimpArgs false
set_option maxRecDepth 100000
set_option maxHeartbeats 400000
namespace Go.Proofs.Ytloicplgckomdaa
namespace Hw
open Go
noncomputable section
attribute [local irreducible] evFn evBody wrap wxor
theorem lk_blk (c : Ch) : lkChain (lkBlock (lkOf c)) = blkC c := by
  unfold lkBlock blkC
  show lkChain (if (c.past.length : Int) < 90 then lkRec (lkOf c) c.st else lkOf c) = _
  split
  · unfold lkChain lkRec lkOf
    simp
  · exact lkChain_of c
abbrev BlkQ (c r : Ch) : Prop := (ChOk c → r = blkC c) ∧ (¬ ChOk c → r = zCh)
theorem blk_cnt {l : Lk} (hl : l.count = (l.marks.length : Int)) : (lkBlock l).count = ((lkBlock l).marks.length : Int) := by
  unfold lkBlock
  split
  · show l.count + 1 = ((l.marks.length + 1 : Nat) : Int)
    omega
  · exact hl
theorem blk_le {l : Lk} (hl : l.count ≤ 1000000 - 1) : (lkBlock l).count ≤ 1000000 := by
  unfold lkBlock
  split
  · show l.count + 1 ≤ 1000000
    omega
  · omega
theorem of_cnt (c : Ch) : (lkOf c).count = ((lkOf c).marks.length : Int) := by
  show (c.past.length : Int) = (c.past.reverse.length : Int)
  rw [List.length_reverse]
abbrev AtQ (c : Ch) (h : Int) (r : St) (b : Bool) : Prop := (b = true ↔ ChOk c ∧ 1 ≤ h ∧ h ≤ (c.past.length : Int)) ∧ (b = true → r = c.past.getD (h - 1).toNat zSt) ∧ (¬ b = true → r = zSt)
theorem blkQ_t {c r : Ch} (h : ChOk c) (e : r = blkC c) : BlkQ c r := ⟨fun _ => e, fun g => absurd h g⟩
theorem blkQ_f {c : Ch} (h : ¬ ChOk c) : BlkQ c zCh := ⟨fun g => absurd g h, fun _ => rfl⟩
theorem atQ_f {c : Ch} {h : Int} (g : ¬ (ChOk c ∧ 1 ≤ h ∧ h ≤ (c.past.length : Int))) : AtQ c h zSt false := ⟨⟨fun g => (by cases g), fun g' => absurd g' g⟩, fun g => (by cases g), fun _ => rfl⟩
theorem atQ_t {c : Ch} {h : Int} {r : St} (g : ChOk c ∧ 1 ≤ h ∧ h ≤ (c.past.length : Int)) (e : r = c.past.getD (h - 1).toNat zSt) : AtQ c h r true := ⟨⟨fun _ => g, fun _ => rfl⟩, fun _ => e, fun g => absurd rfl g⟩
theorem past_sm {c : Ch} (h : c.lt) (k : Nat) : (c.past.getD k zSt).sm := st_sm (h.2.2.1.2 k)

theorem getD_app {α : Type} {l : List α} {a d : α} {k : Nat} : (l ++ [a]).getD k d = if k < l.length then l.getD k d else if k = l.length then a else d := by
  simp only [List.getD_eq_getElem?_getD, List.getElem?_append]
  split
  · rfl
  · split
    · rename_i h
      simp [h]
    · rename_i h1 h2
      rw [List.getElem?_eq_none (by simp; omega)]
      rfl
theorem zst_lt : zSt.lt := ⟨by decide, by decide, by decide, by decide⟩
theorem blk_lt {c : Ch} (h : c.lt) (hp : c.past.length < 1000000) : (blkC c).lt := by
  unfold blkC
  split
  · refine ⟨h.1, h.2.1, ⟨by show (c.past ++ [c.st]).length ≤ _; rw [List.length_append, List.length_singleton]; omega, fun k => ?_⟩, h.2.2.2⟩
    show ((c.past ++ [c.st]).getD k zSt).lt
    rw [getD_app]
    split
    · exact h.2.2.1.2 k
    · split
      · exact h.2.1
      · exact zst_lt
  · exact h
theorem zch_lt : zCh.lt := ⟨⟨by decide, by decide, by decide, by decide⟩, zst_lt, ⟨by decide, fun k => by rw [getD_ge (Nat.zero_le k)]; exact zst_lt⟩, by decide⟩
theorem blkQ_lt {c r : Ch} (q : BlkQ c r) (h : c.lt) : r.lt := by
  by_cases g : ChOk c
  · rw [q.1 g]
    exact blk_lt h (by have := g.2.2.2.1; omega)
  · rw [q.2 g]
    exact zch_lt
theorem blk_ok {c : Ch} (h : ChOk c) : ChOk (blkC c) := by
  obtain ⟨h1, h2, h3, h4, h5, h6⟩ := id h
  unfold blkC
  split
  · refine ⟨h1, h2, h3, by show (c.past ++ [c.st]).length ≤ 90; rw [List.length_append, List.length_singleton]; omega, fun k hk => ?_, h6⟩
    show StOk ((c.past ++ [c.st]).getD k zSt)
    have hk : k < (c.past ++ [c.st]).length := hk
    rw [List.length_append, List.length_singleton] at hk
    rw [getD_app]
    split
    · exact h5 k (by assumption)
    · rw [if_pos (by omega)]
      exact h3
  · exact h
theorem blk_same {c x y : Ch} (q1 : BlkQ c x) (q2 : BlkQ c y) : x = y := by
  by_cases g : ChOk c
  · rw [q1.1 g, q2.1 g]
  · rw [q1.2 g, q2.2 g]

def ZbO.L : FL := fCons (fSh sCh) (fNil)
def ZbO : Ch × Unit → FR (Ch) := fun (a0, ()) => ⟨(a0.lt) ∧ True, fun X => And (Imp ((!(ZY.S a0)) = true) (X (⟨0, (⟨[], [], 0⟩ : Bk), (⟨0, 0, 0, [], [], [], []⟩ : St), [], []⟩ : Ch))) (Imp ((!(ZY.S a0)) = false) (Call ZbB.X (a0, ()) fun x1 => Call ZbD.X (x1, ()) fun x2 => Call ZbE.X (x2, ()) fun x3 => X x3)), fun r => (BlkQ a0 r) ∧ True, fun r => (.v (.agg [.int r.id, .arr true (.ints r.bank.own), .arr true (.ints r.bank.notes), .int r.bank.locked, .int r.st.way, .int r.st.ver, .int r.st.want, .arr true (.pkts r.st.sent), .arr true (.bools r.st.live), .arr true (.bools r.st.back), .arr true (.ints r.st.got), .arr true (.sts r.past), .arr true (.ints r.knows)]), [])⟩
theorem ZbO.X : XF ZbO := mkF (zCh) fun (a0, ()) hp => by
  obtain ⟨p0, -⟩ := hp
  dsimp only [ZbO]
  refine May.iff (B.not (Iff.rfl)) (fun h1 => ?_) (fun h1 => ?_)
  refine May.ret ⟨?_, trivial⟩; rotate_left 1
  refine May.call ⟨?_, ?_, trivial⟩ fun x1 q1 => have q1 := q1.1; May.call ⟨?_, ?_, ?_, trivial⟩ fun x2 q2 => have q2 := q2.1; May.call ⟨?_, ?_, trivial⟩ fun x3 q3 => have q3 := q3.1; May.ret ⟨?_, trivial⟩
  all_goals try dsimp only
  all_goals first | with_reducible assumption | omega | (exact lt_sm p0; done) | (have := p0.2.2.1.1; omega; done) | (rw [q1]; exact st_sm p0.2.1; done) | (rw [q1]; show (0 : Int) ≤ (a0.past.length : Int); omega; done) | (rw [q1]; have := p0.2.2.1.1; show (a0.past.length : Int) ≤ _; omega; done) | (rw [q2]; exact blk_cnt (by rw [q1]; exact of_cnt a0); done) | (rw [q2]; refine blk_le ?_; rw [q1]; have := ((implChL p0).1 (nn h1)).2.2.2.1; show (a0.past.length : Int) ≤ _; omega; done) | (exact blkQ_t ((implChL p0).1 (nn h1)) (by rw [q3, q2, q1]; exact lk_blk a0); done) | (exact blkQ_f fun g => h1 ((implChL p0).2 g); done)
abbrev ZbO.S := Classical.choose ZbO.X
def ZbO.c : Ctr := fc 42 [true] ZbO.L ZbO ZbO.S
theorem ZbO.good : Good Try.prog ZbO.c := mkFG (fn := Try.f42) {sh := [[none, some (.int, 3), some (.int, 3), none, none, none, none, some (.pkt, 49), some (.bool, 4), some (.bool, 4), some (.int, 3), some (.st, 29), some (.int, 3)]], lst := true} ZbO.X (consG ZY.good (consG ZbB.good (consG ZbD.good (consG ZbE.good noG)))) (by kernel_rfl) (by kernel_rfl) (l0 (by kernel_rfl)) (c0 (by kernel_rfl)) fun s K => by kernel_rfl
end
end Hw
end Go.Proofs.Ytloicplgckomdaa
