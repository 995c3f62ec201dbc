/- Steps of links: made by gen.py. -/
import Derived.Test.YtloicplgckomdaaL1
set_option linter.unusedVariables false
set_option linter.unusedSimpArgs false
set_option maxRecDepth 100000
set_option maxHeartbeats 400000
namespace Go.Proofs.Ytloicplgckomdaa
namespace Hw
open Go
noncomputable section
attribute [local irreducible] evFn evBody wrap wxor
def lkSt (l : Lk) (s : St) : Lk := ⟨l.bank, l.id, s, l.marks, l.count, l.knows⟩
abbrev LstQ (l : Lk) (s : St) (k : Int) (r : Lk) (b : Bool) : Prop := (b = true ↔ MayW l.st s k) ∧ (b = true → r = lkSt l (after l.st k)) ∧ (¬ b = true → r = l)
theorem lstQ_t {l : Lk} {s x : St} {k : Int} {b : Bool} (q : DoQ l.st s k x b) (h : b = true) : LstQ l s k ⟨l.bank, l.id, x, l.marks, l.count, l.knows⟩ b := ⟨q.1, fun g => by rw [q.2.1 g]; rfl, fun g => absurd h g⟩
theorem lstQ_f {l : Lk} {s x : St} {k : Int} {b : Bool} (q : DoQ l.st s k x b) (h : ¬ b = true) : LstQ l s k l b := ⟨q.1, fun g => absurd g h, fun _ => rfl⟩
theorem rel_impl {c r : Ch} {l : Lk} {s : St} {k : Int} {b : Bool} (ho : ChOk c) (hs : StOk s) (q : LstQ (lkOf c) s k l b) (e : r = lkChain l) : RelQ c s k r b := by
  refine ⟨q.1.trans ⟨fun g => ⟨ho, g⟩, fun g => g.2⟩, fun g => ?_, fun g => ⟨fun _ => ?_, fun g' => absurd ⟨ho, hs⟩ g'⟩⟩
  · rw [e, q.2.1 g]
    show (⟨c.id, c.bank, after c.st k, c.past.reverse.reverse, c.knows⟩ : Ch) = _
    rw [List.reverse_reverse]
    rfl
  · rw [e, q.2.2 g, lkChain_of]
theorem rsOk' {c : Ch} {s : St} (hl : c.lt) (h : ¬(¬ZY.S c = true ∨ ¬StOk s)) : ChOk c ∧ StOk s := ⟨(implChL hl).1 (nn fun g => h (.inl g)), nn fun g => h (.inr g)⟩
theorem lst_cnt {l r : Lk} {s : St} {k : Int} {b : Bool} (q : LstQ l s k r b) : r.count = l.count ∧ r.marks = l.marks := by
  by_cases g : b = true
  · rw [q.2.1 g]; exact ⟨rfl, rfl⟩
  · rw [q.2.2 g]; exact ⟨rfl, rfl⟩

def Zb3.L : FL := fCons (fC (cPtr 1 cLkO rfl)) (fCons (fAgg (cCons cInt (cCons cInt (cCons cInt (cCons (cArr false kPkts) (cCons (cArr false kBools) (cCons (cArr false kBools) (cCons (cArr false kInts) (cCons cInt (cNil)))))))))) (fCons (fSh sInt) (fNil)))
def Zb3 : Lk × (Int × Int × Int × List Pkt × List Bool × List Bool × List Int × Int × Unit) × Int × Unit → FR (Bool × Lk) := fun (a0, (a1, a2, a3, a4, a5, a6, a7, a8, ()), a9, ()) => ⟨True, fun X => Call0 Zbe.X (a0.st, (⟨a1, a2, a3, a4, a5, a6, a7⟩ : St), a9, ()) fun x1 => And (Imp (x1.2 = true) (X (x1.2, (⟨a0.bank, a0.id, x1.1, a0.marks, a0.count, a0.knows⟩ : Lk)))) (Imp (x1.2 = false) (X (x1.2, a0))), fun r => (LstQ a0 (⟨a1, a2, a3, a4, a5, a6, a7⟩ : St) a9 r.2 r.1) ∧ True, fun r => (.v (.c (.bool r.1)), [.raw 1 [.own 8 1 3, .own 9 1 3, .int r.2.bank.locked, .int r.2.id, .int r.2.st.way, .int r.2.st.ver, .int r.2.st.want, .own 10 7 49, .own 11 1 4, .own 12 1 4, .own 13 1 3, .mk r.2.marks 0, .int r.2.count, .own 14 1 3], .dead, .dead, .dead, .dead, .dead, .dead, .dead, .arr (.ints r.2.bank.own), .arr (.ints r.2.bank.notes), .arr (.pkts r.2.st.sent), .arr (.bools r.2.st.live), .arr (.bools r.2.st.back), .arr (.ints r.2.st.got), .arr (.ints r.2.knows)])⟩
theorem Zb3.X : XF Zb3 := mkF (false, zLk) fun (a0, (a1, a2, a3, a4, a5, a6, a7, a8, ()), a9, ()) hp => by
  clear hp
  dsimp only [Zb3]
  refine May.call0 trivial fun x1 q1 => have q1 := q1.1; May.iff (Iff.rfl) (fun h1 => ?_) (fun h1 => ?_)
  refine May.ret ⟨?_, trivial⟩; rotate_left 1
  refine May.ret ⟨?_, trivial⟩
  all_goals try dsimp only
  all_goals first | with_reducible assumption | omega | (exact lstQ_t q1 h1; done) | (exact lstQ_f q1 h1; done)
abbrev Zb3.S := Classical.choose Zb3.X
def Zb3.c : Ctr := fc0 54 [false, false, false] Zb3.L Zb3 Zb3.S
theorem Zb3.good : Good Try.prog Zb3.c := mkFG0 (fn := Try.f54) {tk := [1000, 1, 2, 3, 4, 5, 6, 7]} Zb3.X (consG Zbe.good noG) (by kernel_rfl) (by kernel_rfl) (l0 (by kernel_rfl)) (c0 (by kernel_rfl)) (fun _ => trivial) fun s K => by kernel_rfl
def Zb4.L : FL := fCons (fSh sCh) (fCons (fSh sSt) (fCons (fSh sInt) (fNil)))
def Zb4 : Ch × St × Int × Unit → FR (Ch × Bool) := fun (a0, a1, a2, ()) => ⟨(a0.lt) ∧ True, fun X => Lt (bif !(ZY.S a0) then true else !(ZO.S a1)) fun x1 => And (Imp (x1 = true) (X ((⟨0, (⟨[], [], 0⟩ : Bk), (⟨0, 0, 0, [], [], [], []⟩ : St), [], []⟩ : Ch), false))) (Imp (x1 = false) (Call ZbB.X (a0, ()) fun x2 => Call0 Zb3.X (x2, (a1.way, a1.ver, a1.want, a1.sent, a1.live, a1.back, a1.got, 0, ()), a2, ()) fun x3 => Call ZbE.X (x3.2, ()) fun x4 => X (x4, x3.1))), fun r => (RelQ a0 a1 a2 r.1 r.2) ∧ True, fun r => (.tup [.agg [.int r.1.id, .arr true (.ints r.1.bank.own), .arr true (.ints r.1.bank.notes), .int r.1.bank.locked, .int r.1.st.way, .int r.1.st.ver, .int r.1.st.want, .arr true (.pkts r.1.st.sent), .arr true (.bools r.1.st.live), .arr true (.bools r.1.st.back), .arr true (.ints r.1.st.got), .arr true (.sts r.1.past), .arr true (.ints r.1.knows)], .c (.bool r.2)], [])⟩
theorem Zb4.X : XF Zb4 := mkF (zCh, false) fun (a0, a1, a2, ()) hp => by
  obtain ⟨p0, -⟩ := hp
  dsimp only [Zb4]
  refine May.lp (B.or (B.not (Iff.rfl)) (B.not (implSt))) fun x1 e1 => May.iff (e1) (fun h1 => ?_) (fun h1 => ?_)
  refine May.ret ⟨?_, trivial⟩; rotate_left 1
  refine May.call ⟨?_, ?_, trivial⟩ fun x2 q2 => have q2 := q2.1; May.call0 trivial fun x3 q3 => have q3 := q3.1; May.call ⟨?_, ?_, trivial⟩ fun x4 q4 => have q4 := q4.1; May.ret ⟨?_, trivial⟩
  all_goals try dsimp only
  all_goals first | with_reducible assumption | omega | (exact lt_sm p0; done) | (have := p0.2.2.1.1; omega; done) | (rw [(lst_cnt q3).1, (lst_cnt q3).2, q2]; exact of_cnt a0; done) | (rw [(lst_cnt q3).1, q2]; have := p0.2.2.1.1; show (a0.past.length : Int) ≤ _; omega; done) | (rw [q2] at q3; exact rel_impl (rsOk' p0 h1).1 (rsOk' p0 h1).2 q3 q4; done) | (exact relQ_f fun g => h1.elim (fun h => h ((implChL p0).2 g.1)) fun h => h g.2; done)
abbrev Zb4.S := Classical.choose Zb4.X
def Zb4.c : Ctr := fc 17 [true, true, false] Zb4.L Zb4 Zb4.S
theorem Zb4.good : Good Try.prog Zb4.c := mkFG (fn := Try.f17) {sh := [[none, some (.int, 3), some (.int, 3), none, none, none, none, some (.pkt, 49), some (.bool, 4), some (.bool, 4), some (.int, 3), some (.st, 29), some (.int, 3)], []], lst := true} Zb4.X (consG ZY.good (consG ZO.good (consG ZbB.good (consG Zb3.good (consG ZbE.good noG))))) (by kernel_rfl) (by kernel_rfl) (l0 (by kernel_rfl)) (c0 (by kernel_rfl)) fun s K => by kernel_rfl
end
end Hw
end Go.Proofs.Ytloicplgckomdaa
