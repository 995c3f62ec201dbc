/- Coins are sent: made by gen.py. -/
import Derived.Test.YtceihgojdnkfiaaM1
import Derived.Test.YtceihgojdnkfiaaK4
set_option linter.unusedVariables false
set_option linter.unusedSimpArgs false
set_option maxRecDepth 100000
set_option maxHeartbeats 400000
namespace Go.Proofs.Ytceihgojdnkfiaa
namespace Hw
open Go
noncomputable section
attribute [local irreducible] evFn evBody wrap wxor
def pkL (l : Lk) (k f t s u : Int) : Pkt := ⟨(l.st.sent.length : Int) + 1, k, f, t, s, u, l.st.ver⟩
def sndL (l : Lk) (k f t s u : Int) : Lk := ⟨awayB l.bank k f s, l.id, ⟨l.st.way, l.st.ver, l.st.want, l.st.sent ++ [pkL l k f t s u], l.st.live ++ [true], l.st.back ++ [false], l.st.got⟩, l.marks, l.count, l.knows⟩
abbrev LsQ (l : Lk) (k f t s u n : Int) (b : Bool) (r : Lk) : Prop := (b = true ↔ l.st.way = 3 ∧ PktOk (pkL l k f t s u) ∧ MayAway l.bank k f s) ∧ (b = true → r = sndL l k f t s u ∧ n = (l.st.sent.length : Int) + 1) ∧ (¬ b = true → r = l ∧ n = 0)
def sndC (c : Ch) (k f t s u : Int) : Ch := ⟨c.id, awayB c.bank k f s, sndS c k f t s u, c.past, c.knows⟩
abbrev CsQ (c : Ch) (k f t s u : Int) (r : Ch) (n : Int) (b : Bool) : Prop := (b = true ↔ ChOk c ∧ c.st.way = 3 ∧ PktOk (pkS c k f t s u) ∧ MayAway c.bank k f s) ∧ (b = true → r = sndC c k f t s u ∧ n = (c.st.sent.length : Int) + 1) ∧ (¬ b = true → n = 0 ∧ (ChOk c → r = c) ∧ (¬ ChOk c → r = zCh))
theorem ls_f1 {l : Lk} {x k f t s u : Int} (h : ¬l.st.way = 3 ∨ ¬PktOk ⟨x, k, f, t, s, u, l.st.ver⟩) (e : x = (l.st.sent.length : Int) + 1) : LsQ l k f t s u 0 false l := by
  subst e
  exact ⟨⟨fun g => (by cases g), fun g => h.elim (fun h => absurd g.1 h) fun h => absurd g.2.1 h⟩, fun g => (by cases g), fun _ => ⟨rfl, rfl⟩⟩
theorem ls_f2 {l : Lk} {b : Bk} {k f t s u : Int} {o : Bool} (q : AwayQ l.bank k f s b o) (h : ¬ o = true) : LsQ l k f t s u 0 false l :=
  ⟨⟨fun g => (by cases g), fun g => absurd (q.1.2 g.2.2) h⟩, fun g => (by cases g), fun _ => ⟨rfl, rfl⟩⟩
theorem ls_t {l : Lk} {b : Bk} {x k f t s u : Int} {o : Bool} (q : AwayQ l.bank k f s b o) (h : ¬¬ o = true) (hp : ¬(¬l.st.way = 3 ∨ ¬PktOk ⟨x, k, f, t, s, u, l.st.ver⟩)) (e : x = (l.st.sent.length : Int) + 1) : LsQ l k f t s u x true ⟨b, l.id, ⟨l.st.way, l.st.ver, l.st.want, l.st.sent ++ [⟨x, k, f, t, s, u, l.st.ver⟩], l.st.live ++ [true], l.st.back ++ [false], l.st.got⟩, l.marks, l.count, l.knows⟩ := by
  subst e
  have h := Classical.byContradiction h
  have e := q.2.1 h
  subst e
  exact ⟨⟨fun _ => ⟨Classical.byContradiction fun g => hp (.inl g), Classical.byContradiction fun g => hp (.inr g), q.1.1 h⟩, fun _ => rfl⟩, fun _ => ⟨rfl, rfl⟩, fun g => absurd rfl g⟩
theorem ls_cnt {l r : Lk} {k f t s u n : Int} {b : Bool} (q : LsQ l k f t s u n b r) : r.count = l.count ∧ r.marks = l.marks := by
  by_cases g : b = true
  · rw [(q.2.1 g).1]; exact ⟨rfl, rfl⟩
  · rw [(q.2.2 g).1]; exact ⟨rfl, rfl⟩
theorem cs_f {c : Ch} {k f t s u : Int} (h : ¬ ChOk c) : CsQ c k f t s u zCh 0 false := ⟨⟨fun g => (by cases g), fun g => absurd g.1 h⟩, fun g => (by cases g), fun _ => ⟨rfl, fun g => absurd g h, fun _ => rfl⟩⟩
theorem cs_of {c r : Ch} {l : Lk} {k f t s u n : Int} {b : Bool} (ho : ChOk c) (q : LsQ (lkOf c) k f t s u n b l) (e : r = lkChain l) : CsQ c k f t s u r n b := by
  refine ⟨q.1.trans ⟨fun g => ⟨ho, g⟩, fun g => g.2⟩, fun g => ?_, fun g => ⟨(q.2.2 g).2, fun _ => ?_, fun g' => absurd ho g'⟩⟩
  · refine ⟨?_, (q.2.1 g).2⟩
    rw [e, (q.2.1 g).1]
    show (⟨c.id, awayB c.bank k f s, sndS c k f t s u, c.past.reverse.reverse, c.knows⟩ : Ch) = _
    rw [List.reverse_reverse]
    rfl
  · rw [e, (q.2.2 g).1, lkChain_of]

def Zci.L : FL := fCons (fC (cPtr 1 cLkO rfl)) (fCons (fSh sInt) (fCons (fSh sInt) (fCons (fSh sInt) (fCons (fSh sInt) (fCons (fSh sInt) (fNil))))))
def Zci : Lk × Int × Int × Int × Int × Int × Unit → FR (Int × Bool × Lk) := fun (a0, a1, a2, a3, a4, a5, ()) => ⟨(a0.st.sent.length ≤ 1000000) ∧ (a0.st.live.length ≤ 1000000) ∧ (a0.st.back.length ≤ 1000000) ∧ True, fun X => Lt (wrap ((a0.st.sent.length : Int) + 1)) fun x1 => Lt (Zz.S (⟨x1, a1, a2, a3, a4, a5, a0.st.ver⟩ : Pkt)) fun x2 => And (Imp ((bif a0.st.way != 3 then true else !x2) = true) (X (0, false, a0))) (Imp ((bif a0.st.way != 3 then true else !x2) = false) (Call0 Zcg.X (a0.bank, a1, a2, a4, ()) fun x3 => And (Imp ((!x3.2) = true) (X (0, false, a0))) (Imp ((!x3.2) = false) (And ((a0.st.sent ++ ([(⟨x1, a1, a2, a3, a4, a5, a0.st.ver⟩ : Pkt)])).length ≤ 4294967296) (And ((a0.st.live ++ ([true])).length ≤ 4294967296) (And ((a0.st.back ++ ([false])).length ≤ 4294967296) (X (x1, true, (⟨x3.1, a0.id, (⟨a0.st.way, a0.st.ver, a0.st.want, (a0.st.sent ++ ([(⟨x1, a1, a2, a3, a4, a5, a0.st.ver⟩ : Pkt)])), (a0.st.live ++ ([true])), (a0.st.back ++ ([false])), a0.st.got⟩ : St), a0.marks, a0.count, a0.knows⟩ : Lk))))))))), fun r => (LsQ a0 a1 a2 a3 a4 a5 r.1 r.2.1 r.2.2) ∧ True, fun r => (.tup [.c (.int r.1), .c (.bool r.2.1)], [.raw 1 [.own 8 1 3, .own 9 1 3, .int r.2.2.bank.locked, .int r.2.2.id, .int r.2.2.st.way, .int r.2.2.st.ver, .int r.2.2.st.want, .own 10 7 68, .own 11 1 4, .own 12 1 4, .own 13 1 3, .mk r.2.2.marks 0, .int r.2.2.count, .own 14 1 3], .dead, .dead, .dead, .dead, .dead, .dead, .dead, .arr (.ints r.2.2.bank.own), .arr (.ints r.2.2.bank.notes), .arr (.pkts r.2.2.st.sent), .arr (.bools r.2.2.st.live), .arr (.bools r.2.2.st.back), .arr (.ints r.2.2.st.got), .arr (.ints r.2.2.knows)])⟩
theorem Zci.X : XF Zci := mkF (0, false, zLk) fun (a0, a1, a2, a3, a4, a5, ()) hp => by
  obtain ⟨p0, p1, p2, -⟩ := hp
  dsimp only [Zci]
  refine May.lw ⟨?_, ?_⟩ fun x1 e1 => May.lp (implPkt) fun x2 e2 => May.iff (B.or (B.ne) (B.not (e2))) (fun h1 => ?_) (fun h1 => ?_); rotate_left 2
  refine May.ret ⟨?_, trivial⟩; rotate_left 1
  refine May.call0 trivial fun x3 q3 => have q3 := q3.1; May.iff (B.not (Iff.rfl)) (fun h2 => ?_) (fun h2 => ?_)
  refine May.ret ⟨?_, trivial⟩; rotate_left 1
  refine May.chk ?_ fun c1 => May.chk ?_ fun c2 => May.chk ?_ fun c3 => May.ret ⟨?_, trivial⟩
  all_goals try dsimp only
  all_goals first | with_reducible assumption | omega | (rw [List.length_append, List.length_singleton]; omega; done) | (exact ls_t q3 h2 h1 e1; done) | (exact ls_f1 h1 e1; done) | (exact ls_f2 q3 h2; done)
abbrev Zci.S := Classical.choose Zci.X
def Zci.c : Ctr := fc 84 [false, false, false, false, false, false] Zci.L Zci Zci.S
theorem Zci.good : Good Try.prog Zci.c := mkFG (fn := Try.f84) {tk := [1000, 1, 2, 3, 4, 5, 6, 7]} Zci.X (consG Zz.good (consG Zcg.good noG)) (by kernel_rfl) (by kernel_rfl) (l0 (by kernel_rfl)) (c0 (by kernel_rfl)) fun s K => by kernel_rfl
def Zcj.L : FL := fCons (fSh sCh) (fCons (fSh sInt) (fCons (fSh sInt) (fCons (fSh sInt) (fCons (fSh sInt) (fCons (fSh sInt) (fNil))))))
def Zcj : Ch × Int × Int × Int × Int × Int × Unit → FR (Ch × Int × Bool) := fun (a0, a1, a2, a3, a4, a5, ()) => ⟨(a0.lt) ∧ True, fun X => And (Imp ((!(ZY.S a0)) = true) (X ((⟨0, (⟨[], [], 0⟩ : Bk), (⟨0, 0, 0, [], [], [], []⟩ : St), [], []⟩ : Ch), 0, false))) (Imp ((!(ZY.S a0)) = false) (Call ZbB.X (a0, ()) fun x1 => Call Zci.X (x1, a1, a2, a3, a4, a5, ()) fun x2 => Call ZbE.X (x2.2.2, ()) fun x3 => X (x3, x2.1, x2.2.1))), fun r => (CsQ a0 a1 a2 a3 a4 a5 r.1 r.2.1 r.2.2) ∧ True, fun r => (.tup [.agg [.int r.1.id, .arr true (.ints r.1.bank.own), .arr true (.ints r.1.bank.notes), .int r.1.bank.locked, .int r.1.st.way, .int r.1.st.ver, .int r.1.st.want, .arr true (.pkts r.1.st.sent), .arr true (.bools r.1.st.live), .arr true (.bools r.1.st.back), .arr true (.ints r.1.st.got), .arr true (.sts r.1.past), .arr true (.ints r.1.knows)], .c (.int r.2.1), .c (.bool r.2.2)], [])⟩
theorem Zcj.X : XF Zcj := mkF (zCh, 0, false) fun (a0, a1, a2, a3, a4, a5, ()) hp => by
  obtain ⟨p0, -⟩ := hp
  dsimp only [Zcj]
  refine May.iff (B.not (Iff.rfl)) (fun h1 => ?_) (fun h1 => ?_)
  refine May.ret ⟨?_, trivial⟩; rotate_left 1
  refine May.call ⟨?_, ?_, trivial⟩ fun x1 q1 => have q1 := q1.1; May.call ⟨?_, ?_, ?_, trivial⟩ fun x2 q2 => have q2 := q2.1; May.call ⟨?_, ?_, trivial⟩ fun x3 q3 => have q3 := q3.1; May.ret ⟨?_, trivial⟩
  all_goals try dsimp only
  all_goals first | with_reducible assumption | omega | (exact lt_sm p0; done) | (have := p0.2.2.1.1; omega; done) | (rw [q1]; exact p0.2.1.1; done) | (rw [q1]; exact p0.2.1.2.1; done) | (rw [q1]; exact p0.2.1.2.2.1; done) | (rw [(ls_cnt q2).1, (ls_cnt q2).2, q1]; exact of_cnt a0; done) | (rw [(ls_cnt q2).1, q1]; have := p0.2.2.1.1; show (a0.past.length : Int) ≤ _; omega; done) | (rw [q1] at q2; exact cs_of ((implChL p0).1 (nn h1)) q2 q3; done) | (exact cs_f fun g => h1 ((implChL p0).2 g); done)
abbrev Zcj.S := Classical.choose Zcj.X
def Zcj.c : Ctr := fc 41 [true, false, false, false, false, false] Zcj.L Zcj Zcj.S
theorem Zcj.good : Good Try.prog Zcj.c := mkFG (fn := Try.f41) {sh := [[none, some (.int, 3), some (.int, 3), none, none, none, none, some (.pkt, 68), some (.bool, 4), some (.bool, 4), some (.int, 3), some (.st, 38), some (.int, 3)], [], []], lst := true} Zcj.X (consG ZY.good (consG ZbB.good (consG Zci.good (consG ZbE.good noG)))) (by kernel_rfl) (by kernel_rfl) (l0 (by kernel_rfl)) (c0 (by kernel_rfl)) fun s K => by kernel_rfl
end
end Hw
end Go.Proofs.Ytceihgojdnkfiaa
