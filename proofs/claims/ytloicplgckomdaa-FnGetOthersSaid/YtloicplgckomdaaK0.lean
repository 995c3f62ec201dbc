/- Chains that are worked on: made by gen.py. -/
import Derived.Test.YtloicplgckomdaaS0
set_option linter.unusedVariables false
set_option linter.unusedSimpArgs false
set_option maxRecDepth 100000
set_option maxHeartbeats 400000
namespace Go.Proofs.Ytloicplgckomdaa
namespace Hw
open Go
noncomputable section
attribute [local irreducible] evFn evBody wrap wxor
def lkRec (l : Lk) (s : St) : Lk := ⟨l.bank, l.id, l.st, s :: l.marks, l.count + 1, l.knows⟩
def lkOf (c : Ch) : Lk := ⟨c.bank, c.id, c.st, c.past.reverse, (c.past.length : Int), c.knows⟩
def lkChain (l : Lk) : Ch := ⟨l.id, l.bank, l.st, l.marks.reverse, l.knows⟩
theorem lkChain_of (c : Ch) : lkChain (lkOf c) = c := by
  cases c
  simp [lkChain, lkOf]
def lkAdd (l : Lk) (ps : List St) (i : Int) : Lk := ⟨l.bank, l.id, l.st, (ps.drop i.toNat).reverse ++ l.marks, l.count + ((ps.length : Int) - i), l.knows⟩
theorem lkAdd_step {l l' : Lk} {ps : List St} {i j : Int} (h0 : 0 ≤ i) (h1 : i < (ps.length : Int)) (hj : j = i + 1) (hl : l' = lkRec l (ps.getD i.toNat zSt)) : lkAdd l' ps j = lkAdd l ps i := by
  subst hl hj
  have h2 : i.toNat < ps.length := by omega
  have e : ps.drop i.toNat = ps.getD i.toNat zSt :: ps.drop (i + 1).toNat := by
    rw [show (i + 1).toNat = i.toNat + 1 by omega, List.drop_eq_getElem_cons h2, List.getD_eq_getElem?_getD, List.getElem?_eq_getElem h2]
    rfl
  unfold lkAdd lkRec
  rw [e]
  simp
  omega
theorem lkAdd_end {l : Lk} {ps : List St} {i : Int} (h0 : i ≤ (ps.length : Int)) (h1 : ¬ i < (ps.length : Int)) : l = lkAdd l ps i := by
  have : i.toNat = ps.length := by omega
  unfold lkAdd
  rw [this, List.drop_length, show l.count + ((ps.length : Int) - i) = l.count by omega]
  rfl
theorem lkAdd_of (c : Ch) : lkAdd ⟨c.bank, c.id, c.st, [], 0, c.knows⟩ c.past 0 = lkOf c := by
  unfold lkAdd lkOf
  simp
def chFill (c : Ch) (i : Int) (m : List St) : Ch := ⟨c.id, c.bank, c.st, m.reverse ++ c.past.drop i.toNat, c.knows⟩
theorem chFill_step {c : Ch} {i j : Int} {m : List St} (hi : i = (m.length : Int)) (hm : m ≠ []) (hl : m.length ≤ c.past.length) (hj : j = i - 1) : chFill ⟨c.id, c.bank, c.st, c.past.set j.toNat (m.headD zSt), c.knows⟩ j m.tail = chFill c i m := by
  cases m with
  | nil => exact absurd rfl hm
  | cons s r =>
    simp only [List.length_cons] at hi hl
    have h1 : j.toNat = r.length := by omega
    have h2 : i.toNat = r.length + 1 := by omega
    unfold chFill
    simp only [h1, h2, List.headD_cons, List.tail_cons, List.reverse_cons, List.append_assoc]
    congr 2
    rw [List.drop_eq_getElem_cons (by simp only [List.length_set]; omega)]
    simp [List.drop_set]
theorem chFill_end {c : Ch} {i : Int} {m : List St} (hi : i = (m.length : Int)) (hm : m = []) : c = chFill c i m := by
  subst hm hi
  cases c
  rfl
theorem chFill_of {l : Lk} {n : Nat} (hc : l.count = (l.marks.length : Int)) (hn : n = l.count.toNat) : chFill ⟨l.id, l.bank, l.st, List.replicate n zSt, l.knows⟩ l.count l.marks = lkChain l := by
  subst hn
  unfold chFill lkChain
  simp
theorem neNil {l : List St} (h : ¬ (l.isEmpty = true)) : l ≠ [] := fun e => h (by rw [e]; rfl)
theorem isNil {l : List St} (h : ¬¬ (l.isEmpty = true)) : l = [] := by
  cases l with
  | nil => rfl
  | cons s r => exact absurd (fun h => by cases h) h
theorem mark_pos {m : List St} (h : m ≠ []) : 0 < m.length := by
  cases m with
  | nil => exact absurd rfl h
  | cons s r => exact Nat.succ_pos _
def lkBlock (l : Lk) : Lk := if l.count < 90 then lkRec l l.st else l

def Zby.L : FL := fCons (fSh sBk) (fNil)
def Zby : Bk × Unit → FR (Unit) := fun (a0, ()) => ⟨(a0.sm) ∧ True, fun X => And ((ZaM (a0.own, ())).P) (And ((ZaM (a0.notes, ())).P) (X ())), fun r => True, fun r => (.v (.agg [.own 0 1 3, .own 1 1 3, .int a0.locked]), [.arr (.ints a0.own), .arr (.ints a0.notes)])⟩
theorem Zby.X : XF Zby := mkF () fun (a0, ()) hp => by
  obtain ⟨p0, -⟩ := hp
  dsimp only [Zby]
  refine May.chk ⟨?_, trivial⟩ fun c1 => May.chk ⟨?_, trivial⟩ fun c2 => May.ret trivial
  all_goals try dsimp only
  all_goals first | with_reducible assumption | omega | rfl | assumption | (simp only [List.length_append, List.length_cons, List.length_nil, List.length_set, List.length_replicate, Int.natCast_add, Int.natCast_one] at *; omega) | grind [Bk.sm]
abbrev Zby.S := Classical.choose Zby.X
def Zby.c : Ctr := fc 87 [true] Zby.L Zby Zby.S
theorem Zby.good : Good Try.prog Zby.c := mkFG (fn := Try.f87) {sh := [[some (.int, 3), some (.int, 3), none]]} Zby.X (consG ZaM.good noG) (by kernel_rfl) (by kernel_rfl) (l0 (by kernel_rfl)) (c0 (by kernel_rfl)) fun s K => by kernel_rfl
def Zbz.L : FL := fCons (fC (cPtr 1 cLkO rfl)) (fCons (fSh sSt) (fNil))
def Zbz : Lk × St × Unit → FR (Lk) := fun (a0, a1, ()) => ⟨(a1.sm) ∧ (0 ≤ a0.count) ∧ (a0.count ≤ 1000000) ∧ True, fun X => And ((ZaP (a1, ())).P) (Lt (wrap (a0.count + 1)) fun x1 => X (⟨a0.bank, a0.id, a0.st, (a1 :: a0.marks), x1, a0.knows⟩ : Lk)), fun r => (r = lkRec a0 a1) ∧ True, fun r => (.tup [], [.raw 1 [.own 1 1 3, .own 2 1 3, .int r.bank.locked, .int r.id, .int r.st.way, .int r.st.ver, .int r.st.want, .own 3 7 49, .own 4 1 4, .own 5 1 4, .own 6 1 3, .mk r.marks 0, .int r.count, .own 7 1 3], .arr (.ints r.bank.own), .arr (.ints r.bank.notes), .arr (.pkts r.st.sent), .arr (.bools r.st.live), .arr (.bools r.st.back), .arr (.ints r.st.got), .arr (.ints r.knows)])⟩
theorem Zbz.X : XF Zbz := mkF (zLk) fun (a0, a1, ()) hp => by
  obtain ⟨p0, p1, p2, -⟩ := hp
  dsimp only [Zbz]
  refine May.chk ⟨?_, trivial⟩ fun c1 => May.lw ⟨?_, ?_⟩ fun x1 e1 => May.ret ⟨?_, trivial⟩
  all_goals try dsimp only
  all_goals first | with_reducible assumption | omega | (rw [e1]; rfl; done) | rfl | assumption | (simp only [List.length_append, List.length_cons, List.length_nil, List.length_set, List.length_replicate, Int.natCast_add, Int.natCast_one] at *; omega) | grind
abbrev Zbz.S := Classical.choose Zbz.X
def Zbz.c : Ctr := fc 89 [false, true] Zbz.L Zbz Zbz.S
theorem Zbz.good : Good Try.prog Zbz.c := mkFG (fn := Try.f89) {} Zbz.X (consG ZaP.good noG) (by kernel_rfl) (by kernel_rfl) (l0 (by kernel_rfl)) (c0 (by kernel_rfl)) fun s K => by kernel_rfl
def ZbA.L : FL := fCons (fC (cPtr 1 cLkO rfl)) (fCons (fAgg (cCons cInt (cCons cInt (cCons cInt (cCons (cAl 3 7 49) (cCons (cAl 4 1 4) (cCons (cAl 5 1 4) (cCons (cAl 6 1 3) (cNil))))))))) (fNil))
def ZbA : Lk × (Int × Int × Int × Unit × Unit × Unit × Unit × Unit) × Unit → FR (Lk) := fun (a0, (a1, a2, a3, (), (), (), (), ()), ()) => ⟨(a0.st.sm) ∧ (0 ≤ a0.count) ∧ (a0.count ≤ 1000000) ∧ True, fun X => And ((ZaP ((⟨a1, a2, a3, a0.st.sent, a0.st.live, a0.st.back, a0.st.got⟩ : St), ())).P) (Lt (wrap (a0.count + 1)) fun x1 => X (⟨a0.bank, a0.id, a0.st, ((⟨a1, a2, a3, a0.st.sent, a0.st.live, a0.st.back, a0.st.got⟩ : St) :: a0.marks), x1, a0.knows⟩ : Lk)), fun r => (r = lkRec a0 ⟨a1, a2, a3, a0.st.sent, a0.st.live, a0.st.back, a0.st.got⟩) ∧ True, fun r => (.tup [], [.raw 1 [.own 1 1 3, .own 2 1 3, .int r.bank.locked, .int r.id, .int r.st.way, .int r.st.ver, .int r.st.want, .own 3 7 49, .own 4 1 4, .own 5 1 4, .own 6 1 3, .mk r.marks 0, .int r.count, .own 7 1 3], .arr (.ints r.bank.own), .arr (.ints r.bank.notes), .arr (.pkts r.st.sent), .arr (.bools r.st.live), .arr (.bools r.st.back), .arr (.ints r.st.got), .arr (.ints r.knows)])⟩
theorem ZbA.X : XF ZbA := mkF (zLk) fun (a0, (a1, a2, a3, (), (), (), (), ()), ()) hp => by
  obtain ⟨p0, p1, p2, -⟩ := hp
  dsimp only [ZbA]
  refine May.chk ⟨?_, trivial⟩ fun c1 => May.lw ⟨?_, ?_⟩ fun x1 e1 => May.ret ⟨?_, trivial⟩
  all_goals try dsimp only
  all_goals first | with_reducible assumption | omega | (rw [e1]; rfl; done) | rfl | assumption | (simp only [List.length_append, List.length_cons, List.length_nil, List.length_set, List.length_replicate, Int.natCast_add, Int.natCast_one] at *; omega) | grind
abbrev ZbA.S := Classical.choose ZbA.X
def ZbA.c : Ctr := fc 89 [false, false] ZbA.L ZbA ZbA.S
theorem ZbA.good : Good Try.prog ZbA.c := mkFG (fn := Try.f89) {} ZbA.X (consG ZaP.good noG) (by kernel_rfl) (by kernel_rfl) (l0 (by kernel_rfl)) (c0 (by kernel_rfl)) fun s K => by kernel_rfl
theorem ZbB.G : GG [Zby.c, ZaP.c, ZaM.c, Zbz.c, ZbA.c] := (consG Zby.good (consG ZaP.good (consG ZaM.good (consG Zbz.good (consG ZbA.good noG)))))
def ZbC.L : FL := fCons (fC (cPtr 1 cLkO rfl)) (fCons (fC (cArr false kSts)) (fCons (fC cInt) (fCons (fC cInt) (fNil))))
def ZbC : Lk × List St × Int × Int × Unit → LR (Lk × List St × Int × Int × Unit) (Nat × Lk × Unit) := fun (y0, y1, y2, y3, ()) => ⟨(0 ≤ y3) ∧ (y2 ≤ 9223372036854775807) ∧ (y2 = (y1.length : Int)) ∧ (stsSm y1) ∧ (y3 ≤ (y1.length : Int)) ∧ (0 ≤ y0.count) ∧ (y0.count + ((y1.length : Int) - y3) ≤ 1000000) ∧ True, (y2 - y3).toNat, fun X => And (Imp ((decide (y3 < y2)) = true) (And ((0 : Int) ≤ y3 ∧ y3 < (y1.length : Int)) (Call Zbz.X (y0, (y1.getD (y3).toNat zSt), ()) fun x1 => Lt (wrap (y3 + 1)) fun x2 => X (.inl (x1, y1, y2, x2, ()))))) (Imp ((decide (y3 < y2)) = false) (X (.inr (0, y0, ())))), fun r => (r.2.1 = lkAdd y0 y1 y3) ∧ True, fun r => [], fun r => (.exit 0, [.c (.ptr 0 0)], [.raw 1 [.own 1 1 3, .own 2 1 3, .int r.2.1.bank.locked, .int r.2.1.id, .int r.2.1.st.way, .int r.2.1.st.ver, .int r.2.1.st.want, .own 3 7 49, .own 4 1 4, .own 5 1 4, .own 6 1 3, .mk r.2.1.marks 0, .int r.2.1.count, .own 7 1 3], .arr (.ints r.2.1.bank.own), .arr (.ints r.2.1.bank.notes), .arr (.pkts r.2.1.st.sent), .arr (.bools r.2.1.st.live), .arr (.bools r.2.1.st.back), .arr (.ints r.2.1.st.got), .arr (.ints r.2.1.knows)])⟩
theorem ZbC.X : XL ZbC := mkL (0, zLk, ()) fun (y0, y1, y2, y3, ()) hp => by
  obtain ⟨p0, p1, p2, p3, p4, p5, p6, -⟩ := hp
  unfold ML; dsimp only [ZbC]
  refine May.iff (B.dec) (fun h1 => ?_) (fun h1 => ?_)
  refine May.chk ?_ fun c1 => May.call ⟨?_, ?_, ?_, trivial⟩ fun x1 q1 => have q1 := q1.1; May.lw ⟨?_, ?_⟩ fun x2 e2 => May.nx ⟨?_, ?_, ?_, ?_, ?_, ?_, ?_, trivial⟩ ?_ ?_ fun r => rfl; rotate_left 15
  refine May.ex ⟨?_, trivial⟩
  all_goals try dsimp only [ZbC]
  all_goals first | with_reducible assumption | omega | exact fun _ q => q | (exact lkAdd_end p4 (by omega); done) | (exact p3.2 _; done) | (rw [q1]; show 0 ≤ y0.count + 1; omega; done) | (rw [q1]; show y0.count + 1 + _ ≤ _; omega; done) | (exact fun r q => ⟨q.1.trans (lkAdd_step p0 (by omega) e2 q1), trivial⟩; done)
abbrev ZbC.R := Classical.choose ZbC.X
def ZbC.k : LCtr := (ld 3 [3, 20, 21, 22] [] ZbC.L ZbC 0 (fun _ => [3]) (fun _ => []) ZbC.R).ctr
theorem ZbC.g : LGood Try.prog Try.f53.ntmps ZbC.k (bodyAt Try.f53 0) := mkLG {} ZbC.X ZbB.G (by kernel_rfl) (l0 (by kernel_rfl)) (c0 (by kernel_rfl)) fun S s => by kernel_rfl
def ZbB.L : FL := fCons (fSh sCh) (fNil)
def ZbB : Ch × Unit → FR (Lk) := fun (a0, ()) => ⟨(a0.sm) ∧ (a0.past.length ≤ 1000000) ∧ True, fun X => And ((Zby (a0.bank, ())).P) (And ((ZaP (a0.st, ())).P) (And ((ZaM (a0.knows, ())).P) (CallL ZbC.X ((⟨a0.bank, a0.id, a0.st, [], 0, a0.knows⟩ : Lk), a0.past, (a0.past.length : Int), 0, ()) fun x3 => X x3.2.1))), fun r => (r = lkOf a0) ∧ True, fun r => (.v (.c (.ptr 0 0)), [.raw 1 [.own 1 1 3, .own 2 1 3, .int r.bank.locked, .int r.id, .int r.st.way, .int r.st.ver, .int r.st.want, .own 3 7 49, .own 4 1 4, .own 5 1 4, .own 6 1 3, .mk r.marks 0, .int r.count, .own 7 1 3], .arr (.ints r.bank.own), .arr (.ints r.bank.notes), .arr (.pkts r.st.sent), .arr (.bools r.st.live), .arr (.bools r.st.back), .arr (.ints r.st.got), .arr (.ints r.knows)])⟩
theorem ZbB.X : XF ZbB := mkF (zLk) fun (a0, ()) hp => by
  obtain ⟨p0, p1, -⟩ := hp
  obtain ⟨s0, s1, s2, s3⟩ := id p0
  dsimp only [ZbB]
  refine May.chk ⟨?_, trivial⟩ fun c1 => May.chk ⟨?_, trivial⟩ fun c2 => May.chk ⟨?_, trivial⟩ fun c3 => May.loop ⟨?_, ?_, ?_, ?_, ?_, ?_, ?_, trivial⟩ fun x3 q3 => have q3 := q3.1; May.ret ⟨?_, trivial⟩
  all_goals try dsimp only
  all_goals first | with_reducible assumption | omega | (rw [q3]; exact lkAdd_of a0; done) | rfl | assumption | (simp only [List.length_append, List.length_cons, List.length_nil, List.length_set, List.length_replicate, Int.natCast_add, Int.natCast_one] at *; omega) | grind
abbrev ZbB.S := Classical.choose ZbB.X
def ZbB.c : Ctr := fc 53 [true] ZbB.L ZbB ZbB.S
theorem ZbB.good : Good Try.prog ZbB.c := mkFG (fn := Try.f53) {LL := [ZbC.k]} ZbB.X ZbB.G (by kernel_rfl) (by kernel_rfl) (lG (by kernel_rfl) (consL (by kernel_rfl) ZbC.g (noL rfl))) (c0 (by kernel_rfl)) fun s K => by kernel_rfl
def ZbD.L : FL := fCons (fC (cPtr 1 cLkO rfl)) (fNil)
def ZbD : Lk × Unit → FR (Lk) := fun (a0, ()) => ⟨(a0.st.sm) ∧ (0 ≤ a0.count) ∧ (a0.count ≤ 1000000) ∧ True, fun X => And (Imp ((decide (a0.count < 90)) = true) (And ((ZbA (a0, (a0.st.way, a0.st.ver, a0.st.want, (), (), (), (), ()), ())).P) (Lt ((ZbA.S (a0, (a0.st.way, a0.st.ver, a0.st.want, (), (), (), (), ()), ()))) fun x1 => X x1))) (Imp ((decide (a0.count < 90)) = false) (X a0)), fun r => (r = lkBlock a0) ∧ True, fun r => (.tup [], [.raw 1 [.own 1 1 3, .own 2 1 3, .int r.bank.locked, .int r.id, .int r.st.way, .int r.st.ver, .int r.st.want, .own 3 7 49, .own 4 1 4, .own 5 1 4, .own 6 1 3, .mk r.marks 0, .int r.count, .own 7 1 3], .arr (.ints r.bank.own), .arr (.ints r.bank.notes), .arr (.pkts r.st.sent), .arr (.bools r.st.live), .arr (.bools r.st.back), .arr (.ints r.st.got), .arr (.ints r.knows)])⟩
theorem ZbD.X : XF ZbD := mkF (zLk) fun (a0, ()) hp => by
  obtain ⟨p0, p1, p2, -⟩ := hp
  dsimp only [ZbD]
  refine May.iff (B.dec) (fun h1 => ?_) (fun h1 => ?_)
  refine ?_
  refine May.chk ⟨?_, ?_, ?_, trivial⟩ fun c1 => May.clqe ⟨?_, ?_, ?_, trivial⟩ fun x1 e1 q1 => have q1 := q1.1; May.ret ⟨?_, trivial⟩; rotate_left 7
  refine May.ret ⟨?_, trivial⟩
  all_goals try dsimp only
  all_goals first | with_reducible assumption | omega | (rw [q1]; exact (if_pos h1).symm; done) | (exact (if_neg h1).symm; done)
abbrev ZbD.S := Classical.choose ZbD.X
def ZbD.c : Ctr := fc 78 [false] ZbD.L ZbD ZbD.S
theorem ZbD.good : Good Try.prog ZbD.c := mkFG (fn := Try.f78) {sp := [(1, [[(12, 1)]])]} ZbD.X (consG Zbz.good (consG ZbA.good noG)) (by kernel_rfl) (by kernel_rfl) (l0 (by kernel_rfl)) (c0 (by kernel_rfl)) fun s K => by kernel_rfl
theorem ZbE.G : GG [] := noG
def ZbF.L : FL := fCons (fC (cPtr 1 (cCons cInt (cCons cNilS (cCons cNilS (cCons cInt (cCons cInt (cCons cInt (cCons cInt (cCons cNilS (cCons cNilS (cCons cNilS (cCons cNilS (cCons cNilS (cCons cNilS (cNil)))))))))))))) rfl)) (fCons (fC (cPtr 1 cChO rfl)) (fCons (fC cInt) (fCons (fC cMk) (fNil))))
def ZbF : (Int × Unit × Unit × Int × Int × Int × Int × Unit × Unit × Unit × Unit × Unit × Unit × Unit) × Ch × Int × List St × Unit → LR ((Int × Unit × Unit × Int × Int × Int × Int × Unit × Unit × Unit × Unit × Unit × Unit × Unit) × Ch × Int × List St × Unit) (Nat × Ch × Unit) := fun ((y0, (), (), y1, y2, y3, y4, (), (), (), (), (), (), ()), y5, y6, y7, ()) => ⟨(y6 = (y7.length : Int)) ∧ (y7.length ≤ y5.past.length) ∧ (y6 ≤ 1000000) ∧ True, y7.length, fun X => And (Imp ((!y7.isEmpty) = true) (Lt (wrap (y6 - 1)) fun x1 => And (y7 ≠ []) (And (y7 ≠ []) (And (y7 ≠ []) (And ((0 : Int) ≤ x1 ∧ x1 < (y5.past.length : Int)) (And ((x1).toNat < y5.past.length) (And (y7 ≠ []) (And (y7 ≠ []) (And (y7 ≠ []) (X (.inl ((y0, (), (), y1, y2, y3, y4, (), (), (), (), (), (), ()), (⟨y5.id, y5.bank, y5.st, y5.past.set (x1).toNat (y7.headD zSt), y5.knows⟩ : Ch), x1, y7.tail, ())))))))))))) (Imp ((!y7.isEmpty) = false) (X (.inr (0, y5, ())))), fun r => (r.2.1 = chFill y5 y6 y7) ∧ True, fun r => [], fun r => (.exit 0, [.c (.ptr 0 0), .c (.ptr 1 0)], [.raw 1 [.int y0, .nilS, .nilS, .int y1, .int y2, .int y3, .int y4, .nilS, .nilS, .nilS, .nilS, .nilS, .nilS], .raw 1 [.int r.2.1.id, .own 2 1 3, .own 3 1 3, .int r.2.1.bank.locked, .int r.2.1.st.way, .int r.2.1.st.ver, .int r.2.1.st.want, .own 4 7 49, .own 5 1 4, .own 6 1 4, .own 7 1 3, .own 8 7 29, .own 9 1 3], .arr (.ints r.2.1.bank.own), .arr (.ints r.2.1.bank.notes), .arr (.pkts r.2.1.st.sent), .arr (.bools r.2.1.st.live), .arr (.bools r.2.1.st.back), .arr (.ints r.2.1.st.got), .arr (.sts r.2.1.past), .arr (.ints r.2.1.knows)])⟩
theorem ZbF.X : XL ZbF := mkL (0, zCh, ()) fun ((y0, (), (), y1, y2, y3, y4, (), (), (), (), (), (), ()), y5, y6, y7, ()) hp => by
  obtain ⟨p0, p1, p2, -⟩ := hp
  have hn := fun h => mark_pos (m := y7) (neNil h)
  unfold ML; dsimp only [ZbF]
  refine May.iff (B.not (Iff.rfl)) (fun h1 => ?_) (fun h1 => ?_)
  refine May.lw ⟨?_, ?_⟩ fun x1 e1 => May.chk ?_ fun c1 => May.chk ?_ fun c2 => May.chk ?_ fun c3 => May.chk ?_ fun c4 => May.chk ?_ fun c5 => May.chk ?_ fun c6 => May.chk ?_ fun c7 => ?_; rotate_left 9
  refine May.chk ?_ fun c8 => May.nx ⟨?_, ?_, ?_, trivial⟩ ?_ ?_ fun r => rfl; rotate_left 6
  refine May.ex ⟨?_, trivial⟩
  all_goals try dsimp only [ZbF]
  all_goals first | with_reducible assumption | omega | exact fun _ q => q | (exact chFill_end p0 (isNil h1); done) | (exact neNil h1; done) | (have := hn h1; omega; done) | (have := hn h1; rw [List.length_tail]; omega; done) | (rw [List.length_tail, List.length_set]; omega; done) | (have := hn h1; rw [List.length_set]; omega; done) | (exact fun r q => ⟨q.1.trans (chFill_step p0 (neNil h1) p1 e1), trivial⟩; done)
abbrev ZbF.R := Classical.choose ZbF.X
def ZbF.k : LCtr := (ld 4 [2, 3, 4, 5] [] ZbF.L ZbF 0 (fun _ => [2, 3]) (fun _ => []) ZbF.R).ctr
theorem ZbF.g : LGood Try.prog Try.f55.ntmps ZbF.k (bodyAt Try.f55 0) := mkLG {} ZbF.X ZbE.G (by kernel_rfl) (l0 (by kernel_rfl)) (c0 (by kernel_rfl)) fun S s => by kernel_rfl
def ZbE.L : FL := fCons (fC (cPtr 1 cLkO rfl)) (fNil)
def ZbE : Lk × Unit → FR (Ch) := fun (a0, ()) => ⟨(a0.count = (a0.marks.length : Int)) ∧ (a0.count ≤ 1000000) ∧ True, fun X => And ((a0.count : Int) = a0.count ∧ (0 : Int) ≤ a0.count ∧ (a0.count : Int) ≤ 4294967296) (CallL ZbF.X ((0, (), (), 0, 0, 0, 0, (), (), (), (), (), (), ()), (⟨a0.id, a0.bank, a0.st, List.replicate (a0.count).toNat zSt, a0.knows⟩ : Ch), a0.count, a0.marks, ()) fun x2 => X x2.2.1), fun r => (r = lkChain a0) ∧ True, fun r => (.v (.agg [.int r.id, .own 8 1 3, .own 9 1 3, .int r.bank.locked, .int r.st.way, .int r.st.ver, .int r.st.want, .own 10 7 49, .own 11 1 4, .own 12 1 4, .own 13 1 3, .own 14 7 29, .own 15 1 3]), [.dead, .dead, .dead, .dead, .dead, .dead, .dead, .dead, .arr (.ints r.bank.own), .arr (.ints r.bank.notes), .arr (.pkts r.st.sent), .arr (.bools r.st.live), .arr (.bools r.st.back), .arr (.ints r.st.got), .arr (.sts r.past), .arr (.ints r.knows)])⟩
theorem ZbE.X : XF ZbE := mkF (zCh) fun (a0, ()) hp => by
  obtain ⟨p0, p1, -⟩ := hp
  dsimp only [ZbE]
  refine May.chk ?_ fun c1 => May.loop ⟨?_, ?_, ?_, trivial⟩ fun x2 q2 => have q2 := q2.1; May.ret ⟨?_, trivial⟩
  all_goals try dsimp only
  all_goals first | with_reducible assumption | omega | (rw [List.length_replicate]; omega; done) | (rw [q2]; exact chFill_of p0 rfl; done)
abbrev ZbE.S := Classical.choose ZbE.X
def ZbE.c : Ctr := fc 55 [false] ZbE.L ZbE ZbE.S
theorem ZbE.good : Good Try.prog ZbE.c := mkFG (fn := Try.f55) {LL := [ZbF.k], sh := [[none, some (.int, 3), some (.int, 3), none, none, none, none, some (.pkt, 49), some (.bool, 4), some (.bool, 4), some (.int, 3), some (.st, 29), some (.int, 3)]], tk := [0, 1, 2, 3, 4, 5, 6, 7]} ZbE.X ZbE.G (by kernel_rfl) (by kernel_rfl) (lG (by kernel_rfl) (consL (by kernel_rfl) ZbF.g (noL rfl))) (c0 (by kernel_rfl)) fun s K => by kernel_rfl
end
end Hw
end Go.Proofs.Ytloicplgckomdaa
