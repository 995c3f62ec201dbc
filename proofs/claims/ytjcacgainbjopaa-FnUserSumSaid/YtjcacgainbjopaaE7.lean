/- Draws, 8: made by gen.py. -/
import Derived.Test.YtjcacgainbjopaaE6
set_option linter.unusedVariables false
set_option linter.unusedSimpArgs false
set_option maxRecDepth 100000
set_option maxHeartbeats 400000
namespace Go.Proofs.Ytjcacgainbjopaa
namespace Hw
open Go
noncomputable section
attribute [local irreducible] evFn evBody wrap wxor
theorem ZaH.G : GG [Zj.c, Zay.c, Zat.c, Zd.c, Zaz.c] := (consG Zj.good (consG Zay.good (consG Zat.good (consG Zd.good (consG Zaz.good noG)))))
def ZaI.L : FL := fCons (fC (cPtr 1 (cCons (cArrE true kU8s) (cCons cInt (cNil))) rfl)) (fCons (fC (cPtr 1 (cCons cNilS (cNil)) rfl)) (fCons (fC (cPtr 1 (cCons (cRow 2 13 42 (cApp cChO cChO) rfl) (cNil)) rfl)) (fCons (fC (cOwn kEvs 90)) (fCons (fC cInt) (fNil)))))
def ZaI : (List Int × Int × Unit) × (Unit × Unit) × (((Ch) × Ch) × Unit) × List Ev × Int × Unit → LR ((List Int × Int × Unit) × (Unit × Unit) × (((Ch) × Ch) × Unit) × List Ev × Int × Unit) (Nat × Ch × Ch × Unit) := fun ((y0, y1, ()), ((), ()), ((y2, y3), ()), y4, y5, ()) => ⟨(0 ≤ y5) ∧ ((y4.length : Int) ≤ 9223372036854775807) ∧ (CIn y2) ∧ (CIn y3) ∧ ((y2.knows.length : Int) ≤ y5) ∧ ((y3.knows.length : Int) ≤ y5) ∧ (y4.length ≤ 10) ∧ (y5 ≤ (y4.length : Int)) ∧ True, ((y4.length : Int) - y5).toNat, fun X => And (Imp ((decide (y5 < (y4.length : Int))) = true) (And ((0 : Int) ≤ y5 ∧ y5 < (y4.length : Int)) (And ((y5).toNat < y4.length) (Call Zat.X (((y2, y3), ()), (y4.getD (y5).toNat zEv), ()) fun x3 => Lt (wrap (y5 + 1)) fun x4 => X (.inl ((y0, y1, ()), ((), ()), ((x3.1, x3.2), ()), y4, x4, ())))))) (Imp ((decide (y5 < (y4.length : Int))) = false) (X (.inr (0, y2, y3, ())))), fun r => (CIn r.2.1) ∧ (CIn r.2.2.1) ∧ (r.2.1.knows.length ≤ 10) ∧ (r.2.2.1.knows.length ≤ 10) ∧ True, fun r => [], fun r => (.exit 0, [.c (.ptr 0 0), .c (.ptr 1 0), .c (.ptr 2 0), .c (.own 20 11 90)], [.raw 1 [.arr true (.u8s y0), .int y1], .raw 1 [.nilS], .raw 1 [.own 3 13 42], .raw 2 [.int r.2.1.id, .own 4 1 3, .own 5 1 3, .int r.2.1.bank.locked, .int r.2.1.st.way, .int r.2.1.st.ver, .int r.2.1.st.want, .own 6 7 71, .own 7 1 4, .own 8 1 4, .own 9 1 3, .own 10 7 39, .own 11 1 3, .int r.2.2.1.id, .own 12 1 3, .own 13 1 3, .int r.2.2.1.bank.locked, .int r.2.2.1.st.way, .int r.2.2.1.st.ver, .int r.2.2.1.st.want, .own 14 7 71, .own 15 1 4, .own 16 1 4, .own 17 1 3, .own 18 7 39, .own 19 1 3], .arr (.ints r.2.1.bank.own), .arr (.ints r.2.1.bank.notes), .arr (.pkts r.2.1.st.sent), .arr (.bools r.2.1.st.live), .arr (.bools r.2.1.st.back), .arr (.ints r.2.1.st.got), .arr (.sts r.2.1.past), .arr (.ints r.2.1.knows), .arr (.ints r.2.2.1.bank.own), .arr (.ints r.2.2.1.bank.notes), .arr (.pkts r.2.2.1.st.sent), .arr (.bools r.2.2.1.st.live), .arr (.bools r.2.2.1.st.back), .arr (.ints r.2.2.1.st.got), .arr (.sts r.2.2.1.past), .arr (.ints r.2.2.1.knows), .arr (.evs y4)])⟩
theorem ZaI.X : XL ZaI := mkL (0, zCh, zCh, ()) fun ((y0, y1, ()), ((), ()), ((y2, y3), ()), y4, y5, ()) hp => by
  obtain ⟨p0, p1, p2, p3, p4, p5, p6, p7, -⟩ := hp
  unfold ML; dsimp only [ZaI]
  refine May.iff (B.dec) (fun h1 => ?_) (fun h1 => ?_)
  refine May.chk ?_ fun c1 => May.chk ?_ fun c2 => May.call ⟨?_, ?_, ?_, ?_, trivial⟩ fun x3 q3 => have q3_0 := q3.1; have q3_1 := q3.2.1; have q3_2 := q3.2.2.1; have q3_3 := q3.2.2.2.1; May.lw ⟨?_, ?_⟩ fun x4 e4 => May.nx ⟨?_, ?_, ?_, ?_, ?_, ?_, ?_, ?_, trivial⟩ ?_ ?_ fun r => rfl; rotate_left 18
  refine May.ex ⟨?_, ?_, ?_, ?_, trivial⟩
  all_goals try dsimp only [ZaI]
  all_goals first | with_reducible assumption | omega | exact fun _ q => q | rfl | assumption | (simp only [List.length_append, List.length_cons, List.length_nil, List.length_set, List.length_replicate, Int.natCast_add, Int.natCast_one] at *; omega) | grind
abbrev ZaI.R := Classical.choose ZaI.X
def ZaI.k : LCtr := (ld 4 [0, 3, 4, 5, 6] [] ZaI.L ZaI 1 (fun _ => [0, 3, 4, 5]) (fun _ => []) ZaI.R).ctr
theorem ZaI.g : LGood Try.prog Try.f46.ntmps ZaI.k (bodyAt Try.f46 0) := mkLG {} ZaI.X ZaH.G (by kernel_rfl) (l0 (by kernel_rfl)) (c0 (by kernel_rfl)) fun S s => by kernel_rfl
def ZaJ.L : FL := fCons (fC (cPtr 1 (cCons (cArrE true kU8s) (cCons cInt (cNil))) rfl)) (fCons (fC (cPtr 1 (cCons cNilS (cNil)) rfl)) (fCons (fC (cPtr 1 (cCons (cRow 2 13 42 (cApp cChO cChO) rfl) (cNil)) rfl)) (fCons (fC (cOwn kEvs 90)) (fCons (fC cInt) (fNil)))))
def ZaJ : (List Int × Int × Unit) × (Unit × Unit) × (((Ch) × Ch) × Unit) × List Ev × Int × Unit → LR ((List Int × Int × Unit) × (Unit × Unit) × (((Ch) × Ch) × Unit) × List Ev × Int × Unit) (Nat × Int × Ch × Ch × (List Ev) × Unit) := fun ((y0, y1, ()), ((), ()), ((y2, y3), ()), y4, y5, ()) => ⟨(BY y0) ∧ (0 ≤ y1) ∧ (y1 + 40 * y5 ≤ 890000000000) ∧ (CIn y2) ∧ (CIn y3) ∧ ((y2.knows.length : Int) + y5 ≤ 60) ∧ ((y3.knows.length : Int) + y5 ≤ 60) ∧ ((y4.length : Int) + y5 ≤ 60) ∧ (0 ≤ y5) ∧ True, (y5).toNat, fun X => And (Imp ((decide (y5 > 0)) = true) (Call Zaz.X ((y0, y1, ()), [y2, y3], ()) fun x7 => And ((y4 ++ ([x7.1])).length ≤ 4294967296) (Call Zat.X (((y2, y3), ()), x7.1, ()) fun x8 => Lt (wrap (y5 - 1)) fun x9 => X (.inl ((y0, x7.2, ()), ((), ()), ((x8.1, x8.2), ()), (y4 ++ ([x7.1])), x9, ()))))) (Imp ((decide (y5 > 0)) = false) (X (.inr (0, y1, y2, y3, y4, ())))), fun r => (CIn r.2.2.1) ∧ (CIn r.2.2.2.1) ∧ (r.2.2.1.knows.length ≤ 60) ∧ (r.2.2.2.1.knows.length ≤ 60) ∧ (r.2.2.2.2.1.length ≤ 60) ∧ (y1 ≤ r.2.1 ∧ r.2.1 ≤ y1 + 40 * y5) ∧ True, fun r => [], fun r => (.exit 2, [.c (.ptr 0 0), .c (.ptr 1 0), .c (.ptr 2 0), .c (.own 20 11 90)], [.raw 1 [.arr true (.u8s y0), .int r.2.1], .raw 1 [.nilS], .raw 1 [.own 3 13 42], .raw 2 [.int r.2.2.1.id, .own 4 1 3, .own 5 1 3, .int r.2.2.1.bank.locked, .int r.2.2.1.st.way, .int r.2.2.1.st.ver, .int r.2.2.1.st.want, .own 6 7 71, .own 7 1 4, .own 8 1 4, .own 9 1 3, .own 10 7 39, .own 11 1 3, .int r.2.2.2.1.id, .own 12 1 3, .own 13 1 3, .int r.2.2.2.1.bank.locked, .int r.2.2.2.1.st.way, .int r.2.2.2.1.st.ver, .int r.2.2.2.1.st.want, .own 14 7 71, .own 15 1 4, .own 16 1 4, .own 17 1 3, .own 18 7 39, .own 19 1 3], .arr (.ints r.2.2.1.bank.own), .arr (.ints r.2.2.1.bank.notes), .arr (.pkts r.2.2.1.st.sent), .arr (.bools r.2.2.1.st.live), .arr (.bools r.2.2.1.st.back), .arr (.ints r.2.2.1.st.got), .arr (.sts r.2.2.1.past), .arr (.ints r.2.2.1.knows), .arr (.ints r.2.2.2.1.bank.own), .arr (.ints r.2.2.2.1.bank.notes), .arr (.pkts r.2.2.2.1.st.sent), .arr (.bools r.2.2.2.1.st.live), .arr (.bools r.2.2.2.1.st.back), .arr (.ints r.2.2.2.1.st.got), .arr (.sts r.2.2.2.1.past), .arr (.ints r.2.2.2.1.knows), .arr (.evs r.2.2.2.2.1)])⟩
theorem ZaJ.X : XL ZaJ := mkL (0, 0, zCh, zCh, [], ()) fun ((y0, y1, ()), ((), ()), ((y2, y3), ()), y4, y5, ()) hp => by
  obtain ⟨p0, p1, p2, p3, p4, p5, p6, p7, p8, -⟩ := hp
  unfold ML; dsimp only [ZaJ]
  refine May.iff (B.dec) (fun h1 => ?_) (fun h1 => ?_)
  refine May.call ⟨?_, ?_, ?_, ?_, ?_, ?_, trivial⟩ fun x7 q7 => have q7_0 := q7.1; have q7_1 := q7.2.1; May.chk ?_ fun c1 => May.call ⟨?_, ?_, ?_, ?_, trivial⟩ fun x8 q8 => have q8_0 := q8.1; have q8_1 := q8.2.1; have q8_2 := q8.2.2.1; have q8_3 := q8.2.2.2.1; May.lw ⟨?_, ?_⟩ fun x9 e9 => May.nx ⟨?_, ?_, ?_, ?_, ?_, ?_, ?_, ?_, ?_, trivial⟩ ?_ ?_ fun r => rfl; rotate_left 24
  refine May.ex ⟨?_, ?_, ?_, ?_, ?_, ?_, trivial⟩
  all_goals try dsimp only [ZaJ]
  all_goals first | with_reducible assumption | omega | exact fun _ q => q | rfl | assumption | (simp only [List.length_append, List.length_cons, List.length_nil, List.length_set, List.length_replicate, Int.natCast_add, Int.natCast_one] at *; omega) | grind
abbrev ZaJ.R := Classical.choose ZaJ.X
def ZaJ.k : LCtr := (ld 8 [0, 3, 4, 5, 7] [] ZaJ.L ZaJ 1 (fun _ => [0, 3, 4, 5]) (fun _ => []) ZaJ.R).ctr
theorem ZaJ.g : LGood Try.prog Try.f46.ntmps ZaJ.k (bodyAt Try.f46 1) := mkLG {} ZaJ.X ZaH.G (by kernel_rfl) (l0 (by kernel_rfl)) (c0 (by kernel_rfl)) fun S s => by kernel_rfl
def ZaH.L : FL := fCons (fC (cPtr 1 (cCons (cArrE true kU8s) (cCons cInt (cNil))) rfl)) (fNil)
def ZaH : (List Int × Int × Unit) × Unit → FR ((List Ev) × Ch × Ch × Int) := fun ((a0, a1, ()), ()) => ⟨(BY a0) ∧ (0 ≤ a1) ∧ (a1 ≤ 800000000000) ∧ True, fun X => Call0 Zj.X () fun x1 => Call Zay.X ((a0, a1, ()), ()) fun x2 => CallL ZaI.X ((a0, x2.2, ()), ((), ()), ((x1.1, x1.2), ()), x2.1, 0, ()) fun x5 => Call Zd.X ((a0, x2.2, ()), 48, ()) fun x6 => CallL ZaJ.X ((a0, x6.2, ()), ((), ()), ((x5.2.1, x5.2.2.1), ()), x2.1, x6.1, ()) fun x10 => X (x10.2.2.2.2.1, x10.2.2.1, x10.2.2.2.1, x10.2.1), fun r => (CIn r.2.1) ∧ (CIn r.2.2.1) ∧ (r.2.1.knows.length ≤ 60) ∧ (r.2.2.1.knows.length ≤ 60) ∧ (r.1.length ≤ 60) ∧ (a1 ≤ r.2.2.2 ∧ r.2.2.2 ≤ a1 + 2000) ∧ True, fun r => (.tup [.c (.own 1 11 90), .agg [.own 2 13 42]], [.raw 1 [.arr true (.u8s a0), .int r.2.2.2], .arr (.evs r.1), .raw 2 [.int r.2.1.id, .own 3 1 3, .own 4 1 3, .int r.2.1.bank.locked, .int r.2.1.st.way, .int r.2.1.st.ver, .int r.2.1.st.want, .own 5 7 71, .own 6 1 4, .own 7 1 4, .own 8 1 3, .own 9 7 39, .own 10 1 3, .int r.2.2.1.id, .own 11 1 3, .own 12 1 3, .int r.2.2.1.bank.locked, .int r.2.2.1.st.way, .int r.2.2.1.st.ver, .int r.2.2.1.st.want, .own 13 7 71, .own 14 1 4, .own 15 1 4, .own 16 1 3, .own 17 7 39, .own 18 1 3], .arr (.ints r.2.1.bank.own), .arr (.ints r.2.1.bank.notes), .arr (.pkts r.2.1.st.sent), .arr (.bools r.2.1.st.live), .arr (.bools r.2.1.st.back), .arr (.ints r.2.1.st.got), .arr (.sts r.2.1.past), .arr (.ints r.2.1.knows), .arr (.ints r.2.2.1.bank.own), .arr (.ints r.2.2.1.bank.notes), .arr (.pkts r.2.2.1.st.sent), .arr (.bools r.2.2.1.st.live), .arr (.bools r.2.2.1.st.back), .arr (.ints r.2.2.1.st.got), .arr (.sts r.2.2.1.past), .arr (.ints r.2.2.1.knows)])⟩
theorem ZaH.X : XF ZaH := mkF ([], zCh, zCh, 0) fun ((a0, a1, ()), ()) hp => by
  obtain ⟨p0, p1, p2, -⟩ := hp
  dsimp only [ZaH]
  refine May.call0 trivial fun x1 q1 => have q1_0 := q1.1; have q1_1 := q1.2.1; have q1_2 := q1.2.2.1; have q1_3 := q1.2.2.2.1; May.call ⟨?_, ?_, ?_, trivial⟩ fun x2 q2 => have q2_0 := q2.1; have q2_1 := q2.2.1; have q2_2 := q2.2.2.1; May.loop ⟨?_, ?_, ?_, ?_, ?_, ?_, ?_, ?_, trivial⟩ fun x5 q5 => have q5_0 := q5.1; have q5_1 := q5.2.1; have q5_2 := q5.2.2.1; have q5_3 := q5.2.2.2.1; May.call ⟨?_, ?_, ?_, trivial⟩ fun x6 q6 => have q6_0 := q6.1; have q6_1 := q6.2.1; have q6_2 := q6.2.2.1; May.loop ⟨?_, ?_, ?_, ?_, ?_, ?_, ?_, ?_, ?_, trivial⟩ fun x10 q10 => have q10_0 := q10.1; have q10_1 := q10.2.1; have q10_2 := q10.2.2.1; have q10_3 := q10.2.2.2.1; have q10_4 := q10.2.2.2.2.1; have q10_5 := q10.2.2.2.2.2.1; May.ret ⟨?_, ?_, ?_, ?_, ?_, ?_, trivial⟩
  all_goals try dsimp only
  all_goals first | with_reducible assumption | omega | rfl | assumption | (simp only [List.length_append, List.length_cons, List.length_nil, List.length_set, List.length_replicate, Int.natCast_add, Int.natCast_one] at *; omega) | grind
abbrev ZaH.S := Classical.choose ZaH.X
def ZaH.c : Ctr := fc 46 [false] ZaH.L ZaH ZaH.S
theorem ZaH.good : Good Try.prog ZaH.c := mkFG (fn := Try.f46) {LL := [ZaI.k, ZaJ.k], sh := [[some (.ev, 90)], [some (.ch, 42)]]} ZaH.X ZaH.G (by kernel_rfl) (by kernel_rfl) (lG (by kernel_rfl) (consL (by kernel_rfl) ZaI.g (consL (by kernel_rfl) ZaJ.g (noL rfl)))) (c0 (by kernel_rfl)) fun s K => by kernel_rfl
def SZ (s : St) : Prop := s.sent.length ≤ 8 ∧ s.live.length ≤ 9 ∧ s.back.length ≤ 8 ∧ s.got.length = 8
theorem sin_sz {s : St} (h : SIn s) : SZ s := by
  unfold SIn at h
  unfold SZ
  omega
end
end Hw
end Go.Proofs.Ytjcacgainbjopaa
