/- Draws, 14: made by gen.py. -/
import Derived.Test.YtjcacgainbjopaaE7
set_option linter.unusedVariables false
set_option linter.unusedSimpArgs false
set_option maxRecDepth 100000
set_option maxHeartbeats 400000
namespace Go.Proofs.Ytjcacgainbjopaa
namespace Hw
open Go
noncomputable section
attribute [local irreducible] evFn evBody wrap wxor
def CZ (c : Ch) : Prop := BIn c.bank ∧ SIn c.st ∧ c.past.length ≤ 90 ∧ (∀ k, k < c.past.length → SIn (c.past.getD k zSt)) ∧ c.knows.length ≤ 100
theorem cz_of {c : Ch} (h : CIn c) (hk : c.knows.length ≤ 99) : CZ c := ⟨h.1, h.2.1, h.2.2.1, h.2.2.2.1, by omega⟩
theorem cz_mk {c : Ch} {i : Int} {b : Bk} {s : St} {k : List Int} (h : CIn c) (hb : BIn b) (hs : SIn s) (hk : k.length ≤ 100) : CZ ⟨i, b, s, c.past, k⟩ := ⟨hb, hs, h.2.2.1, h.2.2.2.1, hk⟩
theorem ck_lt {c : Ch} {k : List Int} (h : CZ c) (hk : k.length ≤ 1000000) : Ch.lt ⟨c.id, c.bank, c.st, c.past, k⟩ := by
  obtain ⟨⟨b1, b2, b3⟩, s, k1, k2, _⟩ := h
  refine ⟨⟨by show c.bank.own.length ≤ _; omega, by show c.bank.notes.length ≤ _; omega, b3⟩, sin_lt s, ⟨by show c.past.length ≤ _; omega, fun k => ?_⟩, hk⟩
  show (c.past.getD k zSt).lt
  rcases Nat.lt_or_ge k c.past.length with h | h
  · exact sin_lt (k2 k h)
  · rw [getD_ge h]
    exact ⟨by decide, by decide, by decide, by decide⟩
theorem cz_lt {c : Ch} (h : CZ c) : c.lt := ck_lt h (by have := h.2.2.2.2; omega)

theorem ZbG.G : GG [ZaH.c, Zd.c] := (consG ZaH.good (consG Zd.good noG))
def ZbH.L : FL := fCons (fC (cPtr 1 (cCons (cArrE true kU8s) (cCons cInt (cNil))) rfl)) (fCons (fC (cPtr 1 (cCons cNilS (cNil)) rfl)) (fCons (fC (cPtr 1 (cCons (cRow 2 13 42 (cApp cChO cChO) rfl) (cNil)) rfl)) (fCons (fC cInt) (fNil))))
def ZbH : (List Int × Int × Unit) × (Unit × Unit) × (((Ch) × Ch) × Unit) × Int × Unit → LR ((List Int × Int × Unit) × (Unit × Unit) × (((Ch) × Ch) × Unit) × Int × Unit) (Nat × Int × Ch × Ch × Nat × Unit) := fun ((y0, y1, ()), ((), ()), ((y2, y3), ()), y4, ()) => ⟨(BY y0) ∧ (0 ≤ y1) ∧ (y1 ≤ 800000000000) ∧ (CIn y2) ∧ (CIn y3) ∧ (y2.knows.length ≤ 60) ∧ (y3.knows.length ≤ 60) ∧ (0 ≤ y4) ∧ (y4 ≤ 1) ∧ True, 0, fun X => Call Zd.X ((y0, y1, ()), 40, ()) fun x3 => And (Imp ((x3.1 == 0) = true) (Or (And ((Zd ((y0, x3.2, ()), 4, ())).P) (Lt ((Zd.S ((y0, x3.2, ()), 4, ()))) fun x4 => And (y4 = (0 : Int)) (X (.inr (0, x4.2, (⟨x4.1, y2.bank, y2.st, y2.past, y2.knows⟩ : Ch), y3, 0, ()))))) (And ((Zd ((y0, x3.2, ()), 4, ())).P) (Lt ((Zd.S ((y0, x3.2, ()), 4, ()))) fun x5 => And (y4 = (1 : Int)) (X (.inr (0, x5.2, y2, (⟨x5.1, y3.bank, y3.st, y3.past, y3.knows⟩ : Ch), 0, ()))))))) (Imp ((x3.1 == 0) = false) (And (Imp ((x3.1 == 1) = true) (Or (And (y4 = (0 : Int)) (And ((Zd ((y0, x3.2, ()), 95, ())).P) (Lt ((Zd.S ((y0, x3.2, ()), 95, ()))) fun x6 => And ((y2.knows ++ ([x6.1])).length ≤ 4294967296) (And (y4 = (0 : Int)) (X (.inr (0, x6.2, (⟨y2.id, y2.bank, y2.st, y2.past, (y2.knows ++ ([x6.1]))⟩ : Ch), y3, 0, ()))))))) (And (y4 = (1 : Int)) (And ((Zd ((y0, x3.2, ()), 95, ())).P) (Lt ((Zd.S ((y0, x3.2, ()), 95, ()))) fun x7 => And ((y3.knows ++ ([x7.1])).length ≤ 4294967296) (And (y4 = (1 : Int)) (X (.inr (0, x7.2, y2, (⟨y3.id, y3.bank, y3.st, y3.past, (y3.knows ++ ([x7.1]))⟩ : Ch), 0, ()))))))))) (Imp ((x3.1 == 1) = false) (And (Imp ((x3.1 == 2) = true) (Or (And ((Zd ((y0, x3.2, ()), 3, ())).P) (Lt ((Zd.S ((y0, x3.2, ()), 3, ()))) fun x8 => And (y4 = (0 : Int)) (X (.inr (0, x8.2, (⟨y2.id, y2.bank, (⟨y2.st.way, y2.st.ver, x8.1, y2.st.sent, y2.st.live, y2.st.back, y2.st.got⟩ : St), y2.past, y2.knows⟩ : Ch), y3, 0, ()))))) (And ((Zd ((y0, x3.2, ()), 3, ())).P) (Lt ((Zd.S ((y0, x3.2, ()), 3, ()))) fun x9 => And (y4 = (1 : Int)) (X (.inr (0, x9.2, y2, (⟨y3.id, y3.bank, (⟨y3.st.way, y3.st.ver, x9.1, y3.st.sent, y3.st.live, y3.st.back, y3.st.got⟩ : St), y3.past, y3.knows⟩ : Ch), 0, ()))))))) (Imp ((x3.1 == 2) = false) (And (Imp ((x3.1 == 3) = true) (Or (And (y4 = (0 : Int)) (And (y4 = (0 : Int)) (X (.inr (0, x3.2, (⟨y2.id, (⟨y2.bank.own, y2.bank.notes, wrap (y2.bank.locked + 1)⟩ : Bk), y2.st, y2.past, y2.knows⟩ : Ch), y3, 0, ()))))) (And (y4 = (1 : Int)) (And (y4 = (1 : Int)) (X (.inr (0, x3.2, y2, (⟨y3.id, (⟨y3.bank.own, y3.bank.notes, wrap (y3.bank.locked + 1)⟩ : Bk), y3.st, y3.past, y3.knows⟩ : Ch), 0, ()))))))) (Imp ((x3.1 == 3) = false) (And (Imp ((x3.1 == 4) = true) (And ((0 : Int) ≤ 1 ∧ 1 < (2 : Int)) (X (.inr (1, x3.2, zCh, zCh, 1, ()))))) (Imp ((x3.1 == 4) = false) (X (.inr (0, x3.2, y2, y3, 0, ())))))))))))), fun r => (y1 ≤ r.2.1 ∧ r.2.1 ≤ y1 + 5) ∧ (r.1 = 0 → CZ r.2.2.1 ∧ CZ r.2.2.2.1) ∧ (¬ r.1 = 0 → r.2.2.2.2.1 ≤ 1) ∧ True, fun r => [(Nat.beq r.1 0, (.ret, [.c (.ptr 0 0), .c (.ptr 1 0)], [.raw 1 [.arr true (.u8s y0), .int r.2.1], .raw 1 [.own 2 13 42], .raw 2 [.int r.2.2.1.id, .own 3 1 3, .own 4 1 3, .int r.2.2.1.bank.locked, .int r.2.2.1.st.way, .int r.2.2.1.st.ver, .int r.2.2.1.st.want, .own 5 7 71, .own 6 1 4, .own 7 1 4, .own 8 1 3, .own 9 7 39, .own 10 1 3, .int r.2.2.2.1.id, .own 11 1 3, .own 12 1 3, .int r.2.2.2.1.bank.locked, .int r.2.2.2.1.st.way, .int r.2.2.2.1.st.ver, .int r.2.2.2.1.st.want, .own 13 7 71, .own 14 1 4, .own 15 1 4, .own 16 1 3, .own 17 7 39, .own 18 1 3], .arr (.ints r.2.2.1.bank.own), .arr (.ints r.2.2.1.bank.notes), .arr (.pkts r.2.2.1.st.sent), .arr (.bools r.2.2.1.st.live), .arr (.bools r.2.2.1.st.back), .arr (.ints r.2.2.1.st.got), .arr (.sts r.2.2.1.past), .arr (.ints r.2.2.1.knows), .arr (.ints r.2.2.2.1.bank.own), .arr (.ints r.2.2.2.1.bank.notes), .arr (.pkts r.2.2.2.1.st.sent), .arr (.bools r.2.2.2.1.st.live), .arr (.bools r.2.2.2.1.st.back), .arr (.ints r.2.2.2.1.st.got), .arr (.sts r.2.2.2.1.past), .arr (.ints r.2.2.2.1.knows)]))], fun r => (.ret, [.c (.ptr 0 0), .c (.ptr 1 0)], [.raw 1 [.arr true (.u8s y0), .int r.2.1], .raw 1 [.tail 2 13 42 r.2.2.2.2.1], .raw 2 [.int y2.id, .own 3 1 3, .own 4 1 3, .int y2.bank.locked, .int y2.st.way, .int y2.st.ver, .int y2.st.want, .own 5 7 71, .own 6 1 4, .own 7 1 4, .own 8 1 3, .own 9 7 39, .own 10 1 3, .int y3.id, .own 11 1 3, .own 12 1 3, .int y3.bank.locked, .int y3.st.way, .int y3.st.ver, .int y3.st.want, .own 13 7 71, .own 14 1 4, .own 15 1 4, .own 16 1 3, .own 17 7 39, .own 18 1 3], .arr (.ints y2.bank.own), .arr (.ints y2.bank.notes), .arr (.pkts y2.st.sent), .arr (.bools y2.st.live), .arr (.bools y2.st.back), .arr (.ints y2.st.got), .arr (.sts y2.past), .arr (.ints y2.knows), .arr (.ints y3.bank.own), .arr (.ints y3.bank.notes), .arr (.pkts y3.st.sent), .arr (.bools y3.st.live), .arr (.bools y3.st.back), .arr (.ints y3.st.got), .arr (.sts y3.past), .arr (.ints y3.knows)])⟩
theorem ZbH.X : XL ZbH := mkL (0, 0, zCh, zCh, 0, ()) fun ((y0, y1, ()), ((), ()), ((y2, y3), ()), y4, ()) hp => by
  obtain ⟨p0, p1, p2, p3, p4, p5, p6, p7, p8, -⟩ := hp
  obtain ⟨p3b, p3s, p3l, p3p, p3k, p3q⟩ := id p3
  obtain ⟨p3s1, p3s2, p3s3, p3s4, p3s5⟩ := id p3s
  obtain ⟨p4b, p4s, p4l, p4p, p4k, p4q⟩ := id p4
  obtain ⟨p4s1, p4s2, p4s3, p4s4, p4s5⟩ := id p4s
  unfold ML; dsimp only [ZbH]
  refine May.call ⟨?_, ?_, ?_, trivial⟩ fun x3 q3 => have q3_0 := q3.1; have q3_1 := q3.2.1; have q3_2 := q3.2.2.1; May.iff (B.eq) (fun h1 => ?_) (fun h1 => ?_); rotate_left 3
  refine May.alt (c := (y4 == 0)) (B.eq) (fun h2 => ?_) (fun h2 => ?_)
  refine May.chk ⟨?_, ?_, ?_, trivial⟩ fun c1 => May.clqe ⟨?_, ?_, ?_, trivial⟩ fun x4 e4 q4 => have q4_0 := q4.1; have q4_1 := q4.2.1; have q4_2 := q4.2.2.1; May.chk ?_ fun c2 => May.ex ⟨?_, ?_, ?_, trivial⟩; rotate_left 10
  refine May.chk ⟨?_, ?_, ?_, trivial⟩ fun c3 => May.clqe ⟨?_, ?_, ?_, trivial⟩ fun x5 e5 q5 => have q5_0 := q5.1; have q5_1 := q5.2.1; have q5_2 := q5.2.2.1; May.chk ?_ fun c4 => May.ex ⟨?_, ?_, ?_, trivial⟩; rotate_left 10
  refine May.iff (B.eq) (fun h2 => ?_) (fun h2 => ?_)
  refine May.alt (c := (y4 == 0) && (y4 == 0)) (B.amp (B.eq) (B.eq)) (fun h3 => ?_) (fun h3 => ?_)
  refine May.chk ?_ fun c5 => May.chk ⟨?_, ?_, ?_, trivial⟩ fun c6 => May.clqe ⟨?_, ?_, ?_, trivial⟩ fun x6 e6 q6 => have q6_0 := q6.1; have q6_1 := q6.2.1; have q6_2 := q6.2.2.1; May.chk ?_ fun c7 => May.chk ?_ fun c8 => May.ex ⟨?_, ?_, ?_, trivial⟩; rotate_left 12
  refine May.chk ?_ fun c9 => May.chk ⟨?_, ?_, ?_, trivial⟩ fun c10 => May.clqe ⟨?_, ?_, ?_, trivial⟩ fun x7 e7 q7 => have q7_0 := q7.1; have q7_1 := q7.2.1; have q7_2 := q7.2.2.1; May.chk ?_ fun c11 => May.chk ?_ fun c12 => May.ex ⟨?_, ?_, ?_, trivial⟩; rotate_left 12
  refine May.iff (B.eq) (fun h3 => ?_) (fun h3 => ?_)
  refine May.alt (c := (y4 == 0)) (B.eq) (fun h4 => ?_) (fun h4 => ?_)
  refine May.chk ⟨?_, ?_, ?_, trivial⟩ fun c13 => May.clqe ⟨?_, ?_, ?_, trivial⟩ fun x8 e8 q8 => have q8_0 := q8.1; have q8_1 := q8.2.1; have q8_2 := q8.2.2.1; May.chk ?_ fun c14 => May.ex ⟨?_, ?_, ?_, trivial⟩; rotate_left 10
  refine May.chk ⟨?_, ?_, ?_, trivial⟩ fun c15 => May.clqe ⟨?_, ?_, ?_, trivial⟩ fun x9 e9 q9 => have q9_0 := q9.1; have q9_1 := q9.2.1; have q9_2 := q9.2.2.1; May.chk ?_ fun c16 => May.ex ⟨?_, ?_, ?_, trivial⟩; rotate_left 10
  refine May.iff (B.eq) (fun h4 => ?_) (fun h4 => ?_)
  refine May.alt (c := (y4 == 0) && (y4 == 0)) (B.amp (B.eq) (B.eq)) (fun h5 => ?_) (fun h5 => ?_)
  refine May.chk ?_ fun c17 => May.chk ?_ fun c18 => May.ex ⟨?_, ?_, ?_, trivial⟩; rotate_left 5
  refine May.chk ?_ fun c19 => May.chk ?_ fun c20 => May.ex ⟨?_, ?_, ?_, trivial⟩; rotate_left 5
  refine May.iff (B.eq) (fun h5 => ?_) (fun h5 => ?_)
  refine May.chk ?_ fun c21 => May.ex ⟨?_, ?_, ?_, trivial⟩; rotate_left 4
  refine May.ex ⟨?_, ?_, ?_, trivial⟩
  all_goals try dsimp only
  all_goals first | with_reducible assumption | omega | (exact cz_of q1_0 (by omega); done) | (exact cz_of q1_1 (by omega); done) | (exact (q10_1 h1).1; done) | (exact (q10_1 h1).2; done) | (exact q10_2 h1; done) | (exact fun _ => ⟨cz_mk p3 (by first | exact p3b | exact ⟨p3b.1, p3b.2.1, wrap_inI _⟩) (by first | exact p3s | exact sin_set p3s rfl rfl rfl) (by first | omega | (simp only [List.length_append, List.length_cons, List.length_nil]; omega)), cz_mk p4 (by first | exact p4b | exact ⟨p4b.1, p4b.2.1, wrap_inI _⟩) (by first | exact p4s | exact sin_set p4s rfl rfl rfl) (by first | omega | (simp only [List.length_append, List.length_cons, List.length_nil]; omega))⟩; done) | (intro h; omega; done) | (exact fun _ => Nat.le_refl 1; done) | rfl | assumption | (simp only [List.length_append, List.length_cons, List.length_nil, List.length_set, List.length_replicate, Int.natCast_add, Int.natCast_one] at *; omega) | grind
abbrev ZbH.R := Classical.choose ZbH.X
def ZbH.k : LCtr := (ld 3 [0, 2, 4, 5] [] ZbH.L ZbH 1 (fun _ => [0, 2]) (fun _ => []) ZbH.R).ctr
theorem ZbH.g : CGood Try.prog Try.f25.ntmps ZbH.k (cutAt (bodyOf Try.f25) 2) := mkCG {sp := [(5, [[(22, 0)], [(22, 1)]]), (7, [[(32, 0), (39, 0)], [(32, 1), (39, 1)]]), (9, [[(48, 0)], [(48, 1)]]), (11, [[(59, 0), (64, 0)], [(59, 1), (64, 1)]])]} ZbH.X ZbG.G (by kernel_rfl) (l0 (by kernel_rfl)) (c0 (by kernel_rfl)) fun S s => by kernel_rfl
def ZbG.L : FL := fCons (fC (cPtr 1 (cCons (cArrE true kU8s) (cCons cInt (cNil))) rfl)) (fNil)
def ZbG : (List Int × Int × Unit) × Unit → FR (Nat × Ch × Ch × Int) := fun ((a0, a1, ()), ()) => ⟨(BY a0) ∧ (0 ≤ a1) ∧ (a1 ≤ 790000000000) ∧ True, fun X => Call ZaH.X ((a0, a1, ()), ()) fun x1 => Call Zd.X ((a0, x1.2.2.2, ()), 2, ()) fun x2 => CallL ZbH.X ((a0, x2.2, ()), ((), ()), ((x1.2.1, x1.2.2.1), ()), x2.1, ()) fun x10 => And (Imp (Nat.beq x10.1 0 = true) (X (0, x10.2.2.1, x10.2.2.2.1, x10.2.1))) (Imp (Nat.beq x10.1 0 = false) (X (x10.2.2.2.2.1, x1.2.1, x1.2.2.1, x10.2.1))), fun r => (r.1 ≤ 1) ∧ (CZ r.2.1) ∧ (CZ r.2.2.1) ∧ (a1 ≤ r.2.2.2 ∧ r.2.2.2 ≤ a1 + 2010) ∧ True, fun r => (.v (.agg [.tail 1 13 42 r.1]), [.raw 1 [.arr true (.u8s a0), .int r.2.2.2], .raw 2 [.int r.2.1.id, .own 2 1 3, .own 3 1 3, .int r.2.1.bank.locked, .int r.2.1.st.way, .int r.2.1.st.ver, .int r.2.1.st.want, .own 4 7 71, .own 5 1 4, .own 6 1 4, .own 7 1 3, .own 8 7 39, .own 9 1 3, .int r.2.2.1.id, .own 10 1 3, .own 11 1 3, .int r.2.2.1.bank.locked, .int r.2.2.1.st.way, .int r.2.2.1.st.ver, .int r.2.2.1.st.want, .own 12 7 71, .own 13 1 4, .own 14 1 4, .own 15 1 3, .own 16 7 39, .own 17 1 3], .arr (.ints r.2.1.bank.own), .arr (.ints r.2.1.bank.notes), .arr (.pkts r.2.1.st.sent), .arr (.bools r.2.1.st.live), .arr (.bools r.2.1.st.back), .arr (.ints r.2.1.st.got), .arr (.sts r.2.1.past), .arr (.ints r.2.1.knows), .arr (.ints r.2.2.1.bank.own), .arr (.ints r.2.2.1.bank.notes), .arr (.pkts r.2.2.1.st.sent), .arr (.bools r.2.2.1.st.live), .arr (.bools r.2.2.1.st.back), .arr (.ints r.2.2.1.st.got), .arr (.sts r.2.2.1.past), .arr (.ints r.2.2.1.knows)])⟩
theorem ZbG.X : XF ZbG := mkF (0, zCh, zCh, 0) fun ((a0, a1, ()), ()) hp => by
  obtain ⟨p0, p1, p2, -⟩ := hp
  dsimp only [ZbG]
  refine May.call ⟨?_, ?_, ?_, trivial⟩ fun x1 q1 => have q1_0 := q1.1; have q1_1 := q1.2.1; have q1_2 := q1.2.2.1; have q1_3 := q1.2.2.2.1; have q1_4 := q1.2.2.2.2.1; have q1_5 := q1.2.2.2.2.2.1; May.call ⟨?_, ?_, ?_, trivial⟩ fun x2 q2 => have q2_0 := q2.1; have q2_1 := q2.2.1; have q2_2 := q2.2.2.1; May.loop ⟨?_, ?_, ?_, ?_, ?_, ?_, ?_, ?_, ?_, trivial⟩ fun x10 q10 => have q10_0 := q10.1; have q10_1 := q10.2.1; have q10_2 := q10.2.2.1; May.iff B.nbeq (fun h1 => ?_) (fun h1 => ?_); rotate_left 15
  refine May.ret ⟨?_, ?_, ?_, ?_, trivial⟩; rotate_left 4
  refine May.ret ⟨?_, ?_, ?_, ?_, trivial⟩
  all_goals try dsimp only
  all_goals first | with_reducible assumption | omega | (exact cz_of q1_0 (by omega); done) | (exact cz_of q1_1 (by omega); done) | (exact (q10_1 h1).1; done) | (exact (q10_1 h1).2; done) | (exact q10_2 h1; done) | rfl | assumption | (simp only [List.length_append, List.length_cons, List.length_nil, List.length_set, List.length_replicate, Int.natCast_add, Int.natCast_one] at *; omega) | grind
abbrev ZbG.S := Classical.choose ZbG.X
def ZbG.c : Ctr := fc 25 [false] ZbG.L ZbG ZbG.S
theorem ZbG.good : Good Try.prog ZbG.c := mkFG (fn := Try.f25) {sp := [(5, [[(22, 0)], [(22, 1)]]), (7, [[(32, 0), (39, 0)], [(32, 1), (39, 1)]]), (9, [[(48, 0)], [(48, 1)]]), (11, [[(59, 0), (64, 0)], [(59, 1), (64, 1)]])], ct := [ZbH.k], sh := [[some (.ws, 42)]]} ZbG.X ZbG.G (by kernel_rfl) (by kernel_rfl) (l0 (by kernel_rfl)) (consC' (bs := [cutAt (bodyOf Try.f25) 2]) (by kernel_rfl) (addC (l := ZbH.k) (by kernel_rfl) ZbH.g noC)) fun s K => by kernel_rfl
end
end Hw
end Go.Proofs.Ytjcacgainbjopaa
