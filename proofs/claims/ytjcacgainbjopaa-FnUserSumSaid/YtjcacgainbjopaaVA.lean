/- Draws of sums: made by gen.py. -/
import Derived.Test.YtjcacgainbjopaaE13
import Derived.Test.YtjcacgainbjopaaUA
set_option linter.unusedVariables false
set_option linter.unusedSimpArgs false
set_option maxRecDepth 100000
set_option maxHeartbeats 400000
namespace Go.Proofs.Ytjcacgainbjopaa
namespace Hw
open Go
noncomputable section
attribute [local irreducible] evFn evBody wrap wxor
theorem drop_len {c d : Ch} {n : Nat} : (List.drop n [c, d]).length ≤ 2 := by
  rw [List.length_drop]
  exact Nat.sub_le _ _
theorem zch_lt' : zCh.lt := ⟨⟨by decide, by decide, by decide, by decide⟩, zst_lt', ⟨by decide, fun k => by rw [getD_ge (Nat.zero_le k)]; exact zst_lt'⟩, by decide⟩
theorem two_get {c d : Ch} (hc : c.lt) (hd : d.lt) (k : Nat) : (([c, d] : List Ch).getD k zCh).lt := by
  match k with
  | 0 => exact hc
  | 1 => exact hd
  | k + 2 =>
    rw [getD_ge (by simp)]
    exact zch_lt'
theorem drop_lt {c d : Ch} {n : Nat} (hc : c.lt) (hd : d.lt) : ∀ k, ((List.drop n [c, d]).getD k zCh).lt := fun k => by
  rw [List.getD_eq_getElem?_getD, List.getElem?_drop, ← List.getD_eq_getElem?_getD]
  exact two_get hc hd (n + k)
theorem drop_ok' {c d : Ch} {n : Nat} (h : WOk (List.drop n [c, d])) : n = 0 := by
  have h1 := h.1
  rw [List.length_drop] at h1
  simp at h1
  omega
theorem drop_in {c d : Ch} {n : Nat} (hc : c.lt) (hd : d.lt) : chsFact (List.drop n [c, d]) ∧ chsRng (List.drop n [c, d]) := chs_lt drop_len (drop_lt hc hd)

theorem Zd7.G : GG [Ze.c, ZbG.c, Zd.c, Zde.c] := (consG Ze.good (consG ZbG.good (consG Zd.good (consG Zde.good noG))))
def Zd8.L : FL := fCons (fC (cPtr 1 (cCons cNilS (cNil)) rfl)) (fCons (fC cInt) (fCons (fC cInt) (fCons (fC (cPtr 1 (cCons (cArrE true kU8s) (cCons cInt (cNil))) rfl)) (fCons (fC (cPtr 1 (cCons (cTail 2 13 42 (cApp cChO cChO) rfl) (cNil)) rfl)) (fCons (fC cInt) (fNil))))))
def Zd8 : (Unit × Unit) × Int × Int × (List Int × Int × Unit) × (((Nat) × (Ch) × Ch) × Unit) × Int × Unit → LR ((Unit × Unit) × Int × Int × (List Int × Int × Unit) × (((Nat) × (Ch) × Ch) × Unit) × Int × Unit) (Nat × Nat × Ch × Ch × Int × Int × Unit) := fun (((), ()), y0, y1, (y2, y3, ()), ((y4, (y5, y6)), ()), y7, ()) => ⟨(BY y2) ∧ (0 ≤ y3) ∧ (y3 + 3000 * (6 - y7) ≤ 700000000000) ∧ (y5.lt) ∧ (y6.lt) ∧ (y7 ≤ 6) ∧ True, (6 - y7).toNat, fun X => And (Imp (And ((decide (y7 < 6)) = true) (True)) (And ((Zd ((y2, y3, ()), 8, ())).P) (y2 = y2))) (Lt ((Zd.S ((y2, y3, ()), 8, ()))) fun x3 => Lt (bif decide (y7 < 6) then x3.2 else y3) fun x4 => Lt (bif decide (y7 < 6) then decide (x3.1 > 0) else false) fun x5 => And (Imp (x5 = true) (Call Zd.X ((y2, x4, ()), 2, ()) fun x6 => Lt (wrap (1 + x6.1)) fun x7 => Call Zd.X ((y2, x6.2, ()), 2, ()) fun x8 => Lt (wrap (1 + x8.1)) fun x9 => Call Zde.X (([y5, y6].drop y4), x7, x9, ()) fun x10 => And (Imp ((decide (x10 > 0)) = true) (X (.inr (0, y4, y5, y6, x7, x9, ())))) (Imp ((decide (x10 > 0)) = false) (Call ZbG.X ((y2, x8.2, ()), ()) fun x11 => Lt (wrap (y7 + 1)) fun x12 => X (.inl (((), ()), y0, y1, (y2, x11.2.2.2, ()), ((x11.1, (x11.2.1, x11.2.2.1)), ()), x12, ())))))) (Imp (x5 = false) (X (.inr (1, y4, y5, y6, x4, 0, ()))))), fun r => (r.2.2.1.lt ∧ r.2.2.2.1.lt) ∧ (¬ r.1 = 0 → 0 ≤ r.2.2.2.2.1 ∧ r.2.2.2.2.1 ≤ 700000000000) ∧ (r.1 = 0 → 1 ≤ r.2.2.2.2.1 ∧ 1 ≤ r.2.2.2.2.2.1) ∧ True, fun r => [(Nat.beq r.1 0, (.ret, [.c (.ptr 0 0), .c (.int r.2.2.2.2.1), .c (.int r.2.2.2.2.2.1)], [.raw 1 [.tail 1 13 42 r.2.1], .raw 2 [.int r.2.2.1.id, .own 2 1 3, .own 3 1 3, .int r.2.2.1.bank.locked, .int r.2.2.1.st.way, .int r.2.2.1.st.ver, .int r.2.2.1.st.want, .own 4 7 71, .own 5 1 4, .own 6 1 4, .own 7 1 3, .own 8 7 39, .own 9 1 3, .int r.2.2.2.1.id, .own 10 1 3, .own 11 1 3, .int r.2.2.2.1.bank.locked, .int r.2.2.2.1.st.way, .int r.2.2.2.1.st.ver, .int r.2.2.2.1.st.want, .own 12 7 71, .own 13 1 4, .own 14 1 4, .own 15 1 3, .own 16 7 39, .own 17 1 3], .arr (.ints r.2.2.1.bank.own), .arr (.ints r.2.2.1.bank.notes), .arr (.pkts r.2.2.1.st.sent), .arr (.bools r.2.2.1.st.live), .arr (.bools r.2.2.1.st.back), .arr (.ints r.2.2.1.st.got), .arr (.sts r.2.2.1.past), .arr (.ints r.2.2.1.knows), .arr (.ints r.2.2.2.1.bank.own), .arr (.ints r.2.2.2.1.bank.notes), .arr (.pkts r.2.2.2.1.st.sent), .arr (.bools r.2.2.2.1.st.live), .arr (.bools r.2.2.2.1.st.back), .arr (.ints r.2.2.2.1.st.got), .arr (.sts r.2.2.2.1.past), .arr (.ints r.2.2.2.1.knows)]))], fun r => (.exit 0, [.c (.ptr 0 0), .c (.ptr 1 0), .c (.ptr 2 0)], [.raw 1 [.nilS], .raw 1 [.arr true (.u8s y2), .int r.2.2.2.2.1], .raw 1 [.tail 3 13 42 r.2.1], .raw 2 [.int r.2.2.1.id, .own 4 1 3, .own 5 1 3, .int r.2.2.1.bank.locked, .int r.2.2.1.st.way, .int r.2.2.1.st.ver, .int r.2.2.1.st.want, .own 6 7 71, .own 7 1 4, .own 8 1 4, .own 9 1 3, .own 10 7 39, .own 11 1 3, .int r.2.2.2.1.id, .own 12 1 3, .own 13 1 3, .int r.2.2.2.1.bank.locked, .int r.2.2.2.1.st.way, .int r.2.2.2.1.st.ver, .int r.2.2.2.1.st.want, .own 14 7 71, .own 15 1 4, .own 16 1 4, .own 17 1 3, .own 18 7 39, .own 19 1 3], .arr (.ints r.2.2.1.bank.own), .arr (.ints r.2.2.1.bank.notes), .arr (.pkts r.2.2.1.st.sent), .arr (.bools r.2.2.1.st.live), .arr (.bools r.2.2.1.st.back), .arr (.ints r.2.2.1.st.got), .arr (.sts r.2.2.1.past), .arr (.ints r.2.2.1.knows), .arr (.ints r.2.2.2.1.bank.own), .arr (.ints r.2.2.2.1.bank.notes), .arr (.pkts r.2.2.2.1.st.sent), .arr (.bools r.2.2.2.1.st.live), .arr (.bools r.2.2.2.1.st.back), .arr (.ints r.2.2.2.1.st.got), .arr (.sts r.2.2.2.1.past), .arr (.ints r.2.2.2.1.knows)])⟩
theorem Zd8.X : XL Zd8 := mkL (0, 0, zCh, zCh, 0, 0, ()) fun (((), ()), y0, y1, (y2, y3, ()), ((y4, (y5, y6)), ()), y7, ()) hp => by
  obtain ⟨p0, p1, p2, p3, p4, p5, -⟩ := hp
  unfold ML; dsimp only [Zd8]
  refine May.chk (fun hπ => have g1 := Iff.mp (B.dec) hπ.1; ⟨⟨?_, ?_, ?_, trivial⟩, rfl⟩) fun c1 => May.clq ⟨?_, ?_, ?_, trivial⟩ fun x3 q3 => have q3_0 := q3.1; have q3_1 := q3.2.1; have q3_2 := q3.2.2.1; May.lb (B.dec) fun x4 e4 => May.lp (B.and (B.dec) (B.dec)) fun x5 e5 => May.iff (e5) (fun h1 => ?_) (fun h1 => ?_); rotate_left 6
  refine May.call ⟨?_, ?_, ?_, trivial⟩ fun x6 q6 => have q6_0 := q6.1; have q6_1 := q6.2.1; have q6_2 := q6.2.2.1; May.lw ⟨?_, ?_⟩ fun x7 e7 => May.call ⟨?_, ?_, ?_, trivial⟩ fun x8 q8 => have q8_0 := q8.1; have q8_1 := q8.2.1; have q8_2 := q8.2.2.1; May.lw ⟨?_, ?_⟩ fun x9 e9 => May.call ⟨?_, ?_, trivial⟩ fun x10 q10 => have q10 := q10.1; May.iff (B.dec) (fun h2 => ?_) (fun h2 => ?_); rotate_left 12
  refine May.ex ⟨?_, ?_, ?_, trivial⟩; rotate_left 3
  refine May.call ⟨?_, ?_, ?_, trivial⟩ fun x11 q11 => have q11_0 := q11.1; have q11_1 := q11.2.1; have q11_2 := q11.2.2.1; have q11_3 := q11.2.2.2.1; May.lw ⟨?_, ?_⟩ fun x12 e12 => May.nx ⟨?_, ?_, ?_, ?_, ?_, ?_, trivial⟩ ?_ ?_ fun r => rfl; rotate_left 13
  refine May.ex ⟨?_, ?_, ?_, trivial⟩
  all_goals try dsimp only [Zd8]
  all_goals first | with_reducible assumption | omega | exact fun _ q => q | (exact cz_lt q2_1; done) | (exact cz_lt q2_2; done) | (exact (drop_in (q13_0.1) (q13_0.2)).1; done) | (exact (drop_in (q13_0.1) (q13_0.2)).2; done) | ((have := q13_1 h1; omega); done) | (exact (q13_2 h1).1; done) | (exact (q13_2 h1).2; done) | (exact fun _ => ⟨by omega, by omega⟩; done) | (exact (drop_in p3 p4).1; done) | (exact (drop_in p3 p4).2; done) | (exact ⟨p3, p4⟩; done) | (exact fun h => absurd rfl h; done) | (exact cz_lt q11_1; done) | (exact cz_lt q11_2; done) | rfl | assumption | (simp only [List.length_append, List.length_cons, List.length_nil, List.length_set, List.length_replicate, Int.natCast_add, Int.natCast_one] at *; omega) | grind
abbrev Zd8.R := Classical.choose Zd8.X
def Zd8.k : LCtr := (ld 4 [2, 3, 4, 5, 6, 7] [] Zd8.L Zd8 0 (fun e => match e with | .ret => [2, 3, 4] | _ => [2, 5, 6]) (fun _ => []) Zd8.R).ctr
theorem Zd8.g : LGood Try.prog Try.f21.ntmps Zd8.k (bodyAt Try.f21 0) := mkLG {} Zd8.X Zd7.G (by kernel_rfl) (l0 (by kernel_rfl)) (c0 (by kernel_rfl)) fun S s => by kernel_rfl
def Zd7.L : FL := fCons (fC (cArr true kU8s)) (fNil)
def Zd7 : List Int × Unit → FR ((List Ch) × Int × Int) := fun (a0, ()) => ⟨(∀ k, 0 ≤ a0.getD k 0 ∧ a0.getD k 0 ≤ 255) ∧ True, fun X => Call Ze.X (a0, ()) fun x1 => Call ZbG.X ((x1, 0, ()), ()) fun x2 => CallL Zd8.X (((), ()), 0, 0, (x1, x2.2.2.2, ()), ((x2.1, (x2.2.1, x2.2.2.1)), ()), 0, ()) fun x13 => And (Imp (Nat.beq x13.1 0 = true) (X (([x13.2.2.1, x13.2.2.2.1].drop x13.2.1), x13.2.2.2.2.1, x13.2.2.2.2.2.1))) (Imp (Nat.beq x13.1 0 = false) (Call Zd.X ((x1, x13.2.2.2.2.1, ()), 3, ()) fun x14 => Lt (wrap (1 + x14.1)) fun x15 => Call Zd.X ((x1, x14.2, ()), 3, ()) fun x16 => Lt (wrap (1 + x16.1)) fun x17 => X (([x13.2.2.1, x13.2.2.2.1].drop x13.2.1), x15, x17))), fun r => (chsFact r.1) ∧ (chsRng r.1) ∧ (1 ≤ r.2.1) ∧ (1 ≤ r.2.2) ∧ True, fun r => (.tup [.agg [.arr true (.chs r.1)], .c (.int r.2.1), .c (.int r.2.2)], [])⟩
theorem Zd7.X : XF Zd7 := mkF ([], 0, 0) fun (a0, ()) hp => by
  obtain ⟨p0, -⟩ := hp
  dsimp only [Zd7]
  refine May.call ⟨?_, trivial⟩ fun x1 q1 => have q1 := q1.1; May.call ⟨?_, ?_, ?_, trivial⟩ fun x2 q2 => have q2_0 := q2.1; have q2_1 := q2.2.1; have q2_2 := q2.2.2.1; have q2_3 := q2.2.2.2.1; May.loop ⟨?_, ?_, ?_, ?_, ?_, ?_, trivial⟩ fun x13 q13 => have q13_0 := q13.1; have q13_1 := q13.2.1; have q13_2 := q13.2.2.1; May.iff B.nbeq (fun h1 => ?_) (fun h1 => ?_); rotate_left 10
  refine May.ret ⟨?_, ?_, ?_, ?_, trivial⟩; rotate_left 4
  refine May.call ⟨?_, ?_, ?_, trivial⟩ fun x14 q14 => have q14_0 := q14.1; have q14_1 := q14.2.1; have q14_2 := q14.2.2.1; May.lw ⟨?_, ?_⟩ fun x15 e15 => May.call ⟨?_, ?_, ?_, trivial⟩ fun x16 q16 => have q16_0 := q16.1; have q16_1 := q16.2.1; have q16_2 := q16.2.2.1; May.lw ⟨?_, ?_⟩ fun x17 e17 => May.ret ⟨?_, ?_, ?_, ?_, trivial⟩
  all_goals try dsimp only
  all_goals first | with_reducible assumption | omega | (exact cz_lt q2_1; done) | (exact cz_lt q2_2; done) | (exact (drop_in (q13_0.1) (q13_0.2)).1; done) | (exact (drop_in (q13_0.1) (q13_0.2)).2; done) | ((have := q13_1 h1; omega); done) | (exact (q13_2 h1).1; done) | (exact (q13_2 h1).2; done) | rfl | assumption | (simp only [List.length_append, List.length_cons, List.length_nil, List.length_set, List.length_replicate, Int.natCast_add, Int.natCast_one] at *; omega) | grind
abbrev Zd7.S := Classical.choose Zd7.X
def Zd7.c : Ctr := fc 21 [false] Zd7.L Zd7 Zd7.S
theorem Zd7.good : Good Try.prog Zd7.c := mkFG (fn := Try.f21) {LL := [Zd8.k], sh := [[some (.ch, 42)], [], []], lst := true} Zd7.X Zd7.G (by kernel_rfl) (by kernel_rfl) (lG (by kernel_rfl) (consL (by kernel_rfl) Zd8.g (noL rfl))) (c0 (by kernel_rfl)) fun s K => by kernel_rfl
def Zd9.L : FL := fCons (fC (cArr true kU8s)) (fNil)
def Zd9 : List Int × Unit → FR ((List Ch) × Int) := fun (a0, ()) => ⟨(∀ k, 0 ≤ a0.getD k 0 ∧ a0.getD k 0 ≤ 255) ∧ True, fun X => Call Ze.X (a0, ()) fun x1 => Call ZbG.X ((x1, 0, ()), ()) fun x2 => Call Zd.X ((x1, x2.2.2.2, ()), 2, ()) fun x3 => Lt (wrap (1 + x3.1)) fun x4 => Call Zd.X ((x1, x3.2, ()), 24, ()) fun x5 => And ((23 : Int) ≠ 0) (Lt (wrap (x5.1.tdiv 23)) fun x6 => Lt (wrap (x4 + x6)) fun x7 => X (([x2.2.1, x2.2.2.1].drop x2.1), x7)), fun r => (chsFact r.1) ∧ (chsRng r.1) ∧ (1 ≤ r.2) ∧ True, fun r => (.tup [.agg [.arr true (.chs r.1)], .c (.int r.2)], [])⟩
theorem Zd9.X : XF Zd9 := mkF ([], 0) fun (a0, ()) hp => by
  obtain ⟨p0, -⟩ := hp
  dsimp only [Zd9]
  refine May.call ⟨?_, trivial⟩ fun x1 q1 => have q1 := q1.1; May.call ⟨?_, ?_, ?_, trivial⟩ fun x2 q2 => have q2_0 := q2.1; have q2_1 := q2.2.1; have q2_2 := q2.2.2.1; have q2_3 := q2.2.2.2.1; May.call ⟨?_, ?_, ?_, trivial⟩ fun x3 q3 => have q3_0 := q3.1; have q3_1 := q3.2.1; have q3_2 := q3.2.2.1; May.lw ⟨?_, ?_⟩ fun x4 e4 => May.call ⟨?_, ?_, ?_, trivial⟩ fun x5 q5 => have q5_0 := q5.1; have q5_1 := q5.2.1; have q5_2 := q5.2.2.1; May.chk ?_ fun c1 => May.ld ⟨?_, ?_, ?_⟩ fun x6 e6 => May.lw ⟨?_, ?_⟩ fun x7 e7 => May.ret ⟨?_, ?_, ?_, trivial⟩
  all_goals try dsimp only
  all_goals first | with_reducible assumption | omega | (exact (drop_in (cz_lt q2_1) (cz_lt q2_2)).1; done) | (exact (drop_in (cz_lt q2_1) (cz_lt q2_2)).2; done) | rfl | assumption | (simp only [List.length_append, List.length_cons, List.length_nil, List.length_set, List.length_replicate, Int.natCast_add, Int.natCast_one] at *; omega) | grind
abbrev Zd9.S := Classical.choose Zd9.X
def Zd9.c : Ctr := fc 18 [false] Zd9.L Zd9 Zd9.S
theorem Zd9.good : Good Try.prog Zd9.c := mkFG (fn := Try.f18) {sh := [[some (.ch, 42)], []], lst := true} Zd9.X (consG Ze.good (consG ZbG.good (consG Zd.good noG))) (by kernel_rfl) (by kernel_rfl) (l0 (by kernel_rfl)) (c0 (by kernel_rfl)) fun s K => by kernel_rfl
def Zea.L : FL := fCons (fC (cArr true kU8s)) (fNil)
def Zea : List Int × Unit → FR ((List Ch) × Int) := fun (a0, ()) => ⟨(∀ k, 0 ≤ a0.getD k 0 ∧ a0.getD k 0 ≤ 255) ∧ True, fun X => Call Ze.X (a0, ()) fun x1 => Call ZbG.X ((x1, 0, ()), ()) fun x2 => Call Zd.X ((x1, x2.2.2.2, ()), 3, ()) fun x3 => Lt (wrap (1 + x3.1)) fun x4 => Call Zd.X ((x1, x3.2, ()), 24, ()) fun x5 => And ((23 : Int) ≠ 0) (Lt (wrap (x5.1.tdiv 23)) fun x6 => Lt (wrap (x4 + x6)) fun x7 => X (([x2.2.1, x2.2.2.1].drop x2.1), x7)), fun r => (chsFact r.1) ∧ (chsRng r.1) ∧ True, fun r => (.tup [.agg [.arr true (.chs r.1)], .c (.int r.2)], [])⟩
theorem Zea.X : XF Zea := mkF ([], 0) fun (a0, ()) hp => by
  obtain ⟨p0, -⟩ := hp
  dsimp only [Zea]
  refine May.call ⟨?_, trivial⟩ fun x1 q1 => have q1 := q1.1; May.call ⟨?_, ?_, ?_, trivial⟩ fun x2 q2 => have q2_0 := q2.1; have q2_1 := q2.2.1; have q2_2 := q2.2.2.1; have q2_3 := q2.2.2.2.1; May.call ⟨?_, ?_, ?_, trivial⟩ fun x3 q3 => have q3_0 := q3.1; have q3_1 := q3.2.1; have q3_2 := q3.2.2.1; May.lw ⟨?_, ?_⟩ fun x4 e4 => May.call ⟨?_, ?_, ?_, trivial⟩ fun x5 q5 => have q5_0 := q5.1; have q5_1 := q5.2.1; have q5_2 := q5.2.2.1; May.chk ?_ fun c1 => May.ld ⟨?_, ?_, ?_⟩ fun x6 e6 => May.lw ⟨?_, ?_⟩ fun x7 e7 => May.ret ⟨?_, ?_, trivial⟩
  all_goals try dsimp only
  all_goals first | with_reducible assumption | omega | (exact (drop_in (cz_lt q2_1) (cz_lt q2_2)).1; done) | (exact (drop_in (cz_lt q2_1) (cz_lt q2_2)).2; done) | rfl | assumption | (simp only [List.length_append, List.length_cons, List.length_nil, List.length_set, List.length_replicate, Int.natCast_add, Int.natCast_one] at *; omega) | grind
abbrev Zea.S := Classical.choose Zea.X
def Zea.c : Ctr := fc 7 [false] Zea.L Zea Zea.S
theorem Zea.good : Good Try.prog Zea.c := mkFG (fn := Try.f7) {sh := [[some (.ch, 42)], []], lst := true} Zea.X (consG Ze.good (consG ZbG.good (consG Zd.good noG))) (by kernel_rfl) (by kernel_rfl) (l0 (by kernel_rfl)) (c0 (by kernel_rfl)) fun s K => by kernel_rfl
def Zeb.L : FL := fCons (fC (cArr true kU8s)) (fNil)
def Zeb : List Int × Unit → FR ((List Ch)) := fun (a0, ()) => ⟨(∀ k, 0 ≤ a0.getD k 0 ∧ a0.getD k 0 ≤ 255) ∧ True, fun X => Call Ze.X (a0, ()) fun x1 => Call ZbG.X ((x1, 0, ()), ()) fun x2 => X ([x2.2.1, x2.2.2.1].drop x2.1), fun r => (chsFact r) ∧ (chsRng r) ∧ True, fun r => (.v (.agg [.arr true (.chs r)]), [])⟩
theorem Zeb.X : XF Zeb := mkF ([]) fun (a0, ()) hp => by
  obtain ⟨p0, -⟩ := hp
  dsimp only [Zeb]
  refine May.call ⟨?_, trivial⟩ fun x1 q1 => have q1 := q1.1; May.call ⟨?_, ?_, ?_, trivial⟩ fun x2 q2 => have q2_0 := q2.1; have q2_1 := q2.2.1; have q2_2 := q2.2.2.1; have q2_3 := q2.2.2.2.1; May.ret ⟨?_, ?_, trivial⟩
  all_goals try dsimp only
  all_goals first | with_reducible assumption | omega | (exact (drop_in (cz_lt q2_1) (cz_lt q2_2)).1; done) | (exact (drop_in (cz_lt q2_1) (cz_lt q2_2)).2; done) | rfl | assumption | (simp only [List.length_append, List.length_cons, List.length_nil, List.length_set, List.length_replicate, Int.natCast_add, Int.natCast_one] at *; omega) | grind
abbrev Zeb.S := Classical.choose Zeb.X
def Zeb.c : Ctr := fc 13 [false] Zeb.L Zeb Zeb.S
theorem Zeb.good : Good Try.prog Zeb.c := mkFG (fn := Try.f13) {sh := [[some (.ch, 42)]], lst := true} Zeb.X (consG Ze.good (consG ZbG.good noG)) (by kernel_rfl) (by kernel_rfl) (l0 (by kernel_rfl)) (c0 (by kernel_rfl)) fun s K => by kernel_rfl
end
end Hw
end Go.Proofs.Ytjcacgainbjopaa
