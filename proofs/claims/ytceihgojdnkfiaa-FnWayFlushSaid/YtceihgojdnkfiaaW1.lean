/- Steps of a way, 2: made by gen.py. -/
import Derived.Test.YtceihgojdnkfiaaW0
set_option linter.unusedVariables false
set_option linter.unusedSimpArgs false
set_option maxRecDepth 100000
set_option maxHeartbeats 400000
namespace Go.Proofs.Ytceihgojdnkfiaa
namespace Hw
open Go
noncomputable section
attribute [local irreducible] evFn evBody wrap wxor
theorem Za2.G : GG [ZaR.c, ZaS.c, ZaT.c, ZaU.c, ZaV.c, ZaW.c, ZaX.c, ZO.c, ZaY.c] := (consG ZaR.good (consG ZaS.good (consG ZaT.good (consG ZaU.good (consG ZaV.good (consG ZaW.good (consG ZaX.good (consG ZO.good (consG ZaY.good noG)))))))))
def Za3.L : FL := fCons (fC (cPtr 1 (cStE false) rfl)) (fCons (fC (cPtr 1 (cStE false) rfl)) (fCons (fC (cOwn kInts 3)) (fCons (fC (cOwn kWss 103)) (fCons (fC cInt) (fCons (fC cInt) (fNil))))))
def Za3 : St × St × List Int × List Ws × Int × Int × Unit → LR (St × St × List Int × List Ws × Int × Int × Unit) (Nat × (List Int) × Unit) := fun (y0, y1, y2, y3, y4, y5, ()) => ⟨(0 ≤ y5) ∧ (y4 ≤ 9223372036854775807) ∧ (y4 = (y3.length : Int)) ∧ (y3 = steps) ∧ (y4 = 7) ∧ (y5 ≤ 7) ∧ (StOk y0 ∧ StOk y1) ∧ (y2 = mays y0 y1 y5.toNat) ∧ True, (y4 - y5).toNat, fun X => And (Imp ((decide (y5 < y4)) = true) (And ((0 : Int) ≤ y5 ∧ y5 < (y3.length : Int)) (And ((y5).toNat < y3.length) (Or (And ((y3.getD (y5).toNat zWs).may = some 106) (And (Imp ((y0.way == 0) = true) (And ((y2 ++ ([(y3.getD (y5).toNat zWs).step])).length ≤ 4294967296) (Lt (wrap (y5 + 1)) fun x3 => X (.inl (y0, y1, (y2 ++ ([(y3.getD (y5).toNat zWs).step])), y3, y4, x3, ()))))) (Imp ((y0.way == 0) = false) (Lt (wrap (y5 + 1)) fun x4 => X (.inl (y0, y1, y2, y3, y4, x4, ())))))) (Or (And ((y3.getD (y5).toNat zWs).may = some 108) (Lt ((ZaS.S (y0, y1, ()))) fun x5 => And (Imp (x5 = true) (And ((y2 ++ ([(y3.getD (y5).toNat zWs).step])).length ≤ 4294967296) (Lt (wrap (y5 + 1)) fun x6 => X (.inl (y0, y1, (y2 ++ ([(y3.getD (y5).toNat zWs).step])), y3, y4, x6, ()))))) (Imp (x5 = false) (Lt (wrap (y5 + 1)) fun x7 => X (.inl (y0, y1, y2, y3, y4, x7, ())))))) (Or (And ((y3.getD (y5).toNat zWs).may = some 110) (Lt ((ZaT.S (y0, y1, ()))) fun x8 => And (Imp (x8 = true) (And ((y2 ++ ([(y3.getD (y5).toNat zWs).step])).length ≤ 4294967296) (Lt (wrap (y5 + 1)) fun x9 => X (.inl (y0, y1, (y2 ++ ([(y3.getD (y5).toNat zWs).step])), y3, y4, x9, ()))))) (Imp (x8 = false) (Lt (wrap (y5 + 1)) fun x10 => X (.inl (y0, y1, y2, y3, y4, x10, ())))))) (Or (And ((y3.getD (y5).toNat zWs).may = some 112) (Lt ((ZaU.S (y0, y1, ()))) fun x11 => And (Imp (x11 = true) (And ((y2 ++ ([(y3.getD (y5).toNat zWs).step])).length ≤ 4294967296) (Lt (wrap (y5 + 1)) fun x12 => X (.inl (y0, y1, (y2 ++ ([(y3.getD (y5).toNat zWs).step])), y3, y4, x12, ()))))) (Imp (x11 = false) (Lt (wrap (y5 + 1)) fun x13 => X (.inl (y0, y1, y2, y3, y4, x13, ())))))) (Or (And ((y3.getD (y5).toNat zWs).may = some 114) (Lt ((ZaV.S (y0, y1, ()))) fun x14 => And (Imp (x14 = true) (And ((y2 ++ ([(y3.getD (y5).toNat zWs).step])).length ≤ 4294967296) (Lt (wrap (y5 + 1)) fun x15 => X (.inl (y0, y1, (y2 ++ ([(y3.getD (y5).toNat zWs).step])), y3, y4, x15, ()))))) (Imp (x14 = false) (Lt (wrap (y5 + 1)) fun x16 => X (.inl (y0, y1, y2, y3, y4, x16, ())))))) (Or (And ((y3.getD (y5).toNat zWs).may = some 116) (Lt ((ZaW.S (y0, y1, ()))) fun x17 => And (Imp (x17 = true) (And ((y2 ++ ([(y3.getD (y5).toNat zWs).step])).length ≤ 4294967296) (Lt (wrap (y5 + 1)) fun x18 => X (.inl (y0, y1, (y2 ++ ([(y3.getD (y5).toNat zWs).step])), y3, y4, x18, ()))))) (Imp (x17 = false) (Lt (wrap (y5 + 1)) fun x19 => X (.inl (y0, y1, y2, y3, y4, x19, ())))))) (And (And ((ZaX (y0, y1, ())).P) ((y3.getD (y5).toNat zWs).may = some 117)) (Lt ((ZaX.S (y0, y1, ()))) fun x20 => And (Imp (x20 = true) (And ((y2 ++ ([(y3.getD (y5).toNat zWs).step])).length ≤ 4294967296) (Lt (wrap (y5 + 1)) fun x21 => X (.inl (y0, y1, (y2 ++ ([(y3.getD (y5).toNat zWs).step])), y3, y4, x21, ()))))) (Imp (x20 = false) (Lt (wrap (y5 + 1)) fun x22 => X (.inl (y0, y1, y2, y3, y4, x22, ()))))))))))))))) (Imp ((decide (y5 < y4)) = false) (X (.inr (0, y2, ())))), fun r => (r.2.1 = mays y0 y1 7) ∧ True, fun r => [], fun r => (.exit 0, [.c (.own 0 1 3)], [.arr (.ints r.2.1)])⟩
theorem Za3.X : XL Za3 := mkL (0, [], ()) fun (y0, y1, y2, y3, y4, y5, ()) hp => by
  obtain ⟨p0, p1, p2, p3, p4, p5, p6, p7, -⟩ := hp
  unfold ML; dsimp only [Za3]
  refine May.iff (B.dec) (fun h1 => ?_) (fun h1 => ?_)
  refine May.chk ?_ fun c1 => May.chk ?_ fun c2 => May.alt (c := y5 == 0) (B.eq) (fun h2 => ?_) (fun h2 => May.alt (c := y5 == 1) (B.eq) (fun h3 => ?_) (fun h3 => May.alt (c := y5 == 2) (B.eq) (fun h4 => ?_) (fun h4 => May.alt (c := y5 == 3) (B.eq) (fun h5 => ?_) (fun h5 => May.alt (c := y5 == 4) (B.eq) (fun h6 => ?_) (fun h6 => May.alt (c := y5 == 5) (B.eq) (fun h7 => ?_) (fun h7 => ?_)))))); rotate_left 2
  refine May.chk ?_ fun c3 => May.iff (B.eq) (fun h3 => ?_) (fun h3 => ?_); rotate_left 1
  refine May.chk ?_ fun c4 => May.lw ⟨?_, ?_⟩ fun x3 e3 => May.nx ⟨?_, ?_, ?_, ?_, ?_, ?_, ?_, ?_, trivial⟩ ?_ ?_ fun r => rfl; rotate_left 13
  refine May.lw ⟨?_, ?_⟩ fun x4 e4 => May.nx ⟨?_, ?_, ?_, ?_, ?_, ?_, ?_, ?_, trivial⟩ ?_ ?_ fun r => rfl; rotate_left 12
  refine May.chk ?_ fun c5 => May.clqe trivial fun x5 e5 q5 => have q5 := q5.1; May.iff (Iff.rfl) (fun h4 => ?_) (fun h4 => ?_); rotate_left 1
  refine May.chk ?_ fun c6 => May.lw ⟨?_, ?_⟩ fun x6 e6 => May.nx ⟨?_, ?_, ?_, ?_, ?_, ?_, ?_, ?_, trivial⟩ ?_ ?_ fun r => rfl; rotate_left 13
  refine May.lw ⟨?_, ?_⟩ fun x7 e7 => May.nx ⟨?_, ?_, ?_, ?_, ?_, ?_, ?_, ?_, trivial⟩ ?_ ?_ fun r => rfl; rotate_left 12
  refine May.chk ?_ fun c7 => May.clqe trivial fun x8 e8 q8 => have q8 := q8.1; May.iff (Iff.rfl) (fun h5 => ?_) (fun h5 => ?_); rotate_left 1
  refine May.chk ?_ fun c8 => May.lw ⟨?_, ?_⟩ fun x9 e9 => May.nx ⟨?_, ?_, ?_, ?_, ?_, ?_, ?_, ?_, trivial⟩ ?_ ?_ fun r => rfl; rotate_left 13
  refine May.lw ⟨?_, ?_⟩ fun x10 e10 => May.nx ⟨?_, ?_, ?_, ?_, ?_, ?_, ?_, ?_, trivial⟩ ?_ ?_ fun r => rfl; rotate_left 12
  refine May.chk ?_ fun c9 => May.clqe trivial fun x11 e11 q11 => have q11 := q11.1; May.iff (Iff.rfl) (fun h6 => ?_) (fun h6 => ?_); rotate_left 1
  refine May.chk ?_ fun c10 => May.lw ⟨?_, ?_⟩ fun x12 e12 => May.nx ⟨?_, ?_, ?_, ?_, ?_, ?_, ?_, ?_, trivial⟩ ?_ ?_ fun r => rfl; rotate_left 13
  refine May.lw ⟨?_, ?_⟩ fun x13 e13 => May.nx ⟨?_, ?_, ?_, ?_, ?_, ?_, ?_, ?_, trivial⟩ ?_ ?_ fun r => rfl; rotate_left 12
  refine May.chk ?_ fun c11 => May.clqe trivial fun x14 e14 q14 => have q14 := q14.1; May.iff (Iff.rfl) (fun h7 => ?_) (fun h7 => ?_); rotate_left 1
  refine May.chk ?_ fun c12 => May.lw ⟨?_, ?_⟩ fun x15 e15 => May.nx ⟨?_, ?_, ?_, ?_, ?_, ?_, ?_, ?_, trivial⟩ ?_ ?_ fun r => rfl; rotate_left 13
  refine May.lw ⟨?_, ?_⟩ fun x16 e16 => May.nx ⟨?_, ?_, ?_, ?_, ?_, ?_, ?_, ?_, trivial⟩ ?_ ?_ fun r => rfl; rotate_left 12
  refine May.chk ?_ fun c13 => May.clqe trivial fun x17 e17 q17 => have q17 := q17.1; May.iff (Iff.rfl) (fun h8 => ?_) (fun h8 => ?_); rotate_left 1
  refine May.chk ?_ fun c14 => May.lw ⟨?_, ?_⟩ fun x18 e18 => May.nx ⟨?_, ?_, ?_, ?_, ?_, ?_, ?_, ?_, trivial⟩ ?_ ?_ fun r => rfl; rotate_left 13
  refine May.lw ⟨?_, ?_⟩ fun x19 e19 => May.nx ⟨?_, ?_, ?_, ?_, ?_, ?_, ?_, ?_, trivial⟩ ?_ ?_ fun r => rfl; rotate_left 12
  refine May.chk ?_ fun c15 => May.clqe ⟨?_, ?_, trivial⟩ fun x20 e20 q20 => have q20 := q20.1; May.iff (Iff.rfl) (fun h8 => ?_) (fun h8 => ?_); rotate_left 3
  refine May.chk ?_ fun c16 => May.lw ⟨?_, ?_⟩ fun x21 e21 => May.nx ⟨?_, ?_, ?_, ?_, ?_, ?_, ?_, ?_, trivial⟩ ?_ ?_ fun r => rfl; rotate_left 13
  refine May.lw ⟨?_, ?_⟩ fun x22 e22 => May.nx ⟨?_, ?_, ?_, ?_, ?_, ?_, ?_, ?_, trivial⟩ ?_ ?_ fun r => rfl; rotate_left 12
  refine May.ex ⟨?_, trivial⟩
  all_goals try dsimp only [Za3]
  all_goals first | with_reducible assumption | omega | exact fun _ q => q | (exact fun _ q => q; done) | (omega; done) | (rw [p7]; have := mays_len (s := y0) (o := y1) y5.toNat; simp only [List.length_append, List.length_cons, List.length_nil]; omega; done) | ((show y2 = mays y0 y1 7); rw [p7, show y5.toNat = 7 by omega]; done) | (exact live8 p6.1; done) | (exact live8 p6.2; done) | (exact step_may p3 h2 rfl; done) | (exact step_may p3 h3 rfl; done) | (exact step_may p3 h4 rfl; done) | (exact step_may p3 h5 rfl; done) | (exact step_may p3 h6 rfl; done) | (exact step_may p3 h7 rfl; done) | (exact ⟨⟨live8 p6.1, live8 p6.2, trivial⟩, step_may p3 (show y5 = 6 by omega) rfl⟩; done) | (exact next_t p7 e3 p0 p3 (by omega) p6 (by rw [h2]; exact mayK1.2 h3); done) | (exact next_f p7 e4 p0 (by rw [h2]; exact fun h => h3 (mayK1.1 h)); done) | (exact next_t p7 e6 p0 p3 (by omega) p6 (by rw [h3]; exact (mayK2 p6.1).2 (q5.1 h4)); done) | (exact next_f p7 e7 p0 (by rw [h3]; exact fun h => h4 (q5.2 ((mayK2 p6.1).1 h))); done) | (exact next_t p7 e9 p0 p3 (by omega) p6 (by rw [h4]; exact mayK3.2 (q8.1 h5)); done) | (exact next_f p7 e10 p0 (by rw [h4]; exact fun h => h5 (q8.2 (mayK3.1 h))); done) | (exact next_t p7 e12 p0 p3 (by omega) p6 (by rw [h5]; exact mayK4.2 (q11.1 h6)); done) | (exact next_f p7 e13 p0 (by rw [h5]; exact fun h => h6 (q11.2 (mayK4.1 h))); done) | (exact next_t p7 e15 p0 p3 (by omega) p6 (by rw [h6]; exact mayK5.2 (q14.1 h7)); done) | (exact next_f p7 e16 p0 (by rw [h6]; exact fun h => h7 (q14.2 (mayK5.1 h))); done) | (exact next_t p7 e18 p0 p3 (by omega) p6 (by rw [h7]; exact mayK6.2 (q17.1 h8)); done) | (exact next_f p7 e19 p0 (by rw [h7]; exact fun h => h8 (q17.2 (mayK6.1 h))); done) | (exact next_t p7 e21 p0 p3 (by omega) p6 (by rw [show y5 = 6 by omega]; exact mayK7.2 (q20.1 h8)); done) | (exact next_f p7 e22 p0 (by rw [show y5 = 6 by omega]; exact fun h => h8 (q20.2 (mayK7.1 h))); done)
abbrev Za3.R := Classical.choose Za3.X
def Za3.k : LCtr := (ld 5 [2, 3, 5, 16, 17, 18] [[], [], [some (.int, 3)]] Za3.L Za3 0 (fun _ => [5]) (fun _ => [[some (.int, 3)]]) Za3.R).ctr
theorem Za3.g : LGood Try.prog Try.f37.ntmps Za3.k (bodyAt Try.f37 0) := mkLG {sp := [(7, [[(26, 0)], [(26, 1)], [(26, 2)], [(26, 3)], [(26, 4)], [(26, 5)], [(26, 6)]])]} Za3.X Za2.G (by kernel_rfl) (l0 (by kernel_rfl)) (c0 (by kernel_rfl)) fun S s => by kernel_rfl
def Za2.L : FL := fCons (fSh sSt) (fCons (fSh sSt) (fNil))
def Za2 : St × St × Unit → FR ((List Int)) := fun (a0, a1, ()) => ⟨True, fun X => Lt (bif !(ZO.S a0) then true else !(ZO.S a1)) fun x1 => And (Imp (x1 = true) (X [])) (Imp (x1 = false) (Call0 ZaY.X () fun x2 => CallL Za3.X (a0, a1, [], x2, (x2.length : Int), 0, ()) fun x23 => X x23.2.1)), fun r => (r = mays a0 a1 7) ∧ True, fun r => (.v (.c (.own 0 1 3)), [.arr (.ints r)])⟩
theorem Za2.X : XF Za2 := mkF ([]) fun (a0, a1, ()) hp => by
  clear hp
  dsimp only [Za2]
  refine May.lp (B.or (B.not (implSt)) (B.not (implSt))) fun x1 e1 => May.iff (e1) (fun h1 => ?_) (fun h1 => ?_)
  refine May.ret ⟨?_, trivial⟩; rotate_left 1
  refine May.call0 trivial fun x2 q2 => have q2 := q2.1; May.loop ⟨?_, ?_, ?_, ?_, ?_, ?_, ?_, ?_, trivial⟩ fun x23 q23 => have q23 := q23.1; May.ret ⟨?_, trivial⟩
  all_goals try dsimp only
  all_goals first | with_reducible assumption | omega | (rw [show x2 = steps from q2]; rfl; done) | (rw [show x2 = steps from q2]; decide; done) | (exact (mays_none h1 7).symm; done) | rfl | assumption | (simp only [List.length_append, List.length_cons, List.length_nil, List.length_set, List.length_replicate, Int.natCast_add, Int.natCast_one] at *; omega) | grind
abbrev Za2.S := Classical.choose Za2.X
def Za2.c : Ctr := fc0 37 [true, true] Za2.L Za2 Za2.S
theorem Za2.good : Good Try.prog Za2.c := mkFG0 (fn := Try.f37) {sp := [(7, [[(26, 0)], [(26, 1)], [(26, 2)], [(26, 3)], [(26, 4)], [(26, 5)], [(26, 6)]])], LL := [Za3.k], sh := [[some (.int, 3)]]} Za2.X Za2.G (by kernel_rfl) (by kernel_rfl) (lG (by kernel_rfl) (consL (by kernel_rfl) Za3.g (noL rfl))) (c0 (by kernel_rfl)) (fun _ => trivial) fun s K => by kernel_rfl
end
end Hw
end Go.Proofs.Ytceihgojdnkfiaa
