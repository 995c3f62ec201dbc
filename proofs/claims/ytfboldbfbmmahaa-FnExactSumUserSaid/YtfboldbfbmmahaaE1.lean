/- Draws, 2: made by gen.py. -/
import Derived.Test.YtfboldbfbmmahaaE0
set_option linter.unusedVariables false
set_option linter.unusedSimpArgs false
set_option maxRecDepth 100000
set_option maxHeartbeats 400000
namespace Go.Proofs.Ytfboldbfbmmahaa
namespace Hw
open Go
noncomputable section
attribute [local irreducible] evFn evBody wrap wxor
def Zf.L : FL := fNil
def Zf : Unit → FR (Bk) := fun () => ⟨True, fun X => X (⟨[10, 10, 10], [0, 0, 0], 0⟩ : Bk), fun r => (BIn r) ∧ True, fun r => (.v (.agg [.own 0 1 3, .own 1 1 3, .int r.locked]), [.arr (.ints r.own), .arr (.ints r.notes)])⟩
theorem Zf.X : XF Zf := mkF (zBk) fun () hp => by
  clear hp
  dsimp only [Zf]
  refine May.ret ⟨?_, trivial⟩
  all_goals try dsimp only
  all_goals first | with_reducible assumption | omega | rfl | assumption | (simp only [List.length_append, List.length_cons, List.length_nil, List.length_set, List.length_replicate, Int.natCast_add, Int.natCast_one] at *; omega) | grind [BIn, inI]
abbrev Zf.S := Classical.choose Zf.X
def Zf.c : Ctr := fc0 110 [] Zf.L Zf Zf.S
theorem Zf.good : Good Try.prog Zf.c := mkFG0 (fn := Try.f110) {sh := [[some (.int, 3), some (.int, 3), none]]} Zf.X noG (by kernel_rfl) (by kernel_rfl) (l0 (by kernel_rfl)) (c0 (by kernel_rfl)) (fun _ => trivial) fun s K => by kernel_rfl
def Zg.L : FL := fNil
def Zg : Unit → FR (St) := fun () => ⟨True, fun X => And ((8 : Int) = 8 ∧ (0 : Int) ≤ 8 ∧ (8 : Int) ≤ 4294967296) (X (⟨0, 1, 0, [], [], [], List.replicate 8 0⟩ : St)), fun r => (SIn r) ∧ True, fun r => (.v (.agg [.int r.way, .int r.ver, .int r.want, .own 0 7 49, .own 1 1 4, .own 2 1 4, .own 3 1 3]), [.arr (.pkts r.sent), .arr (.bools r.live), .arr (.bools r.back), .arr (.ints r.got)])⟩
theorem Zg.X : XF Zg := mkF (zSt) fun () hp => by
  clear hp
  dsimp only [Zg]
  refine May.chk ?_ fun c1 => May.ret ⟨?_, trivial⟩
  all_goals try dsimp only
  all_goals first | with_reducible assumption | omega | (refine ⟨by decide, by decide, by decide, by decide, fun k hk => ?_⟩; exact absurd hk (Nat.not_lt_zero k); done) | rfl | assumption | (simp only [List.length_append, List.length_cons, List.length_nil, List.length_set, List.length_replicate, Int.natCast_add, Int.natCast_one] at *; omega) | grind
abbrev Zg.S := Classical.choose Zg.X
def Zg.c : Ctr := fc0 111 [] Zg.L Zg Zg.S
theorem Zg.good : Good Try.prog Zg.c := mkFG0 (fn := Try.f111) {sh := [[none, none, none, some (.pkt, 49), some (.bool, 4), some (.bool, 4), some (.int, 3)]]} Zg.X noG (by kernel_rfl) (by kernel_rfl) (l0 (by kernel_rfl)) (c0 (by kernel_rfl)) (fun _ => trivial) fun s K => by kernel_rfl
def Zh.L : FL := fCons (fSh sInt) (fNil)
def Zh : Int × Unit → FR (Ch × Bool) := fun (a0, ()) => ⟨True, fun X => And (Imp ((!(Zi.S a0 1 2)) = true) (X ((⟨0, (⟨[], [], 0⟩ : Bk), (⟨0, 0, 0, [], [], [], []⟩ : St), [], []⟩ : Ch), false))) (Imp ((!(Zi.S a0 1 2)) = false) (Call0 Zf.X () fun x1 => Call0 Zg.X () fun x2 => X ((⟨a0, x1, x2, [], []⟩ : Ch), true))), fun r => (1 ≤ a0 ∧ a0 ≤ 2 → CIn r.1) ∧ (r.1.knows.length = 0) ∧ True, fun r => (.tup [.agg [.int r.1.id, .own 0 1 3, .own 1 1 3, .int r.1.bank.locked, .int r.1.st.way, .int r.1.st.ver, .int r.1.st.want, .own 2 7 49, .own 3 1 4, .own 4 1 4, .own 5 1 3, .own 6 7 45, .own 7 1 3], .c (.bool r.2)], [.arr (.ints r.1.bank.own), .arr (.ints r.1.bank.notes), .arr (.pkts r.1.st.sent), .arr (.bools r.1.st.live), .arr (.bools r.1.st.back), .arr (.ints r.1.st.got), .arr (.sts r.1.past), .arr (.ints r.1.knows)])⟩
theorem Zh.X : XF Zh := mkF (zCh, false) fun (a0, ()) hp => by
  clear hp
  dsimp only [Zh]
  refine May.iff (B.not (in_iff)) (fun h1 => ?_) (fun h1 => ?_)
  refine May.ret ⟨?_, ?_, trivial⟩; rotate_left 2
  refine May.call0 trivial fun x1 q1 => have q1 := q1.1; May.call0 trivial fun x2 q2 => have q2 := q2.1; May.ret ⟨?_, ?_, trivial⟩
  all_goals try dsimp only
  all_goals first | with_reducible assumption | omega | rfl | assumption | (simp only [List.length_append, List.length_cons, List.length_nil, List.length_set, List.length_replicate, Int.natCast_add, Int.natCast_one] at *; omega) | grind [CIn]
abbrev Zh.S := Classical.choose Zh.X
def Zh.c : Ctr := fc0 104 [false] Zh.L Zh Zh.S
theorem Zh.good : Good Try.prog Zh.c := mkFG0 (fn := Try.f104) {sh := [[none, some (.int, 3), some (.int, 3), none, none, none, none, some (.pkt, 49), some (.bool, 4), some (.bool, 4), some (.int, 3), some (.st, 45), some (.int, 3)], []]} Zh.X (consG Zi.good (consG Zf.good (consG Zg.good noG))) (by kernel_rfl) (by kernel_rfl) (l0 (by kernel_rfl)) (c0 (by kernel_rfl)) (fun _ => trivial) fun s K => by kernel_rfl
def Zj.L : FL := fNil
def Zj : Unit → FR (Ch × Ch) := fun () => ⟨True, fun X => Call0 Zh.X (1, ()) fun x1 => Call0 Zh.X (2, ()) fun x2 => X (x1.1, x2.1), fun r => (CIn r.1) ∧ (CIn r.2) ∧ (r.1.knows.length = 0) ∧ (r.2.knows.length = 0) ∧ True, fun r => (.v (.agg [.own 0 13 65]), [.raw 2 [.int r.1.id, .own 1 1 3, .own 2 1 3, .int r.1.bank.locked, .int r.1.st.way, .int r.1.st.ver, .int r.1.st.want, .own 3 7 49, .own 4 1 4, .own 5 1 4, .own 6 1 3, .own 7 7 45, .own 8 1 3, .int r.2.id, .own 9 1 3, .own 10 1 3, .int r.2.bank.locked, .int r.2.st.way, .int r.2.st.ver, .int r.2.st.want, .own 11 7 49, .own 12 1 4, .own 13 1 4, .own 14 1 3, .own 15 7 45, .own 16 1 3], .arr (.ints r.1.bank.own), .arr (.ints r.1.bank.notes), .arr (.pkts r.1.st.sent), .arr (.bools r.1.st.live), .arr (.bools r.1.st.back), .arr (.ints r.1.st.got), .arr (.sts r.1.past), .arr (.ints r.1.knows), .arr (.ints r.2.bank.own), .arr (.ints r.2.bank.notes), .arr (.pkts r.2.st.sent), .arr (.bools r.2.st.live), .arr (.bools r.2.st.back), .arr (.ints r.2.st.got), .arr (.sts r.2.past), .arr (.ints r.2.knows)])⟩
theorem Zj.X : XF Zj := mkF (zCh, zCh) fun () hp => by
  clear hp
  dsimp only [Zj]
  refine May.call0 trivial fun x1 q1 => have q1_0 := q1.1; have q1_1 := q1.2.1; May.call0 trivial fun x2 q2 => have q2_0 := q2.1; have q2_1 := q2.2.1; May.ret ⟨?_, ?_, ?_, ?_, trivial⟩
  all_goals try dsimp only
  all_goals first | with_reducible assumption | omega | rfl | assumption | (simp only [List.length_append, List.length_cons, List.length_nil, List.length_set, List.length_replicate, Int.natCast_add, Int.natCast_one] at *; omega) | grind
abbrev Zj.S := Classical.choose Zj.X
def Zj.c : Ctr := fc0 92 [] Zj.L Zj Zj.S
theorem Zj.good : Good Try.prog Zj.c := mkFG0 (fn := Try.f92) {sh := [[some (.ch, 65)]]} Zj.X (consG Zh.good noG) (by kernel_rfl) (by kernel_rfl) (l0 (by kernel_rfl)) (c0 (by kernel_rfl)) (fun _ => trivial) fun s K => by kernel_rfl
def Zk.L : FL := fCons (fSh sSt) (fNil)
def Zk : St × Unit → FR (St) := fun (a0, ()) => ⟨(a0.sm) ∧ True, fun X => And (([] ++ a0.sent).length ≤ 4294967296) (And (([] ++ a0.live).length ≤ 4294967296) (And (([] ++ a0.back).length ≤ 4294967296) (And (([] ++ a0.got).length ≤ 4294967296) (X (⟨a0.way, a0.ver, a0.want, ([] ++ a0.sent), ([] ++ a0.live), ([] ++ a0.back), ([] ++ a0.got)⟩ : St))))), fun r => (r = a0) ∧ True, fun r => (.v (.agg [.int r.way, .int r.ver, .int r.want, .own 0 7 49, .own 1 1 4, .own 2 1 4, .own 3 1 3]), [.arr (.pkts r.sent), .arr (.bools r.live), .arr (.bools r.back), .arr (.ints r.got)])⟩
theorem Zk.X : XF Zk := mkF (zSt) fun (a0, ()) hp => by
  obtain ⟨p0, -⟩ := hp
  dsimp only [Zk]
  refine May.chk ?_ fun c1 => May.chk ?_ fun c2 => May.chk ?_ fun c3 => May.chk ?_ fun c4 => May.ret ⟨?_, trivial⟩
  all_goals try dsimp only
  all_goals first | with_reducible assumption | omega | rfl | assumption | (simp only [List.length_append, List.length_cons, List.length_nil, List.length_set, List.length_replicate, Int.natCast_add, Int.natCast_one] at *; omega) | grind [St.sm]
abbrev Zk.S := Classical.choose Zk.X
def Zk.c : Ctr := fc 123 [true] Zk.L Zk Zk.S
theorem Zk.good : Good Try.prog Zk.c := mkFG (fn := Try.f123) {sh := [[none, none, none, some (.pkt, 49), some (.bool, 4), some (.bool, 4), some (.int, 3)]]} Zk.X noG (by kernel_rfl) (by kernel_rfl) (l0 (by kernel_rfl)) (c0 (by kernel_rfl)) fun s K => by kernel_rfl
def Zl.L : FL := fCons (fSh sBk) (fNil)
def Zl : Bk × Unit → FR (Bk) := fun (a0, ()) => ⟨(a0.sm) ∧ True, fun X => And (([] ++ a0.own).length ≤ 4294967296) (And (([] ++ a0.notes).length ≤ 4294967296) (X (⟨([] ++ a0.own), ([] ++ a0.notes), a0.locked⟩ : Bk))), fun r => (r = a0) ∧ True, fun r => (.v (.agg [.own 0 1 3, .own 1 1 3, .int r.locked]), [.arr (.ints r.own), .arr (.ints r.notes)])⟩
theorem Zl.X : XF Zl := mkF (zBk) fun (a0, ()) hp => by
  obtain ⟨p0, -⟩ := hp
  dsimp only [Zl]
  refine May.chk ?_ fun c1 => May.chk ?_ fun c2 => May.ret ⟨?_, trivial⟩
  all_goals try dsimp only
  all_goals first | with_reducible assumption | omega | rfl | assumption | (simp only [List.length_append, List.length_cons, List.length_nil, List.length_set, List.length_replicate, Int.natCast_add, Int.natCast_one] at *; omega) | grind [Bk.sm]
abbrev Zl.S := Classical.choose Zl.X
def Zl.c : Ctr := fc 127 [true] Zl.L Zl Zl.S
theorem Zl.good : Good Try.prog Zl.c := mkFG (fn := Try.f127) {sh := [[some (.int, 3), some (.int, 3), none]]} Zl.X noG (by kernel_rfl) (by kernel_rfl) (l0 (by kernel_rfl)) (c0 (by kernel_rfl)) fun s K => by kernel_rfl
theorem Zm.G : GG [Zk.c, Zl.c] := (consG Zk.good (consG Zl.good noG))
def Zn.L : FL := fCons (fC (cPtr 1 (cChE false) rfl)) (fCons (fC (cPtr 1 (cCons cInt (cCons cNilS (cCons cNilS (cCons cInt (cCons cInt (cCons cInt (cCons cInt (cCons cNilS (cCons cNilS (cCons cNilS (cCons cNilS (cCons cNilS (cCons cNilS (cNil)))))))))))))) rfl)) (fCons (fC (cOwn kSts 45)) (fCons (fC cInt) (fNil))))
def Zn : Ch × (Int × Unit × Unit × Int × Int × Int × Int × Unit × Unit × Unit × Unit × Unit × Unit × Unit) × List St × Int × Unit → LR (Ch × (Int × Unit × Unit × Int × Int × Int × Int × Unit × Unit × Unit × Unit × Unit × Unit × Unit) × List St × Int × Unit) (Nat × (List St) × Unit) := fun (y0, (y1, (), (), y2, y3, y4, y5, (), (), (), (), (), (), ()), y6, y7, ()) => ⟨(0 ≤ y7) ∧ ((y0.past.length : Int) ≤ 9223372036854775807) ∧ (stsSm y0.past) ∧ (y6 = y0.past.take y7.toNat) ∧ True, ((y0.past.length : Int) - y7).toNat, fun X => And (Imp ((decide (y7 < (y0.past.length : Int))) = true) (And ((0 : Int) ≤ y7 ∧ y7 < (y0.past.length : Int)) (Call Zk.X ((y0.past.getD (y7).toNat zSt), ()) fun x1 => And ((y6 ++ ([x1])).length ≤ 4294967296) (Lt (wrap (y7 + 1)) fun x2 => X (.inl (y0, (y1, (), (), y2, y3, y4, y5, (), (), (), (), (), (), ()), (y6 ++ ([x1])), x2, ())))))) (Imp ((decide (y7 < (y0.past.length : Int))) = false) (X (.inr (0, y6, ())))), fun r => (r.2.1 = y0.past) ∧ True, fun r => [], fun r => (.exit 0, [.c (.ptr 0 0), .c (.ptr 1 0), .c (.own 2 7 45)], [.raw 1 [.int y0.id, .arr false (.ints y0.bank.own), .arr false (.ints y0.bank.notes), .int y0.bank.locked, .int y0.st.way, .int y0.st.ver, .int y0.st.want, .arr false (.pkts y0.st.sent), .arr false (.bools y0.st.live), .arr false (.bools y0.st.back), .arr false (.ints y0.st.got), .arr false (.sts y0.past), .arr false (.ints y0.knows)], .raw 1 [.int y1, .nilS, .nilS, .int y2, .int y3, .int y4, .int y5, .nilS, .nilS, .nilS, .nilS, .nilS, .nilS], .arr (.sts r.2.1)])⟩
theorem Zn.X : XL Zn := mkL (0, [], ()) fun (y0, (y1, (), (), y2, y3, y4, y5, (), (), (), (), (), (), ()), y6, y7, ()) hp => by
  obtain ⟨p0, p1, p2, p3, -⟩ := hp
  unfold ML; dsimp only [Zn]
  refine May.iff (B.dec) (fun h1 => ?_) (fun h1 => ?_)
  refine May.chk ?_ fun c1 => May.call ⟨?_, trivial⟩ fun x1 q1 => have q1 := q1.1; May.chk ?_ fun c2 => May.lw ⟨?_, ?_⟩ fun x2 e2 => May.nx ⟨?_, ?_, ?_, ?_, trivial⟩ ?_ ?_ fun r => rfl; rotate_left 11
  refine May.ex ⟨?_, trivial⟩
  all_goals try dsimp only [Zn]
  all_goals first | with_reducible assumption | omega | exact fun _ q => q | (rw [q3, q4, q5]; rfl; done) | rfl | assumption | (simp only [List.length_append, List.length_cons, List.length_nil, List.length_set, List.length_replicate, Int.natCast_add, Int.natCast_one] at *; omega) | grind [Ch.sm, stsSm, take_snoc, take_all]
abbrev Zn.R := Classical.choose Zn.X
def Zn.k : LCtr := (ld 3 [1, 2, 3, 4] [] Zn.L Zn 0 (fun _ => [1, 2, 3]) (fun _ => []) Zn.R).ctr
theorem Zn.g : LGood Try.prog Try.f119.ntmps Zn.k (bodyAt Try.f119 0) := mkLG {} Zn.X Zm.G (by kernel_rfl) (l0 (by kernel_rfl)) (c0 (by kernel_rfl)) fun S s => by kernel_rfl
def Zm.L : FL := fCons (fSh sCh) (fNil)
def Zm : Ch × Unit → FR (Ch) := fun (a0, ()) => ⟨(a0.sm) ∧ True, fun X => CallL Zn.X (a0, (0, (), (), 0, 0, 0, 0, (), (), (), (), (), (), ()), [], 0, ()) fun x3 => Call Zl.X (a0.bank, ()) fun x4 => Call Zk.X (a0.st, ()) fun x5 => And (([] ++ a0.knows).length ≤ 4294967296) (X (⟨a0.id, x4, x5, x3.2.1, ([] ++ a0.knows)⟩ : Ch)), fun r => (r = a0) ∧ True, fun r => (.v (.agg [.int r.id, .own 0 1 3, .own 1 1 3, .int r.bank.locked, .int r.st.way, .int r.st.ver, .int r.st.want, .own 2 7 49, .own 3 1 4, .own 4 1 4, .own 5 1 3, .own 6 7 45, .own 7 1 3]), [.arr (.ints r.bank.own), .arr (.ints r.bank.notes), .arr (.pkts r.st.sent), .arr (.bools r.st.live), .arr (.bools r.st.back), .arr (.ints r.st.got), .arr (.sts r.past), .arr (.ints r.knows)])⟩
theorem Zm.X : XF Zm := mkF (zCh) fun (a0, ()) hp => by
  obtain ⟨p0, -⟩ := hp
  dsimp only [Zm]
  refine May.loop ⟨?_, ?_, ?_, ?_, trivial⟩ fun x3 q3 => have q3 := q3.1; May.call ⟨?_, trivial⟩ fun x4 q4 => have q4 := q4.1; May.call ⟨?_, trivial⟩ fun x5 q5 => have q5 := q5.1; May.chk ?_ fun c1 => May.ret ⟨?_, trivial⟩
  all_goals try dsimp only
  all_goals first | with_reducible assumption | omega | (rw [q3, q4, q5]; rfl; done) | rfl | assumption | (simp only [List.length_append, List.length_cons, List.length_nil, List.length_set, List.length_replicate, Int.natCast_add, Int.natCast_one] at *; omega) | grind [Ch.sm, stsSm, take_snoc, take_all]
abbrev Zm.S := Classical.choose Zm.X
def Zm.c : Ctr := fc 119 [true] Zm.L Zm Zm.S
theorem Zm.good : Good Try.prog Zm.c := mkFG (fn := Try.f119) {LL := [Zn.k], sh := [[none, some (.int, 3), some (.int, 3), none, none, none, none, some (.pkt, 49), some (.bool, 4), some (.bool, 4), some (.int, 3), some (.st, 45), some (.int, 3)]]} Zm.X Zm.G (by kernel_rfl) (by kernel_rfl) (lG (by kernel_rfl) (consL (by kernel_rfl) Zn.g (noL rfl))) (c0 (by kernel_rfl)) fun s K => by kernel_rfl
end
end Hw
end Go.Proofs.Ytfboldbfbmmahaa
