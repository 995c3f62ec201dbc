/- A packet is drawn: made by gen.py. -/
import Derived.Test.YtloicplgckomdaaE0
set_option linter.unusedVariables false
set_option linter.unusedSimpArgs false
set_option maxRecDepth 100000
set_option maxHeartbeats 400000
namespace Go.Proofs.Ytloicplgckomdaa
namespace Hw
open Go
noncomputable section
attribute [local irreducible] evFn evBody wrap wxor
def Zbi.L : FL := fCons (fC (cPtr 1 (cCons (cArrE true kU8s) (cCons cInt (cNil))) rfl)) (fNil)
def Zbi : (List Int × Int × Unit) × Unit → FR (Pkt × Int) := fun ((a0, a1, ()), ()) => ⟨(BY a0) ∧ (0 ≤ a1) ∧ (a1 ≤ 900000000000) ∧ True, fun X => Call Zd.X ((a0, a1, ()), 4, ()) fun x1 => Lt (wrap (1 + x1.1)) fun x2 => Call Zd.X ((a0, x1.2, ()), 2, ()) fun x3 => Lt (wrap (1 + x3.1)) fun x4 => Call Zd.X ((a0, x3.2, ()), 3, ()) fun x5 => Lt (wrap (1 + x5.1)) fun x6 => Call Zd.X ((a0, x5.2, ()), 3, ()) fun x7 => Lt (wrap (1 + x7.1)) fun x8 => Call Zd.X ((a0, x7.2, ()), 9, ()) fun x9 => Lt (wrap (1 + x9.1)) fun x10 => Call Zd.X ((a0, x9.2, ()), 40, ()) fun x11 => Lt (wrap (1 + x11.1)) fun x12 => Call Zd.X ((a0, x11.2, ()), 2, ()) fun x13 => Lt (wrap (1 + x13.1)) fun x14 => Call Zd.X ((a0, x13.2, ()), 20, ()) fun x15 => And (Imp ((x15.1 == 0) = true) (Call Zd.X ((a0, x15.2, ()), 10, ()) fun x16 => X ((⟨x16.1, x4, x6, x8, x10, x12, x14⟩ : Pkt), x16.2))) (Imp ((x15.1 == 0) = false) (And (Imp ((x15.1 == 1) = true) (Call Zd.X ((a0, x15.2, ()), 5, ()) fun x17 => Call Zd.X ((a0, x17.2, ()), 2, ()) fun x18 => Lt (wrap (x17.1 - x18.1)) fun x19 => X ((⟨x2, x4, x6, x19, x10, x12, x14⟩ : Pkt), x18.2))) (Imp ((x15.1 == 1) = false) (And (Imp ((x15.1 == 2) = true) (Call Zd.X ((a0, x15.2, ()), 12, ()) fun x20 => Lt (wrap (x20.1 - 1)) fun x21 => X ((⟨x2, x4, x6, x8, x21, x12, x14⟩ : Pkt), x20.2))) (Imp ((x15.1 == 2) = false) (And (Imp ((x15.1 == 3) = true) (Call Zd.X ((a0, x15.2, ()), 100, ()) fun x22 => X ((⟨x2, x4, x6, x8, x10, x22.1, x14⟩ : Pkt), x22.2))) (Imp ((x15.1 == 3) = false) (And (Imp ((x15.1 == 4) = true) (Call Zd.X ((a0, x15.2, ()), 11, ()) fun x23 => X ((⟨x2, x4, x6, x8, x10, x12, x23.1⟩ : Pkt), x23.2))) (Imp ((x15.1 == 4) = false) (X ((⟨x2, x4, x6, x8, x10, x12, x14⟩ : Pkt), x15.2))))))))))), fun r => (a1 ≤ r.2 ∧ r.2 ≤ a1 + 20) ∧ True, fun r => (.v (.agg [.int r.1.seq, .int r.1.kind, .int r.1.frm, .int r.1.to, .int r.1.sum, .int r.1.til, .int r.1.ver]), [.raw 1 [.arr true (.u8s a0), .int r.2]])⟩
theorem Zbi.X : XF Zbi := mkF (zPkt, 0) fun ((a0, a1, ()), ()) hp => by
  obtain ⟨p0, p1, p2, -⟩ := hp
  dsimp only [Zbi]
  refine May.call ⟨?_, ?_, ?_, trivial⟩ fun x1 q1 => have q1_0 := q1.1; have q1_1 := q1.2.1; have q1_2 := q1.2.2.1; May.lw ⟨?_, ?_⟩ fun x2 e2 => May.call ⟨?_, ?_, ?_, trivial⟩ fun x3 q3 => have q3_0 := q3.1; have q3_1 := q3.2.1; have q3_2 := q3.2.2.1; May.lw ⟨?_, ?_⟩ fun x4 e4 => May.call ⟨?_, ?_, ?_, trivial⟩ fun x5 q5 => have q5_0 := q5.1; have q5_1 := q5.2.1; have q5_2 := q5.2.2.1; May.lw ⟨?_, ?_⟩ fun x6 e6 => May.call ⟨?_, ?_, ?_, trivial⟩ fun x7 q7 => have q7_0 := q7.1; have q7_1 := q7.2.1; have q7_2 := q7.2.2.1; May.lw ⟨?_, ?_⟩ fun x8 e8 => ?_; rotate_left 20
  refine May.call ⟨?_, ?_, ?_, trivial⟩ fun x9 q9 => have q9_0 := q9.1; have q9_1 := q9.2.1; have q9_2 := q9.2.2.1; May.lw ⟨?_, ?_⟩ fun x10 e10 => May.call ⟨?_, ?_, ?_, trivial⟩ fun x11 q11 => have q11_0 := q11.1; have q11_1 := q11.2.1; have q11_2 := q11.2.2.1; May.lw ⟨?_, ?_⟩ fun x12 e12 => May.call ⟨?_, ?_, ?_, trivial⟩ fun x13 q13 => have q13_0 := q13.1; have q13_1 := q13.2.1; have q13_2 := q13.2.2.1; May.lw ⟨?_, ?_⟩ fun x14 e14 => May.call ⟨?_, ?_, ?_, trivial⟩ fun x15 q15 => have q15_0 := q15.1; have q15_1 := q15.2.1; have q15_2 := q15.2.2.1; May.iff (B.eq) (fun h1 => ?_) (fun h1 => ?_); rotate_left 18
  refine May.call ⟨?_, ?_, ?_, trivial⟩ fun x16 q16 => have q16_0 := q16.1; have q16_1 := q16.2.1; have q16_2 := q16.2.2.1; May.ret ⟨?_, trivial⟩; rotate_left 4
  refine May.iff (B.eq) (fun h2 => ?_) (fun h2 => ?_)
  refine May.call ⟨?_, ?_, ?_, trivial⟩ fun x17 q17 => have q17_0 := q17.1; have q17_1 := q17.2.1; have q17_2 := q17.2.2.1; May.call ⟨?_, ?_, ?_, trivial⟩ fun x18 q18 => have q18_0 := q18.1; have q18_1 := q18.2.1; have q18_2 := q18.2.2.1; May.lw ⟨?_, ?_⟩ fun x19 e19 => May.ret ⟨?_, trivial⟩; rotate_left 9
  refine May.iff (B.eq) (fun h3 => ?_) (fun h3 => ?_)
  refine May.call ⟨?_, ?_, ?_, trivial⟩ fun x20 q20 => have q20_0 := q20.1; have q20_1 := q20.2.1; have q20_2 := q20.2.2.1; May.lw ⟨?_, ?_⟩ fun x21 e21 => May.ret ⟨?_, trivial⟩; rotate_left 6
  refine May.iff (B.eq) (fun h4 => ?_) (fun h4 => ?_)
  refine May.call ⟨?_, ?_, ?_, trivial⟩ fun x22 q22 => have q22_0 := q22.1; have q22_1 := q22.2.1; have q22_2 := q22.2.2.1; May.ret ⟨?_, trivial⟩; rotate_left 4
  refine May.iff (B.eq) (fun h5 => ?_) (fun h5 => ?_)
  refine May.call ⟨?_, ?_, ?_, trivial⟩ fun x23 q23 => have q23_0 := q23.1; have q23_1 := q23.2.1; have q23_2 := q23.2.2.1; May.ret ⟨?_, trivial⟩; rotate_left 4
  refine May.ret ⟨?_, trivial⟩
  all_goals try dsimp only
  all_goals first | with_reducible assumption | omega | rfl | assumption | (simp only [List.length_append, List.length_cons, List.length_nil, List.length_set, List.length_replicate, Int.natCast_add, Int.natCast_one] at *; omega) | grind
abbrev Zbi.S := Classical.choose Zbi.X
def Zbi.c : Ctr := fc 98 [false] Zbi.L Zbi Zbi.S
theorem Zbi.good : Good Try.prog Zbi.c := mkFG (fn := Try.f98) {} Zbi.X (consG Zd.good noG) (by kernel_rfl) (by kernel_rfl) (l0 (by kernel_rfl)) (c0 (by kernel_rfl)) fun s K => by kernel_rfl
end
end Hw
end Go.Proofs.Ytloicplgckomdaa
