/- Laws of packets that come: made by gen.py. -/
import Derived.Test.YtloicplgckomdaaT0
set_option linter.unusedVariables false
set_option linter.unusedSimpArgs false
set_option maxRecDepth 100000
set_option maxHeartbeats 400000
namespace Go.Proofs.Ytloicplgckomdaa
namespace Hw
open Go
noncomputable section
attribute [local irreducible] evFn evBody wrap wxor
theorem get_fin {c r : Ch} {s : St} {p : Pkt} {t x8 x12 x13 x14 : Bool} {x9 x11 : Int} (q3 : RgQ c s p r t) (ho : ChOk c ∧ StOk s ∧ PktOk p) (q8 : x8 = true ↔ HasP s p) (q9 : GotQ c.st p.seq x9) (e11 : -9223372036854775808 ≤ (c.past.length : Int) + 1 ∧ (c.past.length : Int) + 1 ≤ 9223372036854775807 → x11 = (c.past.length : Int) + 1) (e12 : x12 = true ↔ (((c.st.way ≥ 3 ∧ x8 = true) ∧ x9 = 0) ∧ p.ver = c.st.ver) ∧ x11 < p.til) (q13 : x13 = true ↔ r = c) (e14 : x14 = true ↔ t = x12 ∧ (t = true ∨ x13 = true)) : x14 = true := by
  have hp := ho.1.2.2.2.1
  have e : x12 = true ↔ MayG c s p := by
    rw [e12, q8, gotQ_0 ho.1.2.2.1 ho.2.2.1 q9, e11 (by omega)]
    unfold MayG Has0
    exact ⟨fun g => ⟨by omega, g.1.1.1.2.2, g.1.1.2, g.1.2, g.2⟩, fun g => ⟨⟨⟨⟨by omega, ho.2.1, g.2.1⟩, g.2.2.1⟩, g.2.2.2.1⟩, g.2.2.2.2⟩⟩
  refine e14.2 ⟨Bool.eq_iff_iff.2 (q3.1.trans ⟨fun g => e.2 g.2, fun g => ⟨ho, e.1 g⟩⟩), ?_⟩
  by_cases g : t = true
  · exact .inl g
  · exact .inr (q13.2 ((q3.2.2 g).1 ho))

def ZcV.L : FL := fCons (fC (cArr true kU8s)) (fNil)
def ZcV : List Int × Unit → FR (Bool) := fun (a0, ()) => ⟨(∀ k, 0 ≤ a0.getD k 0 ∧ a0.getD k 0 ≤ 255) ∧ True, fun X => And (Imp ((decide ((a0.length : Int) > 1048576)) = true) (X true)) (Imp ((decide ((a0.length : Int) > 1048576)) = false) (Call ZcS.X (a0, ()) fun x1 => Call ZcA.X (x1.1, x1.2.1, x1.2.2, ()) fun x2 => Call Zcz.X (x1.1, x1.2.1, x1.2.2, ()) fun x3 => And (Imp (And ((!((x3.2 : Bool) == x2.2)) = false) (True)) ((ZbT (x3.1, x2.1, ())).P)) (Lt ((ZbT.S (x3.1, x2.1, ()))) fun x4 => Lt (bif bif !((x3.2 : Bool) == x2.2) then true else !x4 then true else !(ZV.S x1.1)) fun x5 => Lt (bif bif x5 then true else !(ZI.S x1.2.1) then true else !(Zy.S x1.2.2)) fun x6 => And (Imp (x6 = true) (And (Imp (And (((x3.2 : Bool) == x2.2) = true) (True)) ((ZbT (x3.1, x2.1, ())).P)) (Lt ((ZbT.S (x3.1, x2.1, ()))) fun x7 => X (bif (x3.2 : Bool) == x2.2 then x7 else false)))) (Imp (x6 = false) (Lt ((Zbf.S (x1.2.1, x1.2.2, ()))) fun x8 => Lt ((Zcv.S (x1.1.st, x1.2.2.seq, ()))) fun x9 => Lt (bif bif decide (x1.1.st.way ≥ 3) then x8 else false then x9 == 0 else false) fun x10 => Lt (wrap ((x1.1.past.length : Int) + 1)) fun x11 => Lt (bif bif x10 then x1.2.2.ver == x1.1.st.ver else false then decide (x11 < x1.2.2.til) else false) fun x12 => And (Imp (And (x3.2 = false) (And (((x3.2 : Bool) == x12) = true) (True))) ((ZbT (x3.1, x1.1, ())).P)) (Lt ((ZbT.S (x3.1, x1.1, ()))) fun x13 => Lt (bif (x3.2 : Bool) == x12 then bif x3.2 then true else x13 else false) fun x14 => X x14)))))), fun r => (r = true) ∧ True, fun r => (.v (.c (.bool r)), [])⟩
theorem ZcV.X : XF ZcV := mkF (false) fun (a0, ()) hp => by
  obtain ⟨p0, -⟩ := hp
  dsimp only [ZcV]
  refine May.iff (B.dec) (fun h1 => ?_) (fun h1 => ?_)
  refine May.ret ⟨?_, trivial⟩; rotate_left 1
  refine May.call ⟨?_, trivial⟩ fun x1 q1 => have q1_0 := q1.1; have q1_1 := q1.2.1; May.call ⟨?_, trivial⟩ fun x2 q2 => have q2 := q2.1; May.call ⟨?_, trivial⟩ fun x3 q3 => have q3 := q3.1; May.chk (fun hπ => have g1 := B.neg (B.not (B.beq)) hπ.1; ⟨?_, trivial⟩) fun c1 => May.clq ⟨?_, trivial⟩ fun x4 q4 => have q4 := q4.1; May.lp (B.or (B.or (B.not (B.beq)) (B.not (Iff.rfl))) (B.not (Iff.rfl))) fun x5 e5 => May.lp (B.or (B.or (e5) (B.not (specSt))) (B.not (specPkt))) fun x6 e6 => May.iff (e6) (fun h2 => ?_) (fun h2 => ?_); rotate_left 5
  refine May.chk (fun hπ => have g1 := Iff.mp (B.beq) hπ.1; ⟨?_, trivial⟩) fun c2 => May.clq ⟨?_, trivial⟩ fun x7 q7 => have q7 := q7.1; May.ret ⟨?_, trivial⟩; rotate_left 3
  refine May.clq trivial fun x8 q8 => have q8 := q8.1; May.clq trivial fun x9 q9 => have q9 := q9.1; May.lp (B.and (B.and (B.dec) (Iff.rfl)) (B.eq)) fun x10 e10 => May.lwi fun x11 e11 => May.lp (B.and (B.and (e10) (B.eq)) (B.dec)) fun x12 e12 => May.chk (fun hπ => have g1 := B.neg (Iff.rfl) hπ.1; have g2 := Iff.mp (B.beq) hπ.2.1; ⟨?_, trivial⟩) fun c3 => May.clq ⟨?_, trivial⟩ fun x13 q13 => have q13 := q13.1; May.lp (B.and (B.beq) (B.or (Iff.rfl) (Iff.rfl))) fun x14 e14 => May.ret ⟨?_, trivial⟩
  all_goals try dsimp only
  all_goals first | with_reducible assumption | omega | (with_reducible rfl; done) | (exact rg_lt q3 q1_0; done) | (exact rgB q2 q3 q6; done) | (exact rgB q2 q3 q7; done) | (exact get_fin q3 (t_ok q1_0 h2) q8 q9 e11 e12 q13 e14; done)
abbrev ZcV.S := Classical.choose ZcV.X
def ZcV.c : Ctr := fc 5 [false] ZcV.L ZcV ZcV.S
theorem ZcV.good : Good Try.prog ZcV.c := mkFG (fn := Try.f5) {} ZcV.X (consG ZcS.good (consG ZcA.good (consG Zcz.good (consG ZbT.good (consG ZV.good (consG ZI.good (consG Zy.good (consG Zbf.good (consG Zcv.good noG))))))))) (by kernel_rfl) (by kernel_rfl) (l0 (by kernel_rfl)) (c0 (by kernel_rfl)) fun s K => by kernel_rfl
end
end Hw
end Go.Proofs.Ytloicplgckomdaa
