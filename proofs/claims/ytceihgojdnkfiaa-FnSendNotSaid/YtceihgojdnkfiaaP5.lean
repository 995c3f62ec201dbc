/- Laws of what is sent: made by gen.py. -/
import Derived.Test.YtceihgojdnkfiaaP3
import Derived.Test.YtceihgojdnkfiaaP4
set_option linter.unusedVariables false
set_option linter.unusedSimpArgs false
set_option maxRecDepth 100000
set_option maxHeartbeats 400000
namespace Go.Proofs.Ytceihgojdnkfiaa
namespace Hw
open Go
noncomputable section
attribute [local irreducible] evFn evBody wrap wxor
theorem not_fin {c r : Ch} {k f t s u n x9 x11 : Int} {b x12 x13 x14 : Bool} (ho : ChOk c) (q3 : CsQ c k f t s u r n b) (e9 : x9 = (c.st.sent.length : Int) + 1) (q11 : HasK c.bank k f x11) (e12 : x12 = true ↔ (c.st.way = 3 ∧ PktOk ⟨x9, k, f, t, s, u, c.st.ver⟩) ∧ x11 ≥ s) (q13 : x13 = true ↔ r = c) (e14 : x14 = true ↔ b = true ∨ x13 = true ∧ n = 0) : (bif b == x12 then x14 else false) = true := by
  subst e9
  have hb : b = x12 := Bool.eq_iff_iff.2 (q3.1.trans (Iff.trans ⟨fun g => ?_, fun g => ?_⟩ e12.symm))
  · subst hb
    have h14 : x14 = true := e14.2 (by
      by_cases g : b = true
      · exact .inl g
      · exact .inr ⟨q13.2 ((q3.2.2 g).2.1 ho), (q3.2.2 g).1⟩)
    rw [h14]
    simp
  · refine ⟨⟨g.2.1, g.2.2.1⟩, ?_⟩
    have h1 := (cs_may ho g.2.2.1).1 g.2.2.2
    rw [q11 g.2.2.1.2.2.1 ho.2.1.1.1 ho.2.1.2.1.1]
    omega
  · refine ⟨ho, g.1.1, g.1.2, (cs_may ho g.1.2).2 ?_⟩
    have := q11 g.1.2.2.2.1 ho.2.1.1.1 ho.2.1.2.1.1
    omega

def Zco.L : FL := fCons (fC (cArr true kU8s)) (fNil)
def Zco : List Int × Unit → FR (Bool) := fun (a0, ()) => ⟨(∀ k, 0 ≤ a0.getD k 0 ∧ a0.getD k 0 ≤ 255) ∧ True, fun X => And (Imp ((decide ((a0.length : Int) > 1048576)) = true) (X true)) (Imp ((decide ((a0.length : Int) > 1048576)) = false) (Call Zcl.X (a0, ()) fun x1 => Call Zck.X (x1.1, x1.2.1, x1.2.2.1, x1.2.2.2.1, x1.2.2.2.2.1, x1.2.2.2.2.2, ()) fun x2 => Call Zcj.X (x1.1, x1.2.1, x1.2.2.1, x1.2.2.2.1, x1.2.2.2.2.1, x1.2.2.2.2.2, ()) fun x3 => Lt (bif !((x3.2.2 : Bool) == x2.2.2) then true else x3.2.1 != x2.2.1) fun x4 => And (Imp (And (x4 = false) (True)) ((ZbT (x3.1, x2.1, ())).P)) (Lt ((ZbT.S (x3.1, x2.1, ()))) fun x5 => Lt (bif bif x4 then true else !x5 then true else !(ZV.S x1.1)) fun x6 => And (Imp (x6 = true) (Lt (bif (x3.2.2 : Bool) == x2.2.2 then x3.2.1 == x2.2.1 else false) fun x7 => And (Imp (And (x7 = true) (True)) ((ZbT (x3.1, x2.1, ())).P)) (Lt ((ZbT.S (x3.1, x2.1, ()))) fun x8 => X (bif x7 then x8 else false)))) (Imp (x6 = false) (Lt (wrap ((x1.1.st.sent.length : Int) + 1)) fun x9 => Lt (Zz.S (⟨x9, x1.2.1, x1.2.2.1, x1.2.2.2.1, x1.2.2.2.2.1, x1.2.2.2.2.2, x1.1.st.ver⟩ : Pkt)) fun x10 => And (Imp (And ((bif x1.1.st.way == 3 then x10 else false) = true) (True)) ((Zcn (x1.1.bank, x1.2.1, x1.2.2.1, ())).P)) (Lt ((Zcn.S (x1.1.bank, x1.2.1, x1.2.2.1, ()))) fun x11 => Lt (bif bif x1.1.st.way == 3 then x10 else false then decide (x11 ≥ x1.2.2.2.2.1) else false) fun x12 => And (Imp (And (x3.2.2 = false) (And (((x3.2.2 : Bool) == x12) = true) (True))) ((ZbT (x3.1, x1.1, ())).P)) (Lt ((ZbT.S (x3.1, x1.1, ()))) fun x13 => Lt (bif x3.2.2 then true else bif x13 then x3.2.1 == 0 else false) fun x14 => X (bif (x3.2.2 : Bool) == x12 then x14 else false)))))))), fun r => (r = true) ∧ True, fun r => (.v (.c (.bool r)), [])⟩
theorem Zco.X : XF Zco := mkF (false) fun (a0, ()) hp => by
  obtain ⟨p0, -⟩ := hp
  dsimp only [Zco]
  refine May.iff (B.dec) (fun h1 => ?_) (fun h1 => ?_)
  refine May.ret ⟨?_, trivial⟩; rotate_left 1
  refine May.call ⟨?_, trivial⟩ fun x1 q1 => have q1 := q1.1; May.call ⟨?_, trivial⟩ fun x2 q2 => have q2 := q2.1; May.call ⟨?_, trivial⟩ fun x3 q3 => have q3 := q3.1; May.lp (B.or (B.not (B.beq)) (B.ne)) fun x4 e4 => May.chk (fun hπ => have g1 := B.neg (e4) hπ.1; ⟨?_, trivial⟩) fun c1 => May.clq ⟨?_, trivial⟩ fun x5 q5 => have q5 := q5.1; May.lp (B.or (B.or (e4) (B.not (Iff.rfl))) (B.not (Iff.rfl))) fun x6 e6 => May.iff (e6) (fun h2 => ?_) (fun h2 => ?_); rotate_left 5
  refine May.lp (B.and (B.beq) (B.eq)) fun x7 e7 => May.chk (fun hπ => have g1 := Iff.mp (e7) hπ.1; ⟨?_, trivial⟩) fun c2 => May.clq ⟨?_, trivial⟩ fun x8 q8 => have q8 := q8.1; May.ret ⟨?_, trivial⟩; rotate_left 3
  refine May.lw ⟨?_, ?_⟩ fun x9 e9 => May.lp (implPkt) fun x10 e10 => May.chk (fun hπ => have g1 := Iff.mp (B.and (B.eq) (e10)) hπ.1; ⟨?_, ?_, trivial⟩) fun c3 => May.clq ⟨?_, ?_, trivial⟩ fun x11 q11 => have q11 := q11.1; May.lp (B.and (B.and (B.eq) (e10)) (B.dec)) fun x12 e12 => May.chk (fun hπ => have g1 := B.neg (Iff.rfl) hπ.1; have g2 := Iff.mp (B.beq) hπ.2.1; ⟨?_, trivial⟩) fun c4 => May.clq ⟨?_, trivial⟩ fun x13 q13 => have q13 := q13.1; May.lp (B.or (Iff.rfl) (B.and (Iff.rfl) (B.eq))) fun x14 e14 => May.ret ⟨?_, trivial⟩
  all_goals try dsimp only
  all_goals first | with_reducible assumption | omega | (with_reducible rfl; done) | (have := q1.2.1.1; omega; done) | (exact q1.1.1; done) | (exact q1.1.2.1; done) | (exact cs_lt q3 q1; done) | (exact csB q2 q3 e7 q8; done) | (exact not_fin (csOk q1 h2) q3 e9 q11 e12 q13 e14; done)
abbrev Zco.S := Classical.choose Zco.X
def Zco.c : Ctr := fc 13 [false] Zco.L Zco Zco.S
theorem Zco.good : Good Try.prog Zco.c := mkFG (fn := Try.f13) {} Zco.X (consG Zcl.good (consG Zck.good (consG Zcj.good (consG ZbT.good (consG ZV.good (consG Zz.good (consG Zcn.good noG))))))) (by kernel_rfl) (by kernel_rfl) (l0 (by kernel_rfl)) (c0 (by kernel_rfl)) fun s K => by kernel_rfl
end
end Hw
end Go.Proofs.Ytceihgojdnkfiaa
