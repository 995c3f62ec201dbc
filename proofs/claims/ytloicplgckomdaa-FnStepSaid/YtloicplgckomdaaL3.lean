/- Laws of steps of chains: made by gen.py. -/
import Derived.Test.YtloicplgckomdaaL0
import Derived.Test.YtloicplgckomdaaL2
import Derived.Test.YtloicplgckomdaaK6
set_option linter.unusedVariables false
set_option linter.unusedSimpArgs false
set_option maxRecDepth 100000
set_option maxHeartbeats 400000
namespace Go.Proofs.Ytloicplgckomdaa
namespace Hw
open Go
noncomputable section
attribute [local irreducible] evFn evBody wrap wxor
theorem after_lt {s : St} {k : Int} (h : s.lt) : (after s k).lt := by
  obtain ⟨a1, a2, a3, a4⟩ := after_sent s k
  unfold St.lt
  rw [a1, a2, a3, a4]
  exact h
theorem rel_lt {c r : Ch} {s : St} {k : Int} {b : Bool} (q : RelQ c s k r b) (h : c.lt) : r.lt := by
  by_cases g : b = true
  · rw [q.2.1 g]
    exact ⟨h.1, after_lt h.2.1, h.2.2.1, h.2.2.2⟩
  · by_cases g' : ChOk c ∧ StOk s
    · rw [(q.2.2 g).1 g']
      exact h
    · rw [(q.2.2 g).2 g']
      exact ⟨⟨by decide, by decide, by decide, by decide⟩, zst_lt, ⟨by decide, fun k => by rw [getD_ge (Nat.zero_le k)]; exact zst_lt⟩, by decide⟩
theorem rel_same {c r r' : Ch} {s : St} {k : Int} {b b' : Bool} (q : RelQ c s k r b) (q' : RelQ c s k r' b') : b = b' ∧ r = r' := by
  have hb : b = b' := Bool.eq_iff_iff.2 (q.1.trans q'.1.symm)
  subst hb
  refine ⟨rfl, ?_⟩
  by_cases g : b = true
  · rw [q.2.1 g, q'.2.1 g]
  · by_cases g' : ChOk c ∧ StOk s
    · rw [(q.2.2 g).1 g', (q'.2.2 g).1 g']
    · rw [(q.2.2 g).2 g', (q'.2.2 g).2 g']
theorem relB {c r r' : Ch} {s : St} {k : Int} {b b' x : Bool} (q : RelQ c s k r b) (q' : RelQ c s k r' b') (q6 : x = true ↔ r' = r) : (bif b' == b then x else false) = true := by
  obtain ⟨h1, h2⟩ := rel_same q' q
  rw [h1, q6.2 h2]
  simp
theorem stepOk {c : Ch} {s : St} {p : Prop} (hl : c.lt) (h : ¬((p ∨ ¬ZV.S c = true) ∨ ¬StOk s)) : ChOk c ∧ StOk s := ⟨(specChL hl).1 (nn fun g => h (.inl (.inr g))), nn fun g => h (.inr g)⟩
theorem step_fin {c r : Ch} {s x : St} {k : Int} {b b9 x10 x11 x13 x15 : Bool} (q3 : RelQ c s k r b) (h : b = true) (q9 : DoQ c.st s k x b9) (q10 : x10 = true ↔ r.st = x) (q11 : x11 = true ↔ r.bank = c.bank) (q13 : x13 = true ↔ r.knows = c.knows) (e15 : x15 = true ↔ (((b9 = true ∧ x10 = true) ∧ x11 = true) ∧ x13 = true) ∧ (r.past.length : Int) = (c.past.length : Int)) : x15 = true := by
  have hm := (q3.1.1 h).2
  have hr := q3.2.1 h
  have h9 := q9.1.2 hm
  have hx := q9.2.1 h9
  subst hr
  exact e15.2 ⟨⟨⟨⟨h9, q10.2 hx.symm⟩, q11.2 rfl⟩, q13.2 rfl⟩, rfl⟩
theorem step_not {c r : Ch} {s : St} {k : Int} {b x7 x8 : Bool} (q3 : RelQ c s k r b) (h : ¬ b = true) (ho : ChOk c ∧ StOk s) (q7 : x7 = true ↔ r = c) (q8 : x8 = true ↔ MayW c.st s k) : (bif x7 then !x8 else false) = true := by
  rw [B.and q7 (B.not q8)]
  exact ⟨(q3.2.2 h).1 ho, fun g => h (q3.1.2 ⟨ho.1, g⟩)⟩
theorem rel_ok {c r : Ch} {s : St} {k : Int} {b : Bool} (q : RelQ c s k r b) (h : b = true) : ChOk r := by
  have hm := (q.1.1 h)
  rw [q.2.1 h]
  obtain ⟨h1, h2, h3, h4, h5, h6⟩ := hm.1
  exact ⟨h1, h2, after_ok hm.2, h4, h5, h6⟩
theorem same_fin {c c' r : Ch} {s x y : St} {k n : Int} {b b10 b11 b12 x13 x15 x16 : Bool} (q4 : RelQ c s k c' b) (h : b = true) (q10 : RelQ c' s n r b10) (q11 : DoQ c.st s k x b11) (q12 : DoQ x s n y b12) (q13 : x13 = true ↔ r.st = y) (q15 : x15 = true ↔ r = c') (e16 : x16 = true ↔ (b10 = b12 ∧ (¬b10 = true ∨ x13 = true)) ∧ (b10 = true ∨ x15 = true)) : x16 = true := by
  have hm := q4.1.1 h
  have hc := q4.2.1 h
  have ho := rel_ok q4 h
  have hx : x = c'.st := by rw [q11.2.1 (q11.1.2 hm.2), hc]; rfl
  subst hx
  have hb : b10 = b12 := Bool.eq_iff_iff.2 (q10.1.trans (⟨fun g => g.2, fun g => ⟨ho, g⟩⟩ : ChOk c' ∧ MayW c'.st s n ↔ _) |>.trans q12.1.symm)
  subst hb
  rw [e16]
  refine ⟨⟨rfl, ?_⟩, ?_⟩
  · by_cases g : b10 = true
    · refine .inr (q13.2 ?_)
      rw [q10.2.1 g, q12.2.1 g]
      rfl
    · exact .inl g
  · by_cases g : b10 = true
    · exact .inl g
    · exact .inr (q15.2 ((q10.2.2 g).1 ⟨ho, hm.2.1.2⟩))

def Zb5.L : FL := fCons (fC (cArr true kU8s)) (fNil)
def Zb5 : List Int × Unit → FR (Bool) := fun (a0, ()) => ⟨(∀ k, 0 ≤ a0.getD k 0 ∧ a0.getD k 0 ≤ 255) ∧ True, fun X => And (Imp ((decide ((a0.length : Int) > 1048576)) = true) (X true)) (Imp ((decide ((a0.length : Int) > 1048576)) = false) (Call Zb1.X (a0, ()) fun x1 => Call Zb2.X (x1.1, x1.2.1, x1.2.2, ()) fun x2 => Call Zb4.X (x1.1, x1.2.1, x1.2.2, ()) fun x3 => And (Imp (And ((!((x3.2 : Bool) == x2.2)) = false) (True)) ((ZbT (x3.1, x2.1, ())).P)) (Lt ((ZbT.S (x3.1, x2.1, ()))) fun x4 => Lt (bif bif !((x3.2 : Bool) == x2.2) then true else !x4 then true else !(ZV.S x1.1)) fun x5 => And (Imp ((bif x5 then true else !(ZI.S x1.2.1)) = true) (And (Imp (And (((x3.2 : Bool) == x2.2) = true) (True)) ((ZbT (x3.1, x2.1, ())).P)) (Lt ((ZbT.S (x3.1, x2.1, ()))) fun x6 => X (bif (x3.2 : Bool) == x2.2 then x6 else false)))) (Imp ((bif x5 then true else !(ZI.S x1.2.1)) = false) (And (Imp ((!x3.2) = true) (Call ZbT.X (x3.1, x1.1, ()) fun x7 => Lt ((Za1.S (x1.1.st, x1.2.1, x1.2.2, ()))) fun x8 => X (bif x7 then !x8 else false))) (Imp ((!x3.2) = false) (Call0 Zbe.X (x1.1.st, x1.2.1, x1.2.2, ()) fun x9 => And (Imp (And (x9.2 = true) (True)) ((Zbq (x3.1.st, x9.1, ())).P)) (Lt ((Zbq.S (x3.1.st, x9.1, ()))) fun x10 => And (Imp (And ((bif x9.2 then x10 else false) = true) (True)) ((ZbS (x3.1.bank, x1.1.bank, ())).P)) (Lt ((ZbS.S (x3.1.bank, x1.1.bank, ()))) fun x11 => Lt (bif bif x9.2 then x10 else false then x11 else false) fun x12 => And (Imp (And (x12 = true) (True)) ((Za (x3.1.knows, x1.1.knows, ())).P)) (Lt ((Za.S (x3.1.knows, x1.1.knows, ()))) fun x13 => Lt ((x3.1.past.length : Int) == (x1.1.past.length : Int)) fun x14 => Lt (bif bif x12 then x13 else false then x14 else false) fun x15 => X x15)))))))))), fun r => (r = true) ∧ True, fun r => (.v (.c (.bool r)), [])⟩
theorem Zb5.X : XF Zb5 := mkF (false) fun (a0, ()) hp => by
  obtain ⟨p0, -⟩ := hp
  dsimp only [Zb5]
  refine May.iff (B.dec) (fun h1 => ?_) (fun h1 => ?_)
  refine May.ret ⟨?_, trivial⟩; rotate_left 1
  refine May.call ⟨?_, trivial⟩ fun x1 q1 => have q1_0 := q1.1; have q1_1 := q1.2.1; May.call ⟨?_, trivial⟩ fun x2 q2 => have q2 := q2.1; May.call ⟨?_, trivial⟩ fun x3 q3 => have q3 := q3.1; May.chk (fun hπ => have g1 := B.neg (B.not (B.beq)) hπ.1; ⟨?_, trivial⟩) fun c1 => May.clq ⟨?_, trivial⟩ fun x4 q4 => have q4 := q4.1; May.lp (B.or (B.or (B.not (B.beq)) (B.not (Iff.rfl))) (B.not (Iff.rfl))) fun x5 e5 => May.iff (B.or (e5) (B.not (specSt))) (fun h2 => ?_) (fun h2 => ?_); rotate_left 5
  refine May.chk (fun hπ => have g1 := Iff.mp (B.beq) hπ.1; ⟨?_, trivial⟩) fun c2 => May.clq ⟨?_, trivial⟩ fun x6 q6 => have q6 := q6.1; May.ret ⟨?_, trivial⟩; rotate_left 3
  refine May.iff (B.not (Iff.rfl)) (fun h3 => ?_) (fun h3 => ?_)
  refine May.call ⟨?_, trivial⟩ fun x7 q7 => have q7 := q7.1; May.clq trivial fun x8 q8 => have q8 := q8.1; May.ret ⟨?_, trivial⟩; rotate_left 2
  refine May.call0 trivial fun x9 q9 => have q9 := q9.1; May.chk (fun hπ => have g1 := Iff.mp (Iff.rfl) hπ.1; ⟨?_, trivial⟩) fun c3 => May.clq ⟨?_, trivial⟩ fun x10 q10 => have q10 := q10.1; May.chk (fun hπ => have g1 := Iff.mp (B.and (Iff.rfl) (Iff.rfl)) hπ.1; ⟨?_, ?_, trivial⟩) fun c4 => May.clq ⟨?_, ?_, trivial⟩ fun x11 q11 => have q11 := q11.1; May.lp (B.and (B.and (Iff.rfl) (Iff.rfl)) (Iff.rfl)) fun x12 e12 => May.chk (fun hπ => have g1 := Iff.mp (e12) hπ.1; ⟨?_, trivial⟩) fun c5 => May.clq ⟨?_, trivial⟩ fun x13 q13 => have q13 := q13.1; ?_; rotate_left 8
  refine May.lp (B.eq) fun x14 e14 => May.lp (B.and (B.and (e12) (Iff.rfl)) (e14)) fun x15 e15 => May.ret ⟨?_, trivial⟩
  all_goals try dsimp only
  all_goals first | with_reducible assumption | omega | (with_reducible rfl; done) | (exact step_fin q3 (nn h3) q9 q10 q11 q13 e15; done) | (exact rel_lt q3 q1_0; done) | (exact (rel_lt q3 q1_0).2.1; done) | (exact (rel_lt q3 q1_0).1.1; done) | (exact (rel_lt q3 q1_0).1.2.1; done) | (exact (rel_lt q3 q1_0).2.2.2; done) | (exact relB q2 q3 q6; done) | (exact step_not q3 h3 (stepOk q1_0 h2) q7 q8; done)
abbrev Zb5.S := Classical.choose Zb5.X
def Zb5.c : Ctr := fc 4 [false] Zb5.L Zb5 Zb5.S
theorem Zb5.good : Good Try.prog Zb5.c := mkFG (fn := Try.f4) {} Zb5.X (consG Zb1.good (consG Zb2.good (consG Zb4.good (consG ZbT.good (consG ZV.good (consG ZI.good (consG Za1.good (consG Zbe.good (consG Zbq.good (consG ZbS.good (consG Za.good noG))))))))))) (by kernel_rfl) (by kernel_rfl) (l0 (by kernel_rfl)) (c0 (by kernel_rfl)) fun s K => by kernel_rfl
end
end Hw
end Go.Proofs.Ytloicplgckomdaa
