/- Laws of steps of chains, 2: made by gen.py. -/
import Derived.Test.YtloicplgckomdaaL0
import Derived.Test.YtloicplgckomdaaL2
import Derived.Test.YtloicplgckomdaaK6
set_option linter.unusedVariables false
set_option linter.unusedSimpArgs false
set_option maxRecDepth 100000
set_option maxHeartbeats 400000
namespace Go.Proofs.Ytloicplgckomdaa
namespace Hw
open Go
noncomputable section
attribute [local irreducible] evFn evBody wrap wxor
theorem after_lt {s : St} {k : Int} (h : s.lt) : (after s k).lt := by
  obtain ⟨a1, a2, a3, a4⟩ := after_sent s k
  unfold St.lt
  rw [a1, a2, a3, a4]
  exact h
theorem rel_lt {c r : Ch} {s : St} {k : Int} {b : Bool} (q : RelQ c s k r b) (h : c.lt) : r.lt := by
  by_cases g : b = true
  · rw [q.2.1 g]
    exact ⟨h.1, after_lt h.2.1, h.2.2.1, h.2.2.2⟩
  · by_cases g' : ChOk c ∧ StOk s
    · rw [(q.2.2 g).1 g']
      exact h
    · rw [(q.2.2 g).2 g']
      exact ⟨⟨by decide, by decide, by decide, by decide⟩, zst_lt, ⟨by decide, fun k => by rw [getD_ge (Nat.zero_le k)]; exact zst_lt⟩, by decide⟩
theorem rel_same {c r r' : Ch} {s : St} {k : Int} {b b' : Bool} (q : RelQ c s k r b) (q' : RelQ c s k r' b') : b = b' ∧ r = r' := by
  have hb : b = b' := Bool.eq_iff_iff.2 (q.1.trans q'.1.symm)
  subst hb
  refine ⟨rfl, ?_⟩
  by_cases g : b = true
  · rw [q.2.1 g, q'.2.1 g]
  · by_cases g' : ChOk c ∧ StOk s
    · rw [(q.2.2 g).1 g', (q'.2.2 g).1 g']
    · rw [(q.2.2 g).2 g', (q'.2.2 g).2 g']
theorem relB {c r r' : Ch} {s : St} {k : Int} {b b' x : Bool} (q : RelQ c s k r b) (q' : RelQ c s k r' b') (q6 : x = true ↔ r' = r) : (bif b' == b then x else false) = true := by
  obtain ⟨h1, h2⟩ := rel_same q' q
  rw [h1, q6.2 h2]
  simp
theorem stepOk {c : Ch} {s : St} {p : Prop} (hl : c.lt) (h : ¬((p ∨ ¬ZV.S c = true) ∨ ¬StOk s)) : ChOk c ∧ StOk s := ⟨(specChL hl).1 (nn fun g => h (.inl (.inr g))), nn fun g => h (.inr g)⟩
theorem step_fin {c r : Ch} {s x : St} {k : Int} {b b9 x10 x11 x13 x15 : Bool} (q3 : RelQ c s k r b) (h : b = true) (q9 : DoQ c.st s k x b9) (q10 : x10 = true ↔ r.st = x) (q11 : x11 = true ↔ r.bank = c.bank) (q13 : x13 = true ↔ r.knows = c.knows) (e15 : x15 = true ↔ (((b9 = true ∧ x10 = true) ∧ x11 = true) ∧ x13 = true) ∧ (r.past.length : Int) = (c.past.length : Int)) : x15 = true := by
  have hm := (q3.1.1 h).2
  have hr := q3.2.1 h
  have h9 := q9.1.2 hm
  have hx := q9.2.1 h9
  subst hr
  exact e15.2 ⟨⟨⟨⟨h9, q10.2 hx.symm⟩, q11.2 rfl⟩, q13.2 rfl⟩, rfl⟩
theorem step_not {c r : Ch} {s : St} {k : Int} {b x7 x8 : Bool} (q3 : RelQ c s k r b) (h : ¬ b = true) (ho : ChOk c ∧ StOk s) (q7 : x7 = true ↔ r = c) (q8 : x8 = true ↔ MayW c.st s k) : (bif x7 then !x8 else false) = true := by
  rw [B.and q7 (B.not q8)]
  exact ⟨(q3.2.2 h).1 ho, fun g => h (q3.1.2 ⟨ho.1, g⟩)⟩
theorem rel_ok {c r : Ch} {s : St} {k : Int} {b : Bool} (q : RelQ c s k r b) (h : b = true) : ChOk r := by
  have hm := (q.1.1 h)
  rw [q.2.1 h]
  obtain ⟨h1, h2, h3, h4, h5, h6⟩ := hm.1
  exact ⟨h1, h2, after_ok hm.2, h4, h5, h6⟩
theorem same_fin {c c' r : Ch} {s x y : St} {k n : Int} {b b10 b11 b12 x13 x15 x16 : Bool} (q4 : RelQ c s k c' b) (h : b = true) (q10 : RelQ c' s n r b10) (q11 : DoQ c.st s k x b11) (q12 : DoQ x s n y b12) (q13 : x13 = true ↔ r.st = y) (q15 : x15 = true ↔ r = c') (e16 : x16 = true ↔ (b10 = b12 ∧ (¬b10 = true ∨ x13 = true)) ∧ (b10 = true ∨ x15 = true)) : x16 = true := by
  have hm := q4.1.1 h
  have hc := q4.2.1 h
  have ho := rel_ok q4 h
  have hx : x = c'.st := by rw [q11.2.1 (q11.1.2 hm.2), hc]; rfl
  subst hx
  have hb : b10 = b12 := Bool.eq_iff_iff.2 (q10.1.trans (⟨fun g => g.2, fun g => ⟨ho, g⟩⟩ : ChOk c' ∧ MayW c'.st s n ↔ _) |>.trans q12.1.symm)
  subst hb
  rw [e16]
  refine ⟨⟨rfl, ?_⟩, ?_⟩
  · by_cases g : b10 = true
    · refine .inr (q13.2 ?_)
      rw [q10.2.1 g, q12.2.1 g]
      rfl
    · exact .inl g
  · by_cases g : b10 = true
    · exact .inl g
    · exact .inr (q15.2 ((q10.2.2 g).1 ⟨ho, hm.2.1.2⟩))

def Zb6.L : FL := fCons (fC (cArr true kU8s)) (fCons (fC (cArr true kU8s)) (fNil))
def Zb6 : List Int × List Int × Unit → FR (Bool) := fun (a0, a1, ()) => ⟨(∀ k, 0 ≤ a0.getD k 0 ∧ a0.getD k 0 ≤ 255) ∧ True, fun X => Lt (bif decide ((a0.length : Int) > 1048576) then true else decide ((a1.length : Int) > 1048576)) fun x1 => And (Imp (x1 = true) (X true)) (Imp (x1 = false) (Call Zb1.X (a0, ()) fun x2 => Call Zb2.X (x2.1, x2.2.1, x2.2.2, ()) fun x3 => Call Zb4.X (x2.1, x2.2.1, x2.2.2, ()) fun x4 => And (Imp (And ((!((x4.2 : Bool) == x3.2)) = false) (True)) ((ZbT (x4.1, x3.1, ())).P)) (Lt ((ZbT.S (x4.1, x3.1, ()))) fun x5 => Lt (bif bif !((x4.2 : Bool) == x3.2) then true else !x5 then true else !x4.2) fun x6 => And (Imp (x6 = true) (And (Imp (And (((x4.2 : Bool) == x3.2) = true) (True)) ((ZbT (x4.1, x3.1, ())).P)) (Lt ((ZbT.S (x4.1, x3.1, ()))) fun x7 => X (bif (x4.2 : Bool) == x3.2 then x7 else false)))) (Imp (x6 = false) (And ((7 : Int) ≠ 0) (Lt ((a1.length : Int).tmod 7) fun x8 => Lt (wrap (1 + x8)) fun x9 => Call Zb4.X (x4.1, x2.2.1, x9, ()) fun x10 => Call0 Zbe.X (x2.1.st, x2.2.1, x2.2.2, ()) fun x11 => Call0 Zbe.X (x11.1, x2.2.1, x9, ()) fun x12 => And (Imp (And ((!x10.2) = false) (And (((x10.2 : Bool) == x12.2) = true) (True))) ((Zbq (x10.1.st, x12.1, ())).P)) (Lt ((Zbq.S (x10.1.st, x12.1, ()))) fun x13 => Lt (bif (x10.2 : Bool) == x12.2 then bif !x10.2 then true else x13 else false) fun x14 => And (Imp (And (x10.2 = false) (And (x14 = true) (True))) ((ZbT (x10.1, x4.1, ())).P)) (Lt ((ZbT.S (x10.1, x4.1, ()))) fun x15 => Lt (bif x14 then bif x10.2 then true else x15 else false) fun x16 => X x16)))))))), fun r => (r = true) ∧ True, fun r => (.v (.c (.bool r)), [])⟩
theorem Zb6.X : XF Zb6 := mkF (false) fun (a0, a1, ()) hp => by
  obtain ⟨p0, -⟩ := hp
  dsimp only [Zb6]
  refine May.lp (B.or (B.dec) (B.dec)) fun x1 e1 => May.iff (e1) (fun h1 => ?_) (fun h1 => ?_)
  refine May.ret ⟨?_, trivial⟩; rotate_left 1
  refine May.call ⟨?_, trivial⟩ fun x2 q2 => have q2_0 := q2.1; have q2_1 := q2.2.1; May.call ⟨?_, trivial⟩ fun x3 q3 => have q3 := q3.1; May.call ⟨?_, trivial⟩ fun x4 q4 => have q4 := q4.1; May.chk (fun hπ => have g1 := B.neg (B.not (B.beq)) hπ.1; ⟨?_, trivial⟩) fun c1 => May.clq ⟨?_, trivial⟩ fun x5 q5 => have q5 := q5.1; May.lp (B.or (B.or (B.not (B.beq)) (B.not (Iff.rfl))) (B.not (Iff.rfl))) fun x6 e6 => May.iff (e6) (fun h2 => ?_) (fun h2 => ?_); rotate_left 5
  refine May.chk (fun hπ => have g1 := Iff.mp (B.beq) hπ.1; ⟨?_, trivial⟩) fun c2 => May.clq ⟨?_, trivial⟩ fun x7 q7 => have q7 := q7.1; May.ret ⟨?_, trivial⟩; rotate_left 3
  refine May.chk ?_ fun c3 => May.lm ?_ fun x8 e8 => May.lw ⟨?_, ?_⟩ fun x9 e9 => May.call ⟨?_, trivial⟩ fun x10 q10 => have q10 := q10.1; May.call0 trivial fun x11 q11 => have q11 := q11.1; May.call0 trivial fun x12 q12 => have q12 := q12.1; May.chk (fun hπ => have g1 := B.neg (B.not (Iff.rfl)) hπ.1; have g2 := Iff.mp (B.beq) hπ.2.1; ⟨?_, trivial⟩) fun c4 => May.clq ⟨?_, trivial⟩ fun x13 q13 => have q13 := q13.1; ?_; rotate_left 7
  refine May.lp (B.and (B.beq) (B.or (B.not (Iff.rfl)) (Iff.rfl))) fun x14 e14 => May.chk (fun hπ => have g1 := B.neg (Iff.rfl) hπ.1; have g2 := Iff.mp (e14) hπ.2.1; ⟨?_, trivial⟩) fun c5 => May.clq ⟨?_, trivial⟩ fun x15 q15 => have q15 := q15.1; May.lp (B.and (e14) (B.or (Iff.rfl) (Iff.rfl))) fun x16 e16 => May.ret ⟨?_, trivial⟩
  all_goals try dsimp only
  all_goals first | with_reducible assumption | omega | (with_reducible rfl; done) | (exact rel_lt q10 (rel_lt q4 q2_0); done) | (exact same_fin q4 (nn fun g => h2 (.inr g)) q10 q11 q12 q13 q15 e16; done) | (exact rel_lt q4 q2_0; done) | (exact relB q3 q4 q7; done) | (exact (rel_lt q10 (rel_lt q4 q2_0)).2.1; done)
abbrev Zb6.S := Classical.choose Zb6.X
def Zb6.c : Ctr := fc 3 [false, false] Zb6.L Zb6 Zb6.S
theorem Zb6.good : Good Try.prog Zb6.c := mkFG (fn := Try.f3) {} Zb6.X (consG Zb1.good (consG Zb2.good (consG Zb4.good (consG ZbT.good (consG Zbe.good (consG Zbq.good noG)))))) (by kernel_rfl) (by kernel_rfl) (l0 (by kernel_rfl)) (c0 (by kernel_rfl)) fun s K => by kernel_rfl
end
end Hw
end Go.Proofs.Ytloicplgckomdaa
