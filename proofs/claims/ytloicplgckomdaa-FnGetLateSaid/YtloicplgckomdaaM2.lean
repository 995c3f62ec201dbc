/- Coins are given back: made by gen.py. -/
import Derived.Test.YtloicplgckomdaaM0
set_option linter.unusedVariables false
set_option linter.unusedSimpArgs false
set_option maxRecDepth 100000
set_option maxHeartbeats 400000
namespace Go.Proofs.Ytloicplgckomdaa
namespace Hw
open Go
noncomputable section
attribute [local irreducible] evFn evBody wrap wxor
def MayBack (b : Bk) (k f s : Int) : Prop := BkOk b ∧ (k = 1 ∨ k = 2) ∧ (1 ≤ f ∧ f ≤ 3) ∧ (0 ≤ s ∧ s ≤ 30) ∧ (k = 1 → s ≤ b.locked) ∧ (k = 2 → tot b.notes + s ≤ 30)
def backB (b : Bk) (k f s : Int) : Bk := if k = 1 then ⟨b.own.set (f - 1).toNat (b.own.getD (f - 1).toNat 0 + s), b.notes, b.locked - s⟩ else ⟨b.own, b.notes.set (f - 1).toNat (b.notes.getD (f - 1).toNat 0 + s), b.locked⟩
abbrev BackQ (b : Bk) (k f s : Int) (r : Bk) (t : Bool) : Prop := (t = true ↔ MayBack b k f s) ∧ (t = true → r = backB b k f s) ∧ (¬ t = true → r = zBk)
theorem bb_ok {k f s : Int} {b : Bk} {x : Option Nat × Bool} (q : CoinQ k x.1 x.2) (h : ¬((((¬x.2 = true ∨ ¬Zx.S f = true) ∨ s < 0) ∨ s > 30) ∨ ¬ZF.S b = true)) : ((k = 1 ∨ k = 2) ∧ (1 ≤ f ∧ f ≤ 3) ∧ 0 ≤ s ∧ s ≤ 30) ∧ BkOk b := by
  have h1 : x.2 = true := Classical.byContradiction fun g => h (.inl (.inl (.inl (.inl g))))
  have h2 : Zx.S f = true := Classical.byContradiction fun g => h (.inl (.inl (.inl (.inr g))))
  have h3 : ¬ s < 0 := fun g => h (.inl (.inl (.inr g)))
  have h5 : ¬ s > 30 := fun g => h (.inl (.inr g))
  have h4 : ZF.S b = true := Classical.byContradiction fun g => h (.inr g)
  exact ⟨⟨q.1.1 h1, aw_user.1 h2, by omega, by omega⟩, implBk.1 h4⟩
theorem bkQ_f {k f s : Int} {b : Bk} (h : ¬ MayBack b k f s) : BackQ b k f s zBk false := ⟨⟨fun g => (by cases g), fun g => absurd g h⟩, fun g => (by cases g), fun _ => rfl⟩
theorem bb_f0 {k f s : Int} {b : Bk} {x : Option Nat × Bool} (q : CoinQ k x.1 x.2) (h : (((¬x.2 = true ∨ ¬Zx.S f = true) ∨ s < 0) ∨ s > 30) ∨ ¬ZF.S b = true) : ¬ MayBack b k f s := by
  intro m
  obtain ⟨m1, m2, m3, m4, m5, m6⟩ := m
  rcases h with (((h | h) | h) | h) | h
  · exact h (q.1.2 m2)
  · exact h (aw_user.2 m3)
  · omega
  · omega
  · exact h (implBk.2 m1)
theorem bb_f1 {k f s : Int} {b x : Bk} (e : x = b) (hk : k = 1) (hs : x.locked < s) : ¬ MayBack b k f s := by
  subst e
  intro h
  have := h.2.2.2.2.1 hk
  omega
theorem bb_tot {b : Bk} (h : BkOk b) : (ZE.S b.notes).1 = tot b.notes ∧ 0 ≤ tot b.notes ∧ tot b.notes ≤ 30 := by
  refine ⟨implTotal.2 h.2.1, ?_, h.2.2.2.2⟩
  have := h.2.1.three
  unfold tot
  omega
theorem bb_f2 {k f s n : Int} {b : Bk} (h : BkOk b) (hk : ¬ k = 1) (en : n = (ZE.S b.notes).1 + s) (hs : n > 30) : ¬ MayBack b k f s := by
  intro m
  have := m.2.2.2.2.2 (by have := m.2.1; omega)
  have := (bb_tot h).1
  omega
theorem bb_t1 {k f s v u : Int} {b x y : Bk} (h : ((k = 1 ∨ k = 2) ∧ (1 ≤ f ∧ f ≤ 3) ∧ 0 ≤ s ∧ s ≤ 30) ∧ BkOk b) (e : x = b) (hk : k = 1) (hs : ¬ x.locked < s) (eu : u = x.locked - s) (ev : v = x.own.getD (f - 1).toNat 0 + s) (ey : y = ⟨mpSet x.own f v, x.notes, u⟩) : BackQ b k f s y true := by
  subst e
  have hl := h.2.1.1
  refine ⟨⟨fun _ => ⟨h.2, h.1.1, h.1.2.1, h.1.2.2, fun _ => (by omega), fun _ => (by omega)⟩, fun _ => rfl⟩, fun _ => ?_, fun g => absurd rfl g⟩
  rw [ey, ev, eu, mp_set (by omega)]
  unfold backB
  rw [if_pos hk]
theorem bb_t2 {k f s v n : Int} {b x y : Bk} (h : ((k = 1 ∨ k = 2) ∧ (1 ≤ f ∧ f ≤ 3) ∧ 0 ≤ s ∧ s ≤ 30) ∧ BkOk b) (e : x = b) (hk : ¬ k = 1) (en : n = (ZE.S b.notes).1 + s) (hs : ¬ n > 30) (ev : v = x.notes.getD (f - 1).toNat 0 + s) (ey : y = ⟨x.own, mpSet x.notes f v, x.locked⟩) : BackQ b k f s y true := by
  subst e
  have hl := h.2.2.1.1
  have ht := (bb_tot h.2).1
  refine ⟨⟨fun _ => ⟨h.2, h.1.1, h.1.2.1, h.1.2.2, fun _ => (by omega), fun _ => (by omega)⟩, fun _ => rfl⟩, fun _ => ?_, fun g => absurd rfl g⟩
  rw [ey, ev, mp_set (by omega)]
  unfold backB
  rw [if_neg hk]

def Zch.L : FL := fCons (fSh sBk) (fCons (fSh sInt) (fCons (fSh sInt) (fCons (fSh sInt) (fNil))))
def Zch : Bk × Int × Int × Int × Unit → FR (Bk × Bool) := fun (a0, a1, a2, a3, ()) => ⟨True, fun X => Call0 Zcf.X (a1, ()) fun x1 => Lt (bif bif !x1.2 then true else !(Zx.S a2) then true else decide (a3 < 0)) fun x2 => Lt (bif bif x2 then true else decide (a3 > 30) then true else !(ZF.S a0)) fun x3 => And (Imp (x3 = true) (X ((⟨[], [], 0⟩ : Bk), false))) (Imp (x3 = false) (Call Zcd.X (a0, ()) fun x4 => And (Imp ((a1 == 1) = true) (And (Imp ((decide (x4.locked < a3)) = true) (X ((⟨[], [], 0⟩ : Bk), false))) (Imp ((decide (x4.locked < a3)) = false) (Lt (wrap (x4.locked - a3)) fun x5 => Or (And (x1.1 = some 107) (And ((1 : Int) ≤ a2) (Lt (wrap (((⟨x4.own, x4.notes, x5⟩ : Bk).own.getD (a2 - 1).toNat 0) + a3)) fun x6 => And ((1 : Int) ≤ a2 ∧ a2 ≤ ((⟨x4.own, x4.notes, x5⟩ : Bk).own.length : Int) + 1) (Call Zce.X ((⟨mpSet (⟨x4.own, x4.notes, x5⟩ : Bk).own a2 x6, (⟨x4.own, x4.notes, x5⟩ : Bk).notes, x5⟩ : Bk), ()) fun x7 => X (x7, true))))) (And (x1.1 = some 108) (And ((1 : Int) ≤ a2) (Lt (wrap (((⟨x4.own, x4.notes, x5⟩ : Bk).notes.getD (a2 - 1).toNat 0) + a3)) fun x8 => And ((1 : Int) ≤ a2 ∧ a2 ≤ ((⟨x4.own, x4.notes, x5⟩ : Bk).notes.length : Int) + 1) (Call Zce.X ((⟨(⟨x4.own, x4.notes, x5⟩ : Bk).own, mpSet (⟨x4.own, x4.notes, x5⟩ : Bk).notes a2 x8, x5⟩ : Bk), ()) fun x9 => X (x9, true))))))))) (Imp ((a1 == 1) = false) (Lt (wrap ((ZE.S a0.notes).1 + a3)) fun x10 => And (Imp ((decide (x10 > 30)) = true) (X ((⟨[], [], 0⟩ : Bk), false))) (Imp ((decide (x10 > 30)) = false) (Or (And (x1.1 = some 107) (And ((1 : Int) ≤ a2) (Lt (wrap ((x4.own.getD (a2 - 1).toNat 0) + a3)) fun x11 => And ((1 : Int) ≤ a2 ∧ a2 ≤ (x4.own.length : Int) + 1) (Call Zce.X ((⟨mpSet x4.own a2 x11, x4.notes, x4.locked⟩ : Bk), ()) fun x12 => X (x12, true))))) (And (x1.1 = some 108) (And ((1 : Int) ≤ a2) (Lt (wrap ((x4.notes.getD (a2 - 1).toNat 0) + a3)) fun x13 => And ((1 : Int) ≤ a2 ∧ a2 ≤ (x4.notes.length : Int) + 1) (Call Zce.X ((⟨x4.own, mpSet x4.notes a2 x13, x4.locked⟩ : Bk), ()) fun x14 => X (x14, true))))))))))), fun r => (BackQ a0 a1 a2 a3 r.1 r.2) ∧ True, fun r => (.tup [.agg [.own 0 1 3, .own 1 1 3, .int r.1.locked], .c (.bool r.2)], [.arr (.ints r.1.own), .arr (.ints r.1.notes)])⟩
theorem Zch.X : XF Zch := mkF (zBk, false) fun (a0, a1, a2, a3, ()) hp => by
  clear hp
  dsimp only [Zch]
  refine May.call0 trivial fun x1 q1 => have q1 := q1.1; May.lp (B.or (B.or (B.not (Iff.rfl)) (B.not (Iff.rfl))) (B.dec)) fun x2 e2 => May.lp (B.or (B.or (e2) (B.dec)) (B.not (Iff.rfl))) fun x3 e3 => May.iff (e3) (fun h1 => ?_) (fun h1 => ?_)
  refine May.ret ⟨?_, trivial⟩; rotate_left 1
  refine May.call ⟨?_, ?_, trivial⟩ fun x4 q4 => have q4 := q4.1; May.iff (B.eq) (fun h2 => ?_) (fun h2 => ?_); rotate_left 2
  refine May.iff (B.dec) (fun h3 => ?_) (fun h3 => ?_)
  refine May.ret ⟨?_, trivial⟩; rotate_left 1
  refine May.lw ⟨?_, ?_⟩ fun x5 e5 => May.alt (c := a1 == 1) (B.eq) (fun h4 => ?_) (fun h4 => ?_); rotate_left 2
  refine May.chk ?_ fun c1 => May.chk ?_ fun c2 => May.lw ⟨?_, ?_⟩ fun x6 e6 => May.chk ?_ fun c3 => May.call ⟨?_, ?_, trivial⟩ fun x7 q7 => have q7 := q7.1; May.ret ⟨?_, trivial⟩; rotate_left 8
  refine May.chk ?_ fun c4 => May.chk ?_ fun c5 => May.lw ⟨?_, ?_⟩ fun x8 e8 => May.chk ?_ fun c6 => May.call ⟨?_, ?_, trivial⟩ fun x9 q9 => have q9 := q9.1; May.ret ⟨?_, trivial⟩; rotate_left 8
  refine May.lw ⟨?_, ?_⟩ fun x10 e10 => May.iff (B.dec) (fun h3 => ?_) (fun h3 => ?_); rotate_left 2
  refine May.ret ⟨?_, trivial⟩; rotate_left 1
  refine May.alt (c := a1 == 1) (B.eq) (fun h4 => ?_) (fun h4 => ?_)
  refine May.chk ?_ fun c7 => May.chk ?_ fun c8 => May.lw ⟨?_, ?_⟩ fun x11 e11 => May.chk ?_ fun c9 => May.call ⟨?_, ?_, trivial⟩ fun x12 q12 => have q12 := q12.1; May.ret ⟨?_, trivial⟩; rotate_left 8
  refine May.chk ?_ fun c10 => May.chk ?_ fun c11 => May.lw ⟨?_, ?_⟩ fun x13 e13 => May.chk ?_ fun c12 => May.call ⟨?_, ?_, trivial⟩ fun x14 q14 => have q14 := q14.1; May.ret ⟨?_, trivial⟩
  all_goals try dsimp only
  all_goals first | with_reducible assumption | omega | (have := bk_rng q4 (bb_ok q1 h1).2 (bb_ok q1 h1).1.2.1; have := (bb_ok q1 h1).1; omega; done) | (have := bk_rng rfl (bb_ok q1 h1).2 (bb_ok q1 h1).1.2.1; omega; done) | (have := bb_tot (bb_ok q1 h1).2; have := (bb_ok q1 h1).1; omega; done) | (exact put_len (bk_rng q4 (bb_ok q1 h1).2 (bb_ok q1 h1).1.2.1).1 (bb_ok q1 h1).1.2.1; done) | (exact put_len (bk_rng q4 (bb_ok q1 h1).2 (bb_ok q1 h1).1.2.1).2.1 (bb_ok q1 h1).1.2.1; done) | (exact bb_t2 (bb_ok q1 h1) q4 h2 e10 h3 e13 q14; done) | (exact bkQ_f (bb_f0 q1 h1); done) | (exact q1.2.1 h2; done) | (exact q1.2.2 (by have := (bb_ok q1 h1).1; omega); done) | (exact bkQ_f (bb_f1 q4 h2 h3); done) | (exact bkQ_f (bb_f2 (bb_ok q1 h1).2 h2 e10 h3); done) | (exact bb_t1 (bb_ok q1 h1) q4 h2 h3 e5 e6 q7; done)
abbrev Zch.S := Classical.choose Zch.X
def Zch.c : Ctr := fc0 36 [true, false, false, false] Zch.L Zch Zch.S
theorem Zch.good : Good Try.prog Zch.c := mkFG0 (fn := Try.f36) {sp := [(12, [[(68, 0)], [(68, 1)]])], sh := [[some (.int, 3), some (.int, 3), none], []]} Zch.X (consG Zb7.good (consG Zb8.good (consG Zcf.good (consG Zx.good (consG ZF.good (consG Zcd.good (consG ZE.good (consG Zce.good noG)))))))) (by kernel_rfl) (by kernel_rfl) (l0 (by kernel_rfl)) (c0 (by kernel_rfl)) (fun _ => trivial) fun s K => by kernel_rfl
end
end Hw
end Go.Proofs.Ytloicplgckomdaa
