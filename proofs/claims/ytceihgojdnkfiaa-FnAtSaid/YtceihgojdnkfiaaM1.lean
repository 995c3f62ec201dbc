/- Coins are taken away: made by gen.py. -/
import Derived.Test.YtceihgojdnkfiaaM0
import Derived.Test.YtceihgojdnkfiaaE2
set_option linter.unusedVariables false
set_option linter.unusedSimpArgs false
set_option maxRecDepth 100000
set_option maxHeartbeats 400000
namespace Go.Proofs.Ytceihgojdnkfiaa
namespace Hw
open Go
noncomputable section
attribute [local irreducible] evFn evBody wrap wxor
def MayAway (b : Bk) (k f s : Int) : Prop := BkOk b ∧ (k = 1 ∨ k = 2) ∧ (1 ≤ f ∧ f ≤ 3) ∧ 0 ≤ s ∧ s ≤ (lstK b k).getD (f - 1).toNat 0
def awayB (b : Bk) (k f s : Int) : Bk := if k = 1 then ⟨b.own.set (f - 1).toNat (b.own.getD (f - 1).toNat 0 - s), b.notes, b.locked + s⟩ else ⟨b.own, b.notes.set (f - 1).toNat (b.notes.getD (f - 1).toNat 0 - s), b.locked⟩
abbrev AwayQ (b : Bk) (k f s : Int) (r : Bk) (t : Bool) : Prop := (t = true ↔ MayAway b k f s) ∧ (t = true → r = awayB b k f s) ∧ (¬ t = true → r = zBk)
theorem aw_ok {k f s : Int} {b : Bk} {x : Option Nat × Bool} (q : CoinQ k x.1 x.2) (h : ¬(((¬x.2 = true ∨ ¬Zx.S f = true) ∨ s < 0) ∨ ¬ZF.S b = true)) : ((k = 1 ∨ k = 2) ∧ (1 ≤ f ∧ f ≤ 3) ∧ 0 ≤ s) ∧ BkOk b := by
  have h1 : x.2 = true := Classical.byContradiction fun g => h (.inl (.inl (.inl g)))
  have h2 : Zx.S f = true := Classical.byContradiction fun g => h (.inl (.inl (.inr g)))
  have h3 : ¬ s < 0 := fun g => h (.inl (.inr g))
  have h4 : ZF.S b = true := Classical.byContradiction fun g => h (.inr g)
  exact ⟨⟨q.1.1 h1, aw_user.1 h2, by omega⟩, implBk.1 h4⟩
theorem aw_t1 {k f s v u : Int} {b x y : Bk} (h : ((k = 1 ∨ k = 2) ∧ (1 ≤ f ∧ f ≤ 3) ∧ 0 ≤ s) ∧ BkOk b) (e : x = b) (hk : k = 1) (hs : ¬ x.own.getD (f - 1).toNat 0 < s) (ev : v = x.own.getD (f - 1).toNat 0 - s) (eu : u = x.locked + s) (ey : y = ⟨mpSet x.own f v, x.notes, u⟩) : AwayQ b k f s y true := by
  subst e
  have hl := h.2.1.1
  refine ⟨⟨fun _ => ⟨h.2, h.1.1, h.1.2.1, h.1.2.2, ?_⟩, fun _ => rfl⟩, fun _ => ?_, fun g => absurd rfl g⟩
  · unfold lstK
    rw [if_pos hk]
    omega
  · rw [ey, ev, eu, mp_set (by omega)]
    unfold awayB
    rw [if_pos hk]
theorem aw_t2 {k f s v : Int} {b x y : Bk} (h : ((k = 1 ∨ k = 2) ∧ (1 ≤ f ∧ f ≤ 3) ∧ 0 ≤ s) ∧ BkOk b) (e : x = b) (hk : ¬ k = 1) (hs : ¬ x.notes.getD (f - 1).toNat 0 < s) (ev : v = x.notes.getD (f - 1).toNat 0 - s) (ey : y = ⟨x.own, mpSet x.notes f v, x.locked⟩) : AwayQ b k f s y true := by
  subst e
  have hl := h.2.2.1.1
  refine ⟨⟨fun _ => ⟨h.2, h.1.1, h.1.2.1, h.1.2.2, ?_⟩, fun _ => rfl⟩, fun _ => ?_, fun g => absurd rfl g⟩
  · unfold lstK
    rw [if_neg hk]
    omega
  · rw [ey, ev, mp_set (by omega)]
    unfold awayB
    rw [if_neg hk]
theorem awQ_f {k f s : Int} {b : Bk} (h : ¬ MayAway b k f s) : AwayQ b k f s zBk false := ⟨⟨fun g => (by cases g), fun g => absurd g h⟩, fun g => (by cases g), fun _ => rfl⟩
theorem aw_f1 {k f s : Int} {b x : Bk} (e : x = b) (hk : k = 1) (hs : x.own.getD (f - 1).toNat 0 < s) : ¬ MayAway b k f s := by
  subst e
  intro h
  have := h.2.2.2.2
  unfold lstK at this
  rw [if_pos hk] at this
  omega
theorem aw_f2 {k f s : Int} {b x : Bk} (e : x = b) (hk : ¬ k = 1) (hs : x.notes.getD (f - 1).toNat 0 < s) : ¬ MayAway b k f s := by
  subst e
  intro h
  have := h.2.2.2.2
  unfold lstK at this
  rw [if_neg hk] at this
  omega
theorem aw_f0 {k f s : Int} {b : Bk} {x : Option Nat × Bool} (q : CoinQ k x.1 x.2) (h : ((¬x.2 = true ∨ ¬Zx.S f = true) ∨ s < 0) ∨ ¬ZF.S b = true) : ¬ MayAway b k f s := by
  intro m
  rcases h with ((h | h) | h) | h
  · exact h (q.1.2 m.2.1)
  · exact h (aw_user.2 m.2.2.1)
  · have := m.2.2.2.1
    omega
  · exact h (implBk.2 m.1)

def Zcg.L : FL := fCons (fSh sBk) (fCons (fSh sInt) (fCons (fSh sInt) (fCons (fSh sInt) (fNil))))
def Zcg : Bk × Int × Int × Int × Unit → FR (Bk × Bool) := fun (a0, a1, a2, a3, ()) => ⟨True, fun X => Call0 Zcf.X (a1, ()) fun x1 => Lt (bif bif !x1.2 then true else !(Zx.S a2) then true else decide (a3 < 0)) fun x2 => And (Imp ((bif x2 then true else !(ZF.S a0)) = true) (X ((⟨[], [], 0⟩ : Bk), false))) (Imp ((bif x2 then true else !(ZF.S a0)) = false) (Call Zcd.X (a0, ()) fun x3 => Or (And (x1.1 = some 120) (And ((1 : Int) ≤ a2) (And (Imp ((decide ((x3.own.getD (a2 - 1).toNat 0) < a3)) = true) (X ((⟨[], [], 0⟩ : Bk), false))) (Imp ((decide ((x3.own.getD (a2 - 1).toNat 0) < a3)) = false) (And ((1 : Int) ≤ a2) (Lt (wrap ((x3.own.getD (a2 - 1).toNat 0) - a3)) fun x4 => And ((1 : Int) ≤ a2 ∧ a2 ≤ (x3.own.length : Int) + 1) (And (Imp ((a1 == 1) = true) (Lt (wrap (x3.locked + a3)) fun x5 => Call Zce.X ((⟨mpSet x3.own a2 x4, x3.notes, x5⟩ : Bk), ()) fun x6 => X (x6, true))) (Imp ((a1 == 1) = false) (Call Zce.X ((⟨mpSet x3.own a2 x4, x3.notes, x3.locked⟩ : Bk), ()) fun x7 => X (x7, true)))))))))) (And (x1.1 = some 121) (And ((1 : Int) ≤ a2) (And (Imp ((decide ((x3.notes.getD (a2 - 1).toNat 0) < a3)) = true) (X ((⟨[], [], 0⟩ : Bk), false))) (Imp ((decide ((x3.notes.getD (a2 - 1).toNat 0) < a3)) = false) (And ((1 : Int) ≤ a2) (Lt (wrap ((x3.notes.getD (a2 - 1).toNat 0) - a3)) fun x8 => And ((1 : Int) ≤ a2 ∧ a2 ≤ (x3.notes.length : Int) + 1) (And (Imp ((a1 == 1) = true) (Lt (wrap (x3.locked + a3)) fun x9 => Call Zce.X ((⟨x3.own, mpSet x3.notes a2 x8, x9⟩ : Bk), ()) fun x10 => X (x10, true))) (Imp ((a1 == 1) = false) (Call Zce.X ((⟨x3.own, mpSet x3.notes a2 x8, x3.locked⟩ : Bk), ()) fun x11 => X (x11, true)))))))))))), fun r => (AwayQ a0 a1 a2 a3 r.1 r.2) ∧ True, fun r => (.tup [.agg [.own 0 1 3, .own 1 1 3, .int r.1.locked], .c (.bool r.2)], [.arr (.ints r.1.own), .arr (.ints r.1.notes)])⟩
theorem Zcg.X : XF Zcg := mkF (zBk, false) fun (a0, a1, a2, a3, ()) hp => by
  clear hp
  dsimp only [Zcg]
  refine May.call0 trivial fun x1 q1 => have q1 := q1.1; May.lp (B.or (B.or (B.not (Iff.rfl)) (B.not (Iff.rfl))) (B.dec)) fun x2 e2 => May.iff (B.or (e2) (B.not (Iff.rfl))) (fun h1 => ?_) (fun h1 => ?_)
  refine May.ret ⟨?_, trivial⟩; rotate_left 1
  refine May.call ⟨?_, ?_, trivial⟩ fun x3 q3 => have q3 := q3.1; May.alt (c := a1 == 1) (B.eq) (fun h2 => ?_) (fun h2 => ?_); rotate_left 2
  refine May.chk ?_ fun c1 => May.chk ?_ fun c2 => May.iff (B.dec) (fun h3 => ?_) (fun h3 => ?_); rotate_left 2
  refine May.ret ⟨?_, trivial⟩; rotate_left 1
  refine May.chk ?_ fun c3 => May.lw ⟨?_, ?_⟩ fun x4 e4 => May.chk ?_ fun c4 => May.iff (B.eq) (fun h4 => ?_) (fun h4 => ?_); rotate_left 4
  refine May.lw ⟨?_, ?_⟩ fun x5 e5 => May.call ⟨?_, ?_, trivial⟩ fun x6 q6 => have q6 := q6.1; May.ret ⟨?_, trivial⟩; rotate_left 5
  refine May.no ?_; rotate_left 1
  refine May.chk ?_ fun c5 => May.chk ?_ fun c6 => May.iff (B.dec) (fun h3 => ?_) (fun h3 => ?_); rotate_left 2
  refine May.ret ⟨?_, trivial⟩; rotate_left 1
  refine May.chk ?_ fun c7 => May.lw ⟨?_, ?_⟩ fun x8 e8 => May.chk ?_ fun c8 => May.iff (B.eq) (fun h4 => ?_) (fun h4 => ?_); rotate_left 4
  refine May.no ?_; rotate_left 1
  refine May.call ⟨?_, ?_, trivial⟩ fun x11 q11 => have q11 := q11.1; May.ret ⟨?_, trivial⟩
  all_goals try dsimp only
  all_goals first | with_reducible assumption | omega | (have := bk_rng q3 (aw_ok q1 h1).2 (aw_ok q1 h1).1.2.1; have := (aw_ok q1 h1).1; omega; done) | (have := bk_rng rfl (aw_ok q1 h1).2 (aw_ok q1 h1).1.2.1; omega; done) | (exact put_len (bk_rng q3 (aw_ok q1 h1).2 (aw_ok q1 h1).1.2.1).1 (aw_ok q1 h1).1.2.1; done) | (exact put_len (bk_rng q3 (aw_ok q1 h1).2 (aw_ok q1 h1).1.2.1).2.1 (aw_ok q1 h1).1.2.1; done) | (exact aw_t2 (aw_ok q1 h1) q3 h2 h3 e8 q11; done) | (exact awQ_f (aw_f0 q1 h1); done) | (exact q1.2.1 h2; done) | (exact q1.2.2 (by have := (aw_ok q1 h1).1; omega); done) | (exact awQ_f (aw_f1 q3 h2 h3); done) | (exact awQ_f (aw_f2 q3 h2 h3); done) | (exact aw_t1 (aw_ok q1 h1) q3 h2 h3 e4 e5 q6; done)
abbrev Zcg.S := Classical.choose Zcg.X
def Zcg.c : Ctr := fc0 44 [true, false, false, false] Zcg.L Zcg Zcg.S
theorem Zcg.good : Good Try.prog Zcg.c := mkFG0 (fn := Try.f44) {sp := [(5, [[(40, 0)], [(40, 1)]])], sh := [[some (.int, 3), some (.int, 3), none], []]} Zcg.X (consG Zb7.good (consG Zb8.good (consG Zcf.good (consG Zx.good (consG ZF.good (consG Zcd.good (consG Zce.good noG))))))) (by kernel_rfl) (by kernel_rfl) (l0 (by kernel_rfl)) (c0 (by kernel_rfl)) (fun _ => trivial) fun s K => by kernel_rfl
end
end Hw
end Go.Proofs.Ytceihgojdnkfiaa
