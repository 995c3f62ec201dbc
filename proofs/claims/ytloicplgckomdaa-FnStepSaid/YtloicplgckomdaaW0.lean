/- Steps of a way: made by gen.py. -/
import Derived.Test.YtloicplgckomdaaG0
import Derived.Test.YtloicplgckomdaaE3
set_option linter.unusedVariables false
set_option linter.unusedSimpArgs false
set_option maxRecDepth 100000
set_option maxHeartbeats 400000
namespace Go.Proofs.Ytloicplgckomdaa
namespace Hw
open Go
noncomputable section
attribute [local irreducible] evFn evBody wrap wxor
def steps : List Ws := [⟨1, some 116, some 117⟩, ⟨2, some 118, some 119⟩, ⟨3, some 120, some 121⟩, ⟨4, some 122, some 123⟩, ⟨5, some 124, some 125⟩, ⟨6, some 126, some 125⟩, ⟨7, some 127, some 128⟩]
theorem steps_at {i : Int} (h0 : 0 ≤ i) (h1 : i < 7) : (steps.getD i.toNat zWs).step = i + 1 := by
  have : i = 0 ∨ i = 1 ∨ i = 2 ∨ i = 3 ∨ i = 4 ∨ i = 5 ∨ i = 6 := by omega
  rcases this with rfl | rfl | rfl | rfl | rfl | rfl | rfl <;> rfl
abbrev mayOf (k : Int) : Option Nat := (steps.getD (k - 1).toNat zWs).may
abbrev actOf (k : Int) : Option Nat := (steps.getD (k - 1).toNat zWs).act
abbrev FindQ (k : Int) (w : Ws) (b : Bool) : Prop := (b = true → (1 ≤ k ∧ k ≤ 7) ∧ w.may = mayOf k ∧ w.act = actOf k) ∧ (¬ b = true → ¬ (1 ≤ k ∧ k ≤ 7))
theorem find_y {i k : Int} (h0 : 0 ≤ i) (h1 : i < (steps.length : Int)) (h : (steps.getD i.toNat zWs).step = k) : FindQ k (steps.getD i.toNat zWs) true := by
  have h2 : i < 7 := h1
  have h3 := steps_at h0 h2
  have e : (k - 1).toNat = i.toNat := by omega
  exact ⟨fun _ => ⟨⟨by omega, by omega⟩, by rw [mayOf, e], by rw [actOf, e]⟩, fun h' => absurd rfl h'⟩
theorem idleIff {s : St} (hl : (s.live.length : Int) ≤ 9223372036854775807) : ZS.S s = true ↔ IdleS s := by
  have e : (Nat.beq (ZR.R false s.live (s.live.length : Int) 0).1 0 = true ∧ (ZR.R false s.live (s.live.length : Int) 0).2.1 = false ∧ ¬ IdleS s) ∨ (Nat.beq (ZR.R false s.live (s.live.length : Int) 0).1 0 = false ∧ IdleS s) := by
    rcases ZR.law false s.live (s.live.length : Int) () s.live.length rfl hl with ⟨h1, h2⟩ | ⟨k, r, hk, h1, -, h2⟩
    · rw [h2]
      refine .inr ⟨rfl, fun k hk => ?_⟩
      have h3 := h1 k hk
      simp only [ZR.E, E_none, reduceCtorEq, and_false, false_or, and_true] at h3
      exact h3
    · rw [h2]
      simp only [ZR.E, E_some, reduceCtorEq, and_false, or_false, Option.some.injEq] at h1
      obtain ⟨h3, rfl⟩ := h1
      refine .inl ⟨rfl, rfl, fun h => ?_⟩
      have := h k hk
      rw [h3] at this
      cases this
  unfold ZS.S
  rw [loopB e]
  simp
theorem may_at {k j : Int} {w : Ws} {b : Bool} {f : Option Nat} (q : FindQ k w b) (hb : b = true) (hk : k = j) (hf : mayOf j = f) : w.may = f := by
  subst hk
  exact (q.1 hb).2.1.trans hf
theorem mayK_rng {s o : St} {k : Int} (h : MayK s o k) : 1 ≤ k ∧ k ≤ 7 := by
  unfold MayK at h
  rcases h with h | h | h | h | h | h | h <;> omega
theorem mayK1 {s o : St} : MayK s o 1 ↔ s.way = 0 := by unfold MayK; grind
theorem mayK2 {s o : St} (h : StOk s) : MayK s o 2 ↔ (s.way = 0 ∨ s.way = 1) ∧ (o.way = 1 ∨ o.way = 2) := by have := h.1; unfold MayK; grind
theorem mayK3 {s o : St} : MayK s o 3 ↔ s.way = 1 ∧ 2 ≤ o.way := by unfold MayK; grind
theorem mayK4 {s o : St} : MayK s o 4 ↔ s.way = 2 ∧ 2 ≤ o.way := by unfold MayK; grind
theorem mayK5 {s o : St} : MayK s o 5 ↔ s.way = 3 ∧ s.ver < 9 := by unfold MayK; grind
theorem mayK6 {s o : St} : MayK s o 6 ↔ s.way = 3 ∧ o.way = 4 ∧ o.want = wrap (s.ver + 1) := by unfold MayK; grind
theorem mayK7 {s o : St} : MayK s o 7 ↔ s.way = 4 ∧ IdleS s ∧ (o.way = 4 ∧ o.want = s.want ∧ IdleS o ∨ o.ver = s.want) := by unfold MayK; grind
theorem live8 {s : St} (h : StOk s) : s.live.length ≤ 8 := by
  have := stL h
  omega
theorem wayM {s o : St} {k j : Int} {w : Ws} {b x y : Bool} (q : FindQ k w b) (e : x = true ↔ (b = true ∧ StOk s) ∧ StOk o) (hk : b = true → k = j) (hy : StOk s → StOk o → (y = true ↔ MayK s o j)) : (bif x then y else false) = true ↔ MayW s o k := by
  by_cases hb : b = true
  · obtain rfl := hk hb
    by_cases h : StOk s ∧ StOk o
    · rw [e.2 ⟨⟨hb, h.1⟩, h.2⟩, cond_true, hy h.1 h.2]
      exact ⟨fun h' => ⟨h, h'⟩, fun h' => h'.2⟩
    · rw [Bool.eq_false_iff.2 (fun h' => h ⟨(e.1 h').1.2, (e.1 h').2⟩), cond_false]
      exact ⟨fun h' => absurd h' (by simp), fun h' => absurd h'.1 h⟩
  · rw [Bool.eq_false_iff.2 (fun h' => hb (e.1 h').1.1), cond_false]
    exact ⟨fun h' => absurd h' (by simp), fun h' => absurd (mayK_rng h'.2) (q.2 hb)⟩
theorem step_may {l : List Ws} {i j : Int} {f : Option Nat} (hl : l = steps) (hi : i = j) (hf : (steps.getD j.toNat zWs).may = f) : (l.getD i.toNat zWs).may = f := by
  subst hl hi
  exact hf
theorem next_t {s o : St} {l : List Int} {w : List Ws} {i j : Int} (hl : l = mays s o i.toNat) (hj : j = i + 1) (h0 : 0 ≤ i) (hs : w = steps) (h7 : i < 7) (ho : StOk s ∧ StOk o) (hm : MayK s o (i + 1)) : l ++ [(w.getD i.toNat zWs).step] = mays s o j.toNat := by
  subst hs
  rw [steps_at h0 h7, hl, hj]
  have := mays_t (i := i + 1) (by omega) ⟨ho, hm⟩
  rw [show i + 1 - 1 = i by omega] at this
  exact this
theorem next_f {s o : St} {l : List Int} {i j : Int} (hl : l = mays s o i.toNat) (hj : j = i + 1) (h0 : 0 ≤ i) (hm : ¬ MayK s o (i + 1)) : l = mays s o j.toNat := by
  rw [hl, hj]
  have := mays_f (i := i + 1) (s := s) (o := o) (by omega) fun h => hm h.2
  rw [show i + 1 - 1 = i by omega] at this
  exact this
theorem mays_none {s o : St} (h : ¬StOk s ∨ ¬StOk o) : ∀ n, mays s o n = []
  | 0 => rfl
  | n + 1 => by rw [mays, mays_none h n, if_neg (fun h' => h.elim (fun h => h h'.1.1) fun h => h h'.1.2)]; rfl
theorem hasOf' {a b : Bool} (h : ¬(¬a = b ∨ ¬a = true)) : a = true := Classical.byContradiction fun h' => h (.inr h')
theorem mayK_open {s o : St} {k : Int} (h : MayK s o k) (h1 : ¬ k = 1) (h2 : ¬ k = 2) (h3 : ¬ k = 3) (h4 : ¬ k = 4) : s.way ≥ 3 := by
  unfold MayK at h
  rcases h with h | h | h | h | h | h | h <;> omega
theorem lives_idle {l : List Bool} : ∀ n, (lives l n).length = 0 ↔ ∀ k, k < n → l.getD k false = false
  | 0 => ⟨fun _ k hk => absurd hk (Nat.not_lt_zero k), fun _ => rfl⟩
  | n + 1 => by
    have ih := lives_idle (l := l) n
    rw [lives, List.length_append]
    constructor
    · intro h k hk
      rcases Nat.lt_or_ge k n with h1 | h1
      · exact ih.1 (by omega) k h1
      · obtain rfl : k = n := by omega
        cases hb : l.getD k false with
        | false => rfl
        | true => rw [if_pos hb] at h; simp at h
    · intro h
      rw [ih.2 fun k hk => h k (by omega), if_neg (by rw [h n (Nat.lt_succ_self n)]; simp)]
      rfl
theorem fresh_fin {s o : St} {b5 b9 b10 : Bool} {l7 l8 : List Int} (hs : StOk s) (ho : StOk o) (q5 : b5 = true ↔ MayW s o 7) (q7 : StOk o → l7 = lives o.live o.live.length) (q8 : StOk s → l8 = lives s.live s.live.length)
    (e9 : b9 = true ↔ s.way = 4 ∧ (l8.length : Int) = 0) (e10 : b10 = true ↔ (o.way = 4 ∧ o.want = s.want) ∧ (l7.length : Int) = 0 ∨ o.ver = s.want) : b5 = bif b9 then b10 else false := by
  have i7 : (l7.length : Int) = 0 ↔ IdleS o := by
    rw [q7 ho]
    exact ⟨fun h => (lives_idle _).1 (by omega), fun h => by have := (lives_idle (l := o.live) _).2 h; omega⟩
  have i8 : (l8.length : Int) = 0 ↔ IdleS s := by
    rw [q8 hs]
    exact ⟨fun h => (lives_idle _).1 (by omega), fun h => by have := (lives_idle (l := s.live) _).2 h; omega⟩
  rw [i7] at e10
  rw [i8] at e9
  rw [show MayW s o 7 ↔ MayK s o 7 from ⟨fun h => h.2, fun h => ⟨⟨hs, ho⟩, h⟩⟩, mayK7] at q5
  refine Bool.eq_iff_iff.2 (q5.trans ?_)
  cases b9 with
  | true =>
    rw [cond_true, e10]
    have := e9.1 rfl
    exact ⟨fun h => h.2.2.elim (fun h => .inl ⟨⟨h.1, h.2.1⟩, h.2.2⟩) .inr, fun h => ⟨this.1, this.2, h.elim (fun h => .inl ⟨h.1.1, h.1.2, h.2⟩) .inr⟩⟩
  | false =>
    rw [cond_false]
    exact ⟨fun h => absurd (e9.2 ⟨h.1, h.2.1⟩) (by simp), fun h => absurd h (by simp)⟩

def ZaR.L : FL := fCons (fSh sSt) (fCons (fSh sSt) (fNil))
def ZaR : St × St × Unit → FR (Unit) := fun (a0, a1, ()) => ⟨True, fun X => X (), fun r => True, fun r => (.v (.c (.bool (a0.way == 0))), [])⟩
theorem ZaR.X : XF ZaR := mkF () fun (a0, a1, ()) hp => by
  clear hp
  dsimp only [ZaR]
  refine May.ret trivial
  all_goals try dsimp only
  all_goals first | with_reducible assumption | omega | rfl | assumption | (simp only [List.length_append, List.length_cons, List.length_nil, List.length_set, List.length_replicate, Int.natCast_add, Int.natCast_one] at *; omega) | grind
abbrev ZaR.S := Classical.choose ZaR.X
def ZaR.c : Ctr := fc0 116 [true, true] ZaR.L ZaR ZaR.S
theorem ZaR.good : Good Try.prog ZaR.c := mkFG0 (fn := Try.f116) {} ZaR.X noG (by kernel_rfl) (by kernel_rfl) (l0 (by kernel_rfl)) (c0 (by kernel_rfl)) (fun _ => trivial) fun s K => by kernel_rfl
def ZaS.L : FL := fCons (fSh sSt) (fCons (fSh sSt) (fNil))
def ZaS : St × St × Unit → FR (Bool) := fun (a0, a1, ()) => ⟨True, fun X => Lt (bif bif a0.way == 0 then true else a0.way == 1 then bif a1.way == 1 then true else a1.way == 2 else false) fun x1 => X x1, fun r => (r = true ↔ (a0.way = 0 ∨ a0.way = 1) ∧ (a1.way = 1 ∨ a1.way = 2)) ∧ True, fun r => (.v (.c (.bool r)), [])⟩
theorem ZaS.X : XF ZaS := mkF (false) fun (a0, a1, ()) hp => by
  clear hp
  dsimp only [ZaS]
  refine May.lp (B.and (B.or (B.eq) (B.eq)) (B.or (B.eq) (B.eq))) fun x1 e1 => May.ret ⟨?_, trivial⟩
  all_goals try dsimp only
  all_goals first | with_reducible assumption | omega | rfl | assumption | (simp only [List.length_append, List.length_cons, List.length_nil, List.length_set, List.length_replicate, Int.natCast_add, Int.natCast_one] at *; omega) | grind
abbrev ZaS.S := Classical.choose ZaS.X
def ZaS.c : Ctr := fc0 118 [true, true] ZaS.L ZaS ZaS.S
theorem ZaS.good : Good Try.prog ZaS.c := mkFG0 (fn := Try.f118) {} ZaS.X noG (by kernel_rfl) (by kernel_rfl) (l0 (by kernel_rfl)) (c0 (by kernel_rfl)) (fun _ => trivial) fun s K => by kernel_rfl
def ZaT.L : FL := fCons (fSh sSt) (fCons (fSh sSt) (fNil))
def ZaT : St × St × Unit → FR (Bool) := fun (a0, a1, ()) => ⟨True, fun X => Lt (bif a0.way == 1 then decide (a1.way ≥ 2) else false) fun x1 => X x1, fun r => (r = true ↔ a0.way = 1 ∧ 2 ≤ a1.way) ∧ True, fun r => (.v (.c (.bool r)), [])⟩
theorem ZaT.X : XF ZaT := mkF (false) fun (a0, a1, ()) hp => by
  clear hp
  dsimp only [ZaT]
  refine May.lp (B.and (B.eq) (B.dec)) fun x1 e1 => May.ret ⟨?_, trivial⟩
  all_goals try dsimp only
  all_goals first | with_reducible assumption | omega | rfl | assumption | (simp only [List.length_append, List.length_cons, List.length_nil, List.length_set, List.length_replicate, Int.natCast_add, Int.natCast_one] at *; omega) | grind
abbrev ZaT.S := Classical.choose ZaT.X
def ZaT.c : Ctr := fc0 120 [true, true] ZaT.L ZaT ZaT.S
theorem ZaT.good : Good Try.prog ZaT.c := mkFG0 (fn := Try.f120) {} ZaT.X noG (by kernel_rfl) (by kernel_rfl) (l0 (by kernel_rfl)) (c0 (by kernel_rfl)) (fun _ => trivial) fun s K => by kernel_rfl
def ZaU.L : FL := fCons (fSh sSt) (fCons (fSh sSt) (fNil))
def ZaU : St × St × Unit → FR (Bool) := fun (a0, a1, ()) => ⟨True, fun X => Lt (bif a0.way == 2 then decide (a1.way ≥ 2) else false) fun x1 => X x1, fun r => (r = true ↔ a0.way = 2 ∧ 2 ≤ a1.way) ∧ True, fun r => (.v (.c (.bool r)), [])⟩
theorem ZaU.X : XF ZaU := mkF (false) fun (a0, a1, ()) hp => by
  clear hp
  dsimp only [ZaU]
  refine May.lp (B.and (B.eq) (B.dec)) fun x1 e1 => May.ret ⟨?_, trivial⟩
  all_goals try dsimp only
  all_goals first | with_reducible assumption | omega | rfl | assumption | (simp only [List.length_append, List.length_cons, List.length_nil, List.length_set, List.length_replicate, Int.natCast_add, Int.natCast_one] at *; omega) | grind
abbrev ZaU.S := Classical.choose ZaU.X
def ZaU.c : Ctr := fc0 122 [true, true] ZaU.L ZaU ZaU.S
theorem ZaU.good : Good Try.prog ZaU.c := mkFG0 (fn := Try.f122) {} ZaU.X noG (by kernel_rfl) (by kernel_rfl) (l0 (by kernel_rfl)) (c0 (by kernel_rfl)) (fun _ => trivial) fun s K => by kernel_rfl
def ZaV.L : FL := fCons (fSh sSt) (fCons (fSh sSt) (fNil))
def ZaV : St × St × Unit → FR (Bool) := fun (a0, a1, ()) => ⟨True, fun X => Lt (bif a0.way == 3 then decide (a0.ver < 9) else false) fun x1 => X x1, fun r => (r = true ↔ a0.way = 3 ∧ a0.ver < 9) ∧ True, fun r => (.v (.c (.bool r)), [])⟩
theorem ZaV.X : XF ZaV := mkF (false) fun (a0, a1, ()) hp => by
  clear hp
  dsimp only [ZaV]
  refine May.lp (B.and (B.eq) (B.dec)) fun x1 e1 => May.ret ⟨?_, trivial⟩
  all_goals try dsimp only
  all_goals first | with_reducible assumption | omega | rfl | assumption | (simp only [List.length_append, List.length_cons, List.length_nil, List.length_set, List.length_replicate, Int.natCast_add, Int.natCast_one] at *; omega) | grind
abbrev ZaV.S := Classical.choose ZaV.X
def ZaV.c : Ctr := fc0 124 [true, true] ZaV.L ZaV ZaV.S
theorem ZaV.good : Good Try.prog ZaV.c := mkFG0 (fn := Try.f124) {} ZaV.X noG (by kernel_rfl) (by kernel_rfl) (l0 (by kernel_rfl)) (c0 (by kernel_rfl)) (fun _ => trivial) fun s K => by kernel_rfl
def ZaW.L : FL := fCons (fSh sSt) (fCons (fSh sSt) (fNil))
def ZaW : St × St × Unit → FR (Bool) := fun (a0, a1, ()) => ⟨True, fun X => Lt (bif bif a0.way == 3 then a1.way == 4 else false then a1.want == (wrap (a0.ver + 1)) else false) fun x1 => X x1, fun r => (r = true ↔ a0.way = 3 ∧ a1.way = 4 ∧ a1.want = wrap (a0.ver + 1)) ∧ True, fun r => (.v (.c (.bool r)), [])⟩
theorem ZaW.X : XF ZaW := mkF (false) fun (a0, a1, ()) hp => by
  clear hp
  dsimp only [ZaW]
  refine May.lp (B.and (B.and (B.eq) (B.eq)) (B.eq)) fun x1 e1 => May.ret ⟨?_, trivial⟩
  all_goals try dsimp only
  all_goals first | with_reducible assumption | omega | rfl | assumption | (simp only [List.length_append, List.length_cons, List.length_nil, List.length_set, List.length_replicate, Int.natCast_add, Int.natCast_one] at *; omega) | grind
abbrev ZaW.S := Classical.choose ZaW.X
def ZaW.c : Ctr := fc0 126 [true, true] ZaW.L ZaW ZaW.S
theorem ZaW.good : Good Try.prog ZaW.c := mkFG0 (fn := Try.f126) {} ZaW.X noG (by kernel_rfl) (by kernel_rfl) (l0 (by kernel_rfl)) (c0 (by kernel_rfl)) (fun _ => trivial) fun s K => by kernel_rfl
def ZaX.L : FL := fCons (fSh sSt) (fCons (fSh sSt) (fNil))
def ZaX : St × St × Unit → FR (Bool) := fun (a0, a1, ()) => ⟨(a0.live.length ≤ 8) ∧ (a1.live.length ≤ 8) ∧ True, fun X => Lt (bif a0.way != 4 then true else !(ZS.S a0)) fun x1 => And (Imp (x1 = true) (X false)) (Imp (x1 = false) (And (Imp ((a1.ver == a0.want) = true) (X true)) (Imp ((a1.ver == a0.want) = false) (Lt (bif bif a1.way == 4 then a1.want == a0.want else false then (ZS.S a1) else false) fun x2 => X x2)))), fun r => (r = true ↔ a0.way = 4 ∧ IdleS a0 ∧ (a1.way = 4 ∧ a1.want = a0.want ∧ IdleS a1 ∨ a1.ver = a0.want)) ∧ True, fun r => (.v (.c (.bool r)), [])⟩
theorem ZaX.X : XF ZaX := mkF (false) fun (a0, a1, ()) hp => by
  obtain ⟨p0, p1, -⟩ := hp
  dsimp only [ZaX]
  refine May.lp (B.or (B.ne) (B.not (idleIff (by omega)))) fun x1 e1 => May.iff (e1) (fun h1 => ?_) (fun h1 => ?_)
  refine May.ret ⟨?_, trivial⟩; rotate_left 1
  refine May.iff (B.eq) (fun h2 => ?_) (fun h2 => ?_)
  refine May.ret ⟨?_, trivial⟩; rotate_left 1
  refine May.lp (B.and (B.and (B.eq) (B.eq)) (idleIff (by omega))) fun x2 e2 => May.ret ⟨?_, trivial⟩
  all_goals try dsimp only
  all_goals first | with_reducible assumption | omega | rfl | assumption | (simp only [List.length_append, List.length_cons, List.length_nil, List.length_set, List.length_replicate, Int.natCast_add, Int.natCast_one] at *; omega) | grind
abbrev ZaX.S := Classical.choose ZaX.X
def ZaX.c : Ctr := fc 127 [true, true] ZaX.L ZaX ZaX.S
theorem ZaX.good : Good Try.prog ZaX.c := mkFG (fn := Try.f127) {} ZaX.X (consG ZS.good noG) (by kernel_rfl) (by kernel_rfl) (l0 (by kernel_rfl)) (c0 (by kernel_rfl)) fun s K => by kernel_rfl
def ZaY.L : FL := fNil
def ZaY : Unit → FR ((List Ws)) := fun () => ⟨True, fun X => Lt ([(⟨1, some 116, some 117⟩ : Ws), (⟨2, some 118, some 119⟩ : Ws), (⟨3, some 120, some 121⟩ : Ws), (⟨4, some 122, some 123⟩ : Ws), (⟨5, some 124, some 125⟩ : Ws), (⟨6, some 126, some 125⟩ : Ws), (⟨7, some 127, some 128⟩ : Ws)]) fun x1 => X x1, fun r => (r = steps) ∧ True, fun r => (.v (.c (.own 0 3 82)), [.arr (.wss r)])⟩
theorem ZaY.X : XF ZaY := mkF ([]) fun () hp => by
  clear hp
  dsimp only [ZaY]
  refine May.lt fun x1 e1 => May.ret ⟨?_, trivial⟩
  all_goals try dsimp only
  all_goals first | with_reducible assumption | omega | (exact e1; done) | (simp only [List.length_append, List.length_cons, List.length_nil, List.length_set, List.length_replicate, Int.natCast_add, Int.natCast_one] at *; omega) | grind
abbrev ZaY.S := Classical.choose ZaY.X
def ZaY.c : Ctr := fc0 90 [] ZaY.L ZaY ZaY.S
theorem ZaY.good : Good Try.prog ZaY.c := mkFG0 (fn := Try.f90) {sh := [[some (.ws, 82)]]} ZaY.X noG (by kernel_rfl) (by kernel_rfl) (l0 (by kernel_rfl)) (c0 (by kernel_rfl)) (fun _ => trivial) fun s K => by kernel_rfl
theorem ZaZ.G : GG [ZaY.c] := (consG ZaY.good noG)
def Za0.L : FL := fCons (fC cInt) (fCons (fC (cPtr 1 cWs rfl)) (fCons (fC cBool) (fCons (fC (cOwn kWss 82)) (fCons (fC cInt) (fCons (fC cInt) (fNil))))))
def Za0 : Int × Ws × Bool × List Ws × Int × Int × Unit → LR (Int × Ws × Bool × List Ws × Int × Int × Unit) (Nat × Ws × Bool × Unit) := fun (y0, y1, y2, y3, y4, y5, ()) => ⟨(0 ≤ y5) ∧ (y4 ≤ 9223372036854775807) ∧ (y4 = (y3.length : Int)) ∧ (y3 = steps) ∧ (y4 = 7) ∧ (y5 ≤ 7) ∧ (¬ (1 ≤ y0 ∧ y0 ≤ y5)) ∧ True, (y4 - y5).toNat, fun X => And (Imp ((decide (y5 < y4)) = true) (And ((0 : Int) ≤ y5 ∧ y5 < (y3.length : Int)) (And ((y5).toNat < y3.length) (And (Imp (((y3.getD (y5).toNat zWs).step == y0) = true) (X (.inr (0, (y3.getD (y5).toNat zWs), true, ())))) (Imp (((y3.getD (y5).toNat zWs).step == y0) = false) (Lt (wrap (y5 + 1)) fun x2 => X (.inl (y0, y1, y2, y3, y4, x2, ())))))))) (Imp ((decide (y5 < y4)) = false) (X (.inr (1, zWs, false, ())))), fun r => (r.1 = 0 → FindQ y0 r.2.1 r.2.2.1) ∧ (¬ r.1 = 0 → ¬ (1 ≤ y0 ∧ y0 ≤ 7)) ∧ True, fun r => [(Nat.beq r.1 0, (.ret, [.c (.ptr 0 0), .c (.bool r.2.2.1)], [.raw 1 [.int r.2.1.step, .fnv r.2.1.may, .fnv r.2.1.act]]))], fun r => (.exit 0, [.c (.ptr 0 0)], [.raw 1 [.int y1.step, .fnv y1.may, .fnv y1.act]])⟩
theorem Za0.X : XL Za0 := mkL (0, zWs, false, ()) fun (y0, y1, y2, y3, y4, y5, ()) hp => by
  obtain ⟨p0, p1, p2, p3, p4, p5, p6, -⟩ := hp
  unfold ML; dsimp only [Za0]
  refine May.iff (B.dec) (fun h1 => ?_) (fun h1 => ?_)
  refine May.chk ?_ fun c1 => May.chk ?_ fun c2 => May.iff (B.eq) (fun h2 => ?_) (fun h2 => ?_); rotate_left 2
  refine May.ex ⟨?_, ?_, trivial⟩; rotate_left 2
  refine May.lw ⟨?_, ?_⟩ fun x2 e2 => May.nx ⟨?_, ?_, ?_, ?_, ?_, ?_, ?_, trivial⟩ ?_ ?_ fun r => rfl; rotate_left 11
  refine May.ex ⟨?_, ?_, trivial⟩
  all_goals try dsimp only [Za0]
  all_goals first | with_reducible assumption | omega | exact fun _ q => q | (rw [show x1 = steps from q1]; rfl; done) | (rw [show x1 = steps from q1]; decide; done) | (rw [p3]; exact fun _ => find_y p0 (by show y5 < 7; omega) (by rw [← p3]; exact h2); done) | (have := steps_at p0 (by omega); rw [p3] at h2; omega; done) | rfl | assumption | (simp only [List.length_append, List.length_cons, List.length_nil, List.length_set, List.length_replicate, Int.natCast_add, Int.natCast_one] at *; omega) | grind
abbrev Za0.R := Classical.choose Za0.X
def Za0.k : LCtr := (ld 2 [0, 2, 3, 6, 7, 8] [] Za0.L Za0 0 (fun e => match e with | .ret => [2, 3] | _ => [2]) (fun _ => []) Za0.R).ctr
theorem Za0.g : LGood Try.prog Try.f56.ntmps Za0.k (bodyAt Try.f56 0) := mkLG {} Za0.X ZaZ.G (by kernel_rfl) (l0 (by kernel_rfl)) (c0 (by kernel_rfl)) fun S s => by kernel_rfl
def ZaZ.L : FL := fCons (fSh sInt) (fNil)
def ZaZ : Int × Unit → FR (Ws × Bool) := fun (a0, ()) => ⟨True, fun X => Call0 ZaY.X () fun x1 => CallL Za0.X (a0, (⟨0, none, none⟩ : Ws), false, x1, (x1.length : Int), 0, ()) fun x3 => And (Imp (Nat.beq x3.1 0 = true) (X (x3.2.1, x3.2.2.1))) (Imp (Nat.beq x3.1 0 = false) (X ((⟨0, none, none⟩ : Ws), false))), fun r => (FindQ a0 r.1 r.2) ∧ True, fun r => (.tup [.agg [.int r.1.step, .fnv r.1.may, .fnv r.1.act], .c (.bool r.2)], [])⟩
theorem ZaZ.X : XF ZaZ := mkF (zWs, false) fun (a0, ()) hp => by
  clear hp
  dsimp only [ZaZ]
  refine May.call0 trivial fun x1 q1 => have q1 := q1.1; May.loop ⟨?_, ?_, ?_, ?_, ?_, ?_, ?_, trivial⟩ fun x3 q3 => have q3_0 := q3.1; have q3_1 := q3.2.1; May.iff B.nbeq (fun h1 => ?_) (fun h1 => ?_); rotate_left 7
  refine May.ret ⟨?_, trivial⟩; rotate_left 1
  refine May.ret ⟨?_, trivial⟩
  all_goals try dsimp only
  all_goals first | with_reducible assumption | omega | (rw [show x1 = steps from q1]; rfl; done) | (rw [show x1 = steps from q1]; decide; done) | rfl | assumption | (simp only [List.length_append, List.length_cons, List.length_nil, List.length_set, List.length_replicate, Int.natCast_add, Int.natCast_one] at *; omega) | grind
abbrev ZaZ.S := Classical.choose ZaZ.X
def ZaZ.c : Ctr := fc0 56 [false] ZaZ.L ZaZ ZaZ.S
theorem ZaZ.good : Good Try.prog ZaZ.c := mkFG0 (fn := Try.f56) {LL := [Za0.k]} ZaZ.X ZaZ.G (by kernel_rfl) (by kernel_rfl) (lG (by kernel_rfl) (consL (by kernel_rfl) Za0.g (noL rfl))) (c0 (by kernel_rfl)) (fun _ => trivial) fun s K => by kernel_rfl
def Za1.L : FL := fCons (fSh sSt) (fCons (fSh sSt) (fCons (fSh sInt) (fNil)))
def Za1 : St × St × Int × Unit → FR (Bool) := fun (a0, a1, a2, ()) => ⟨True, fun X => Call0 ZaZ.X (a2, ()) fun x1 => Or (Lt (bif bif x1.2 then (ZO.S a0) else false then (ZO.S a1) else false) fun x2 => And (Imp (And (x2 = true) (True)) (x1.1.may = some 116)) (X (bif x2 then (a0.way == 0) else false))) (Or (Lt (bif bif x1.2 then (ZO.S a0) else false then (ZO.S a1) else false) fun x3 => And (Imp (And (x3 = true) (True)) (x1.1.may = some 118)) (Lt ((ZaS.S (a0, a1, ()))) fun x4 => X (bif x3 then x4 else false))) (Or (Lt (bif bif x1.2 then (ZO.S a0) else false then (ZO.S a1) else false) fun x5 => And (Imp (And (x5 = true) (True)) (x1.1.may = some 120)) (Lt ((ZaT.S (a0, a1, ()))) fun x6 => X (bif x5 then x6 else false))) (Or (Lt (bif bif x1.2 then (ZO.S a0) else false then (ZO.S a1) else false) fun x7 => And (Imp (And (x7 = true) (True)) (x1.1.may = some 122)) (Lt ((ZaU.S (a0, a1, ()))) fun x8 => X (bif x7 then x8 else false))) (Or (Lt (bif bif x1.2 then (ZO.S a0) else false then (ZO.S a1) else false) fun x9 => And (Imp (And (x9 = true) (True)) (x1.1.may = some 124)) (Lt ((ZaV.S (a0, a1, ()))) fun x10 => X (bif x9 then x10 else false))) (Or (Lt (bif bif x1.2 then (ZO.S a0) else false then (ZO.S a1) else false) fun x11 => And (Imp (And (x11 = true) (True)) (x1.1.may = some 126)) (Lt ((ZaW.S (a0, a1, ()))) fun x12 => X (bif x11 then x12 else false))) (Lt (bif bif x1.2 then (ZO.S a0) else false then (ZO.S a1) else false) fun x13 => And (Imp (And (x13 = true) (True)) (And ((ZaX (a0, a1, ())).P) (x1.1.may = some 127))) (Lt ((ZaX.S (a0, a1, ()))) fun x14 => X (bif x13 then x14 else false)))))))), fun r => (r = true ↔ MayW a0 a1 a2) ∧ True, fun r => (.v (.c (.bool r)), [])⟩
theorem Za1.X : XF Za1 := mkF (false) fun (a0, a1, a2, ()) hp => by
  clear hp
  dsimp only [Za1]
  refine May.call0 trivial fun x1 q1 => have q1 := q1.1; May.alt (c := a2 == 1) (B.eq) (fun h1 => ?_) (fun h1 => May.alt (c := a2 == 2) (B.eq) (fun h2 => ?_) (fun h2 => May.alt (c := a2 == 3) (B.eq) (fun h3 => ?_) (fun h3 => May.alt (c := a2 == 4) (B.eq) (fun h4 => ?_) (fun h4 => May.alt (c := a2 == 5) (B.eq) (fun h5 => ?_) (fun h5 => May.alt (c := a2 == 6) (B.eq) (fun h6 => ?_) (fun h6 => ?_))))))
  refine May.lp (B.and (B.and (Iff.rfl) (implSt)) (implSt)) fun x2 e2 => May.chk (fun hπ => have g1 := Iff.mp (e2) hπ.1; ?_) fun c1 => May.ret ⟨?_, trivial⟩; rotate_left 2
  refine May.lp (B.and (B.and (Iff.rfl) (implSt)) (implSt)) fun x3 e3 => May.chk (fun hπ => have g1 := Iff.mp (e3) hπ.1; ?_) fun c2 => May.clqe trivial fun x4 e4 q4 => have q4 := q4.1; May.ret ⟨?_, trivial⟩; rotate_left 2
  refine May.lp (B.and (B.and (Iff.rfl) (implSt)) (implSt)) fun x5 e5 => May.chk (fun hπ => have g1 := Iff.mp (e5) hπ.1; ?_) fun c3 => May.clqe trivial fun x6 e6 q6 => have q6 := q6.1; May.ret ⟨?_, trivial⟩; rotate_left 2
  refine May.lp (B.and (B.and (Iff.rfl) (implSt)) (implSt)) fun x7 e7 => May.chk (fun hπ => have g1 := Iff.mp (e7) hπ.1; ?_) fun c4 => May.clqe trivial fun x8 e8 q8 => have q8 := q8.1; May.ret ⟨?_, trivial⟩; rotate_left 2
  refine May.lp (B.and (B.and (Iff.rfl) (implSt)) (implSt)) fun x9 e9 => May.chk (fun hπ => have g1 := Iff.mp (e9) hπ.1; ?_) fun c5 => May.clqe trivial fun x10 e10 q10 => have q10 := q10.1; May.ret ⟨?_, trivial⟩; rotate_left 2
  refine May.lp (B.and (B.and (Iff.rfl) (implSt)) (implSt)) fun x11 e11 => May.chk (fun hπ => have g1 := Iff.mp (e11) hπ.1; ?_) fun c6 => May.clqe trivial fun x12 e12 q12 => have q12 := q12.1; May.ret ⟨?_, trivial⟩; rotate_left 2
  refine May.lp (B.and (B.and (Iff.rfl) (implSt)) (implSt)) fun x13 e13 => May.chk (fun hπ => have g1 := Iff.mp (e13) hπ.1; ?_) fun c7 => May.cq fun x14 q14 => have q14 := gq2 q14; have q14 := fun h => (q14 h).1; May.ret ⟨?_, trivial⟩
  all_goals try dsimp only
  all_goals first | with_reducible assumption | omega | (exact may_at q1 g1.1.1 h1 rfl; done) | (exact may_at q1 g1.1.1 h2 rfl; done) | (exact may_at q1 g1.1.1 h3 rfl; done) | (exact may_at q1 g1.1.1 h4 rfl; done) | (exact may_at q1 g1.1.1 h5 rfl; done) | (exact may_at q1 g1.1.1 h6 rfl; done) | (exact ⟨⟨live8 g1.1.2, live8 g1.2, trivial⟩, may_at q1 g1.1.1 (by have := (q1.1 g1.1.1).1; omega) (j := 7) rfl⟩; done) | (exact wayM q1 e2 (fun _ => h1) fun _ _ => B.eq.trans mayK1.symm; done) | (exact wayM q1 e3 (fun _ => h2) fun h _ => q4.trans (mayK2 h).symm; done) | (exact wayM q1 e5 (fun _ => h3) fun _ _ => q6.trans (mayK3).symm; done) | (exact wayM q1 e7 (fun _ => h4) fun _ _ => q8.trans (mayK4).symm; done) | (exact wayM q1 e9 (fun _ => h5) fun _ _ => q10.trans (mayK5).symm; done) | (exact wayM q1 e11 (fun _ => h6) fun _ _ => q12.trans (mayK6).symm; done) | (exact wayM q1 e13 (j := 7) (fun h => by have := (q1.1 h).1; omega) fun h h' => (q14 ⟨live8 h, live8 h'⟩).trans mayK7.symm; done)
abbrev Za1.S := Classical.choose Za1.X
def Za1.c : Ctr := fc0 23 [true, true, false] Za1.L Za1 Za1.S
theorem Za1.good : Good Try.prog Za1.c := mkFG0 (fn := Try.f23) {sp := [(2, [[(28, 0)], [(28, 1)], [(28, 2)], [(28, 3)], [(28, 4)], [(28, 5)], [(28, 6)]])]} Za1.X (consG ZaR.good (consG ZaS.good (consG ZaT.good (consG ZaU.good (consG ZaV.good (consG ZaW.good (consG ZaX.good (consG ZaZ.good (consG ZO.good noG))))))))) (by kernel_rfl) (by kernel_rfl) (l0 (by kernel_rfl)) (c0 (by kernel_rfl)) (fun _ => trivial) fun s K => by kernel_rfl
end
end Hw
end Go.Proofs.Ytloicplgckomdaa
