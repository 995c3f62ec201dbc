/- Laws of sums, 4: made by gen.py. -/
import Derived.Test.YtjcacgainbjopaaVA
import Derived.Test.YtjcacgainbjopaaVL
import Derived.Test.YtjcacgainbjopaaUC
set_option linter.unusedVariables false
set_option linter.unusedSimpArgs false
set_option maxRecDepth 100000
set_option maxHeartbeats 400000
namespace Go.Proofs.Ytjcacgainbjopaa
namespace Hw
open Go
noncomputable section
attribute [local irreducible] evFn evBody wrap wxor
theorem idleIff {s : St} (hl : (s.live.length : Int) ≤ 9223372036854775807) : ZS.S s = true ↔ IdleS s := by
  have e : (Nat.beq (ZR.R false s.live (s.live.length : Int) 0).1 0 = true ∧ (ZR.R false s.live (s.live.length : Int) 0).2.1 = false ∧ ¬ IdleS s) ∨ (Nat.beq (ZR.R false s.live (s.live.length : Int) 0).1 0 = false ∧ IdleS s) := by
    rcases ZR.law false s.live (s.live.length : Int) () s.live.length rfl hl with ⟨h1, h2⟩ | ⟨k, r, hk, h1, -, h2⟩
    · rw [h2]
      refine .inr ⟨rfl, fun k hk => ?_⟩
      have h3 := h1 k hk
      simp only [ZR.E, E_none, reduceCtorEq, and_false, false_or, and_true] at h3
      exact h3
    · rw [h2]
      simp only [ZR.E, E_some, reduceCtorEq, and_false, or_false, Option.some.injEq] at h1
      obtain ⟨h3, rfl⟩ := h1
      refine .inl ⟨rfl, rfl, fun h => ?_⟩
      have := h k hk
      rw [h3] at this
      cases this
  unfold ZS.S
  rw [loopB e]
  simp
abbrev DoneQ (w : List Ch) (r : Bool) : Prop := r = true ↔ WOk w ∧ IdleS (stAt w 0) ∧ IdleS (stAt w 1)
theorem doneQ_eq {w : List Ch} {a b : Bool} (h : DoneQ w a) (h' : DoneQ w b) : a = b := Bool.eq_iff_iff.2 (Iff.trans h (Iff.symm h'))
theorem wok_live {w : List Ch} (hw : WOk w) {i : Int} (h0 : 0 ≤ i) (h1 : i ≤ 1) : (stAt w i).live.length ≤ 8 := by
  have h := wok_st hw h0 h1
  have := h.2.2.1
  have := h.2.2.2.1
  omega
theorem done_spec {w : List Ch} {x : Int} (hf : chsFact w) (hr : chsRng w) (e : -9223372036854775808 ≤ ZQ.S (w.getD 0 zCh).st + ZQ.S (w.getD 1 zCh).st ∧ ZQ.S (w.getD 0 zCh).st + ZQ.S (w.getD 1 zCh).st ≤ 9223372036854775807 → x = ZQ.S (w.getD 0 zCh).st + ZQ.S (w.getD 1 zCh).st) : DoneQ w (bif Z0.S w then x == 0 else false) := by
  unfold DoneQ
  cases h : Z0.S w with
  | false =>
    rw [cond_false]
    exact iff_of_false (fun h => by cases h) fun g => by
      rw [(specW hf hr).2 g.1] at h
      cases h
  | true =>
    rw [cond_true, beq_iff_eq]
    have hw := (specW hf hr).1 h
    have l0 : 0 ≤ ZQ.S (w.getD 0 zCh).st ∧ ZQ.S (w.getD 0 zCh).st ≤ 8 ∧ (ZQ.S (w.getD 0 zCh).st = 0 ↔ IdleS (stAt w 0)) := liveCt (wok_live hw (i := 0) (by decide) (by decide))
    have l1 : 0 ≤ ZQ.S (w.getD 1 zCh).st ∧ ZQ.S (w.getD 1 zCh).st ≤ 8 ∧ (ZQ.S (w.getD 1 zCh).st = 0 ↔ IdleS (stAt w 1)) := liveCt (wok_live hw (i := 1) (by decide) (by decide))
    have e := e (by omega)
    constructor
    · intro g
      exact ⟨hw, l0.2.2.1 (by omega), l1.2.2.1 (by omega)⟩
    · intro g
      have a := l0.2.2.2 g.2.1
      have b := l1.2.2.2 g.2.2
      omega
theorem idle_at {w : List Ch} (hw : WOk w) {i : Int} (h0 : 0 ≤ i) (h1 : i ≤ 1) : ZS.S (w.getD i.toNat zCh).st = true ↔ IdleS (stAt w i) := idleIff (s := stAt w i) (by have := wok_live hw h0 h1; omega)
theorem idle_step {w : List Ch} {n i j : Int} (hw : WOk w) (h0 : 0 ≤ i) (h1 : i < n) (en : n = (w.length : Int)) (ej : j = i + 1) (p : ∀ k : Int, 0 ≤ k → k < i → IdleS (stAt w k)) (h : ZS.S (w.getD i.toNat zCh).st = true) : ∀ k : Int, 0 ≤ k → k < j → IdleS (stAt w k) := fun k hk hj => by
  have hl := wok_len hw
  by_cases g : k < i
  · exact p k hk g
  · obtain rfl : k = i := by omega
    exact (idle_at hw h0 (by omega)).1 h
theorem idle_no {w : List Ch} {n i : Int} (hw : WOk w) (h0 : 0 ≤ i) (h1 : i < n) (en : n = (w.length : Int)) (h : ¬ ZS.S (w.getD i.toNat zCh).st = true) : ¬ (IdleS (stAt w 0) ∧ IdleS (stAt w 1)) := fun g => by
  have hl := wok_len hw
  refine h ((idle_at hw h0 (by omega)).2 ?_)
  have hi : i = 0 ∨ i = 1 := by omega
  rcases hi with rfl | rfl
  · exact g.1
  · exact g.2
theorem done_f {w : List Ch} {b : Bool} (e : b = false) (h : ¬ (WOk w ∧ IdleS (stAt w 0) ∧ IdleS (stAt w 1))) : DoneQ w b := iff_of_false (fun g => by rw [e] at g; cases g) h
theorem lives_idle {s : St} {l : List Int} (e : l = lives s.live s.live.length) : (l.length : Int) = 0 ↔ IdleS s := by
  have key : ∀ n : Nat, (lives s.live n).length = 0 ↔ ∀ k, k < n → s.live.getD k false = false := by
    intro n
    induction n with
    | zero => exact iff_of_true rfl fun k hk => absurd hk (Nat.not_lt_zero k)
    | succ n ih =>
      rw [lives, List.length_append]
      constructor
      · intro h k hk
        have h1 : (lives s.live n).length = 0 := by omega
        rcases Nat.lt_or_ge k n with g | g
        · exact ih.1 h1 k g
        · obtain rfl : k = n := by omega
          cases hl : s.live.getD k false with
          | false => rfl
          | true => rw [if_pos hl] at h; simp at h
      · intro h
        rw [ih.2 fun k hk => h k (by omega), h n (by omega)]
        rfl
  rw [e]
  exact ⟨fun h => (key _).1 (by omega), fun h => by have := (key s.live.length).2 h; omega⟩
theorem awayF_idle {s o : St} {k : Int} (h : IdleS s) : ∀ n : Nat, awayF s o k n = 0
  | 0 => rfl
  | n + 1 => by
    rw [awayF, awayF_idle h n, if_neg]
    · rfl
    · intro g
      rcases Nat.lt_or_ge n s.live.length with a | a
      · rw [h n a] at g
        cases g.2.1
      · have : s.live.getD n false = false := by rw [List.getD_eq_getElem?_getD, List.getElem?_eq_none a]; rfl
        rw [this] at g
        cases g.2.1
theorem aw_at {w : List Ch} {n k r : Int} (hw : WOk w) (hn : n = 1 ∨ n = 2) (hk : k = 1 ∨ k = 2) (q : AwQ w n k r) : (0 ≤ r ∧ r ≤ 72) ∧ (IdleS (stAt w (n - 1)) → r = 0) := by
  have e := q.1 ⟨hw, by omega, hk⟩
  have h := awaysW_rng (k := k) hw (n := n) (by omega)
  exact ⟨by omega, fun g => e.trans (awayF_idle g _)⟩
theorem lv_at {w : List Ch} {i : Int} {l : List Int} (hw : WOk w) (h0 : 0 ≤ i) (h1 : i ≤ 1) (q : StOk (stAt w i) → l = lives (stAt w i).live (stAt w i).live.length) : l.length ≤ 8 ∧ ((l.length : Int) = 0 ↔ IdleS (stAt w i)) := by
  have e := q (wok_st hw h0 h1)
  refine ⟨?_, lives_idle e⟩
  rw [e]
  exact Nat.le_trans (lives_len _) (wok_live hw h0 h1)
theorem done_fin {w : List Ch} {b : Bool} {s a1 a2 a3 a4 t : Int} {l m : List Int} (hw : WOk w) (q : DoneQ w b) (hl : (l.length : Int) = 0 ↔ IdleS (stAt w 0)) (hm : (m.length : Int) = 0 ↔ IdleS (stAt w 1)) (es : s = (l.length : Int) + (m.length : Int)) (e1 : IdleS (stAt w 0) → a1 = 0) (e2 : IdleS (stAt w 0) → a2 = 0) (e3 : IdleS (stAt w 1) → a3 = 0) (e4 : IdleS (stAt w 1) → a4 = 0) (et : t = a1 + a2 + a3 + a4) : b = (s == 0) ∧ (¬ b = true ∨ t = 0) := by
  have hs : (s == 0) = true ↔ IdleS (stAt w 0) ∧ IdleS (stAt w 1) := by
    rw [beq_iff_eq, ← hl, ← hm]
    omega
  refine ⟨?_, ?_⟩
  · have hb : b = true ↔ (s == 0) = true := by
      rw [hs]
      exact Iff.trans q ⟨fun g => g.2, fun g => ⟨hw, g⟩⟩
    cases b <;> cases hx : (s == 0) <;> simp_all
  · by_cases g : b = true
    · obtain ⟨-, i0, i1⟩ := q.1 g
      exact .inr (by rw [et, e1 i0, e2 i0, e3 i1, e4 i1]; rfl)
    · exact .inl g

def Z4.L : FL := fCons (fSh sW) (fNil)
def Z4 : List Ch × Unit → FR (Bool) := fun (a0, ()) => ⟨(chsFact a0) ∧ (chsRng a0) ∧ True, fun X => And (Imp (And ((Z0.S a0) = true) (True)) ((0 : Int) ≤ 0 ∧ 0 < (a0.length : Int))) (And (Imp (And ((Z0.S a0) = true) (True)) ((0 : Int) ≤ 1 ∧ 1 < (a0.length : Int))) (Lt (wrap ((ZQ.S (a0.getD 0 zCh).st) + (ZQ.S (a0.getD 1 zCh).st))) fun x1 => X (bif (Z0.S a0) then x1 == 0 else false))), fun r => (DoneQ a0 r) ∧ True, fun r => (.v (.c (.bool r)), [])⟩
theorem Z4.X : XF Z4 := mkF (false) fun (a0, ()) hp => by
  obtain ⟨p0, p1, -⟩ := hp
  dsimp only [Z4]
  refine May.chk (fun hπ => have g1 := Iff.mp (Iff.rfl) hπ.1; ?_) fun c1 => May.chk (fun hπ => have g1 := Iff.mp (Iff.rfl) hπ.1; ?_) fun c2 => May.lwi fun x1 e1 => May.ret ⟨?_, trivial⟩
  all_goals try dsimp only
  all_goals first | with_reducible assumption | omega | ((have := wok_len ((specW p0 p1).1 g1); omega); done) | (exact done_spec p0 p1 e1; done)
abbrev Z4.S := Classical.choose Z4.X
def Z4.c : Ctr := fc 15 [true] Z4.L Z4 Z4.S
theorem Z4.good : Good Try.prog Z4.c := mkFG (fn := Try.f15) {} Z4.X (consG Z0.good (consG ZQ.good noG)) (by kernel_rfl) (by kernel_rfl) (l0 (by kernel_rfl)) (c0 (by kernel_rfl)) fun s K => by kernel_rfl
theorem Z6.G : GG [Z2.c, ZS.c] := (consG Z2.good (consG ZS.good noG))
def Z5.L : FL := fCons (fC cBool) (fCons (fC (cArr false kChs)) (fCons (fC cInt) (fCons (fC cInt) (fNil))))
def Z5 : Bool × List Ch × Int × Int × Unit → LR (Bool × List Ch × Int × Int × Unit) (Nat × Bool × Unit) := fun (y0, y1, y2, y3, ()) => ⟨(0 ≤ y3) ∧ (y2 ≤ 9223372036854775807) ∧ (y2 = (y1.length : Int)) ∧ (WOk y1) ∧ (y3 ≤ (y1.length : Int)) ∧ (∀ k : Int, 0 ≤ k → k < y3 → IdleS (stAt y1 k)) ∧ True, (y2 - y3).toNat, fun X => And (Imp ((decide (y3 < y2)) = true) (And ((0 : Int) ≤ y3 ∧ y3 < (y1.length : Int)) (And (Imp ((!(ZS.S (y1.getD (y3).toNat zCh).st)) = true) (X (.inr (0, false, ())))) (Imp ((!(ZS.S (y1.getD (y3).toNat zCh).st)) = false) (Lt (wrap (y3 + 1)) fun x1 => X (.inl (y0, y1, y2, x1, ()))))))) (Imp ((decide (y3 < y2)) = false) (X (.inr (1, false, ())))), fun r => (r.1 = 0 → r.2.1 = false ∧ ¬ (IdleS (stAt y1 0) ∧ IdleS (stAt y1 1))) ∧ (¬ r.1 = 0 → IdleS (stAt y1 0) ∧ IdleS (stAt y1 1)) ∧ True, fun r => [(Nat.beq r.1 0, (.ret, [.c (.bool r.2.1)], []))], fun r => (.exit 0, [], [])⟩
theorem Z5.X : XL Z5 := mkL (0, false, ()) fun (y0, y1, y2, y3, ()) hp => by
  obtain ⟨p0, p1, p2, p3, p4, p5, -⟩ := hp
  unfold ML; dsimp only [Z5]
  refine May.iff (B.dec) (fun h1 => ?_) (fun h1 => ?_)
  refine May.chk ?_ fun c1 => May.iff (B.not (Iff.rfl)) (fun h2 => ?_) (fun h2 => ?_); rotate_left 1
  refine May.ex ⟨?_, ?_, trivial⟩; rotate_left 2
  refine May.lw ⟨?_, ?_⟩ fun x1 e1 => May.nx ⟨?_, ?_, ?_, ?_, ?_, ?_, trivial⟩ ?_ ?_ fun r => rfl; rotate_left 10
  refine May.ex ⟨?_, ?_, trivial⟩
  all_goals try dsimp only [Z5]
  all_goals first | with_reducible assumption | omega | exact fun _ q => q | ((intro h; omega); done) | (exact fun _ => ⟨rfl, idle_no p3 p0 h1 p2 h2⟩; done) | (exact idle_step p3 p0 h1 p2 e1 p5 (nn h2); done) | ((have := wok_len p3; exact fun _ => ⟨p5 0 (by decide) (by omega), p5 1 (by decide) (by omega)⟩); done) | (exact fun h => absurd rfl h; done)
abbrev Z5.R := Classical.choose Z5.X
def Z5.k : LCtr := (ld 4 [2, 9, 10, 11] [] Z5.L Z5 0 (fun e => match e with | .ret => [2] | _ => []) (fun _ => []) Z5.R).ctr
theorem Z5.g : LGood Try.prog Try.f14.ntmps Z5.k (bodyAt Try.f14 0) := mkLG {} Z5.X Z6.G (by kernel_rfl) (l0 (by kernel_rfl)) (c0 (by kernel_rfl)) fun S s => by kernel_rfl
def Z6.L : FL := fCons (fSh sW) (fNil)
def Z6 : List Ch × Unit → FR (Bool) := fun (a0, ()) => ⟨(chsFact a0) ∧ (chsRng a0) ∧ True, fun X => And (Imp ((!(Z2.S a0)) = true) (X false)) (Imp ((!(Z2.S a0)) = false) (CallL Z5.X (false, a0, (a0.length : Int), 0, ()) fun x2 => And (Imp (Nat.beq x2.1 0 = true) (X x2.2.1)) (Imp (Nat.beq x2.1 0 = false) (X true)))), fun r => (DoneQ a0 r) ∧ True, fun r => (.v (.c (.bool r)), [])⟩
theorem Z6.X : XF Z6 := mkF (false) fun (a0, ()) hp => by
  obtain ⟨p0, p1, -⟩ := hp
  dsimp only [Z6]
  refine May.iff (B.not (Iff.rfl)) (fun h1 => ?_) (fun h1 => ?_)
  refine May.ret ⟨?_, trivial⟩; rotate_left 1
  refine May.loop ⟨?_, ?_, ?_, ?_, ?_, ?_, trivial⟩ fun x2 q2 => have q2_0 := q2.1; have q2_1 := q2.2.1; May.iff B.nbeq (fun h2 => ?_) (fun h2 => ?_); rotate_left 6
  refine May.ret ⟨?_, trivial⟩; rotate_left 1
  refine May.ret ⟨?_, trivial⟩
  all_goals try dsimp only
  all_goals first | with_reducible assumption | omega | (exact done_f rfl fun g => h1 ((implW p0).2 g.1); done) | (exact (implW p0).1 (nn h1); done) | ((have := wok_len ((implW p0).1 (nn h1)); omega); done) | ((intro k h0 hk; omega); done) | (exact done_f (q2_0 h2).1 fun g => (q2_0 h2).2 g.2; done) | (exact iff_of_true rfl ⟨(implW p0).1 (nn h1), q2_1 h2⟩; done)
abbrev Z6.S := Classical.choose Z6.X
def Z6.c : Ctr := fc 14 [true] Z6.L Z6 Z6.S
theorem Z6.good : Good Try.prog Z6.c := mkFG (fn := Try.f14) {LL := [Z5.k]} Z6.X Z6.G (by kernel_rfl) (by kernel_rfl) (lG (by kernel_rfl) (consL (by kernel_rfl) Z5.g (noL rfl))) (c0 (by kernel_rfl)) fun s K => by kernel_rfl
def Zej.L : FL := fCons (fC (cArr true kU8s)) (fNil)
def Zej : List Int × Unit → FR (Bool) := fun (a0, ()) => ⟨(∀ k, 0 ≤ a0.getD k 0 ∧ a0.getD k 0 ≤ 255) ∧ True, fun X => And (Imp ((decide ((a0.length : Int) > 1048576)) = true) (X true)) (Imp ((decide ((a0.length : Int) > 1048576)) = false) (Call Zeb.X (a0, ()) fun x1 => Call Z6.X (x1, ()) fun x2 => Call Z4.X (x1, ()) fun x3 => Lt (bif !((x2 : Bool) == x3) then true else !(Z0.S x1)) fun x4 => And (Imp (x4 = true) (And ((Z4 (x1, ())).P) (X ((x2 : Bool) == x3)))) (Imp (x4 = false) (And ((0 : Int) ≤ 0 ∧ 0 < (x1.length : Int)) (Call0 Zbg.X ((x1.getD 0 zCh).st, ()) fun x5 => And ((0 : Int) ≤ 1 ∧ 1 < (x1.length : Int)) (Call0 Zbg.X ((x1.getD 1 zCh).st, ()) fun x6 => Lt (wrap ((x5.length : Int) + (x6.length : Int))) fun x7 => Call Zdl.X (x1, 1, 1, ()) fun x8 => Call Zdl.X (x1, 1, 2, ()) fun x9 => Lt (wrap (x8 + x9)) fun x10 => Call Zdl.X (x1, 2, 1, ()) fun x11 => Lt (wrap (x10 + x11)) fun x12 => Call Zdl.X (x1, 2, 2, ()) fun x13 => Lt (wrap (x12 + x13)) fun x14 => Lt (bif (x2 : Bool) == (x7 == 0) then bif !x2 then true else x14 == 0 else false) fun x15 => X x15)))))), fun r => (r = true) ∧ True, fun r => (.v (.c (.bool r)), [])⟩
theorem Zej.X : XF Zej := mkF (false) fun (a0, ()) hp => by
  obtain ⟨p0, -⟩ := hp
  dsimp only [Zej]
  refine May.iff (B.dec) (fun h1 => ?_) (fun h1 => ?_)
  refine May.ret ⟨?_, trivial⟩; rotate_left 1
  refine May.call ⟨?_, trivial⟩ fun x1 q1 => have q1_0 := q1.1; have q1_1 := q1.2.1; May.call ⟨?_, ?_, trivial⟩ fun x2 q2 => have q2 := q2.1; May.call ⟨?_, ?_, trivial⟩ fun x3 q3 => have q3 := q3.1; May.lp (B.or (B.not (B.beq)) (B.not (Iff.rfl))) fun x4 e4 => May.iff (e4) (fun h2 => ?_) (fun h2 => ?_); rotate_left 5
  refine May.chk ⟨?_, ?_, trivial⟩ fun c1 => May.ret ⟨?_, trivial⟩; rotate_left 3
  refine May.chk ?_ fun c2 => May.call0 trivial fun x5 q5 => have q5_0 := q5.1; have q5_1 := q5.2.1; May.chk ?_ fun c3 => May.call0 trivial fun x6 q6 => have q6_0 := q6.1; have q6_1 := q6.2.1; May.lw ⟨?_, ?_⟩ fun x7 e7 => May.call ⟨?_, ?_, trivial⟩ fun x8 q8 => have q8 := q8.1; May.call ⟨?_, ?_, trivial⟩ fun x9 q9 => have q9 := q9.1; May.lw ⟨?_, ?_⟩ fun x10 e10 => ?_; rotate_left 10
  refine May.call ⟨?_, ?_, trivial⟩ fun x11 q11 => have q11 := q11.1; May.lw ⟨?_, ?_⟩ fun x12 e12 => May.call ⟨?_, ?_, trivial⟩ fun x13 q13 => have q13 := q13.1; May.lw ⟨?_, ?_⟩ fun x14 e14 => May.lp (B.and (B.beq) (B.or (B.not (Iff.rfl)) (B.eq))) fun x15 e15 => May.ret ⟨?_, trivial⟩
  all_goals try dsimp only
  all_goals first | with_reducible assumption | omega | (with_reducible rfl; done) | (exact beq_iff_eq.2 (doneQ_eq q2 q3); done) | ((have W := (specW q1_0 q1_1).1 (nn fun g => h2 (.inr g)); have := wok_len W; omega); done) | ((have W := (specW q1_0 q1_1).1 (nn fun g => h2 (.inr g)); have L1 := lv_at W (i := 0) (by decide) (by decide) q5_0; have L2 := lv_at W (i := 1) (by decide) (by decide) q6_0; omega); done) | ((have W := (specW q1_0 q1_1).1 (nn fun g => h2 (.inr g)); have A1 := aw_at W (.inl rfl) (.inl rfl) q8; have A2 := aw_at W (.inl rfl) (.inr rfl) q9; omega); done) | ((have W := (specW q1_0 q1_1).1 (nn fun g => h2 (.inr g)); have A1 := aw_at W (.inl rfl) (.inl rfl) q8; have A2 := aw_at W (.inl rfl) (.inr rfl) q9; have A3 := aw_at W (.inr rfl) (.inl rfl) q11; omega); done) | ((have W := (specW q1_0 q1_1).1 (nn fun g => h2 (.inr g)); have A1 := aw_at W (.inl rfl) (.inl rfl) q8; have A2 := aw_at W (.inl rfl) (.inr rfl) q9; have A3 := aw_at W (.inr rfl) (.inl rfl) q11; have A4 := aw_at W (.inr rfl) (.inr rfl) q13; omega); done) | ((have W := (specW q1_0 q1_1).1 (nn fun g => h2 (.inr g)); have A1 := aw_at W (.inl rfl) (.inl rfl) q8; have A2 := aw_at W (.inl rfl) (.inr rfl) q9; have A3 := aw_at W (.inr rfl) (.inl rfl) q11; have A4 := aw_at W (.inr rfl) (.inr rfl) q13; have L1 := lv_at W (i := 0) (by decide) (by decide) q5_0; have L2 := lv_at W (i := 1) (by decide) (by decide) q6_0; exact e15.2 (done_fin W q2 L1.2 L2.2 e7 A1.2 A2.2 A3.2 A4.2 (by rw [e14, e12, e10]))); done)
abbrev Zej.S := Classical.choose Zej.X
def Zej.c : Ctr := fc 4 [false] Zej.L Zej Zej.S
theorem Zej.good : Good Try.prog Zej.c := mkFG (fn := Try.f4) {} Zej.X (consG Zeb.good (consG Z6.good (consG Z4.good (consG Z0.good (consG Zbg.good (consG Zdl.good noG)))))) (by kernel_rfl) (by kernel_rfl) (l0 (by kernel_rfl)) (c0 (by kernel_rfl)) fun s K => by kernel_rfl
end
end Hw
end Go.Proofs.Ytjcacgainbjopaa
