/- Laws of packets that are settled, 2: made by gen.py. -/
import Derived.Test.YtloicplgckomdaaTC
import Derived.Test.YtloicplgckomdaaRC
import Derived.Test.YtloicplgckomdaaG2
set_option linter.unusedVariables false
set_option linter.unusedSimpArgs false
set_option maxRecDepth 100000
set_option maxHeartbeats 400000
namespace Go.Proofs.Ytloicplgckomdaa
namespace Hw
open Go
noncomputable section
attribute [local irreducible] evFn evBody wrap wxor
abbrev OthT (c : Ch) (i : Int) (r : Ch) : Prop := ∃ k, ChOk c ∧ Mine0 c.st i ∧ SetE c i k r
theorem otht_of {c r : Ch} {s : St} {i : Int} {t : Bool} (q3 : RtQ c s i r t) (ht : t = true) : OthT c i r := ⟨_, (q3.1.1 ht).1.1, (q3.1.1 ht).2.1, q3.2.1 ht⟩
theorem otht_stl {c r : Ch} {i n x y : Int} (o : OthT c i r) (hn : ¬ n = i) (q7 : StlQ r.st n x) (q8 : StlQ c.st n y) : x = y := by
  obtain ⟨k, h1, hm, hs⟩ := o
  have ho := (setE_ok h1 hm.1 hs).1.2.2.1
  have hr := mine_rng h1.2.2.1 hm
  have hl := stL h1.2.2.1
  obtain ⟨b, _, _, h3⟩ := hs
  have e1 : r.st.sent = c.st.sent := by rw [h3]; rfl
  by_cases hg : 1 ≤ n ∧ n ≤ (c.st.sent.length : Int)
  · rw [q7.1 ho hg.1 (by rw [e1]; exact hg.2), q8.1 h1.2.2.1 hg.1 hg.2, h3]
    show (if (c.st.live.set (i - 1).toNat false).getD (n - 1).toNat false = true then 1 else if (bif k then c.st.back.set (i - 1).toNat true else c.st.back).getD (n - 1).toNat false = true then 3 else 2) = _
    have e2 : (bif k then c.st.back.set (i - 1).toNat true else c.st.back).getD (n - 1).toNat false = c.st.back.getD (n - 1).toNat false := by
      cases k
      · rfl
      · show (c.st.back.set (i - 1).toNat true).getD (n - 1).toNat false = _
        rw [getD_set (by omega), if_neg (by omega)]
    have e3 : (c.st.live.set (i - 1).toNat false).getD (n - 1).toNat false = c.st.live.getD (n - 1).toNat false := by rw [getD_set (by omega), if_neg (by omega)]
    rw [e2, e3]
  · rw [q7.2 (fun g => hg (by rw [e1] at g; exact g.2)), q8.2 (fun g => hg g.2)]
theorem otht_no {c r : Ch} {i n x y : Int} (o : OthT c i r) (q7 : StlQ r.st n x) (q8 : StlQ c.st n y) : ¬ (¬ n = i ∧ ¬ x = y) := fun g => g.2 (otht_stl o g.1 q7 q8)
theorem lives_cong {l m : List Bool} {n : Nat} (h : ∀ k, k < n → l.getD k false = m.getD k false) : lives l n = lives m n := by
  induction n with
  | zero => rfl
  | succ n ih => rw [lives, lives, ih fun k hk => h k (by omega), h n (by omega)]
theorem lives_set {l : List Bool} {i n : Nat} (hi : i < n) (hl : i < l.length) (h : l.getD i false = true) : (lives (l.set i false) n).length + 1 = (lives l n).length := by
  induction n with
  | zero => exact absurd hi (Nat.not_lt_zero i)
  | succ n ih =>
    rw [lives, lives, getD_set hl]
    by_cases e : n = i
    · subst e
      rw [if_pos rfl, if_neg (by simp), if_pos h, lives_cong (m := l) fun k hk => by rw [getD_set hl, if_neg (by omega)]]
      simp
    · rw [if_neg e]
      have := ih (by omega)
      simp only [List.length_append]
      omega
theorem others_fin {c r : Ch} {i x15 : Int} {x13 x14 : List Int} {x12 x16 : Bool} (o : OthT c i r) (q12 : x12 = true ↔ r.st.got = c.st.got) (q13_0 : StOk r.st → x13 = lives r.st.live r.st.live.length) (q14_0 : StOk c.st → x14 = lives c.st.live c.st.live.length) (e15 : -9223372036854775808 ≤ (x14.length : Int) - 1 ∧ (x14.length : Int) - 1 ≤ 9223372036854775807 → x15 = (x14.length : Int) - 1) (e16 : x16 = true ↔ ((r.st.way = c.st.way ∧ r.st.ver = c.st.ver) ∧ x12 = true) ∧ (x13.length : Int) = x15) : x16 = true := by
  obtain ⟨k, h1, hm, hs⟩ := o
  have ho := (setE_ok h1 hm.1 hs).1.2.2.1
  have hr := mine_rng h1.2.2.1 hm
  have hl := stL h1.2.2.1
  have e13 := q13_0 ho
  have e14 := q14_0 h1.2.2.1
  obtain ⟨b, _, _, h3⟩ := hs
  have e1 : r.st.live = c.st.live.set (i - 1).toNat false := by rw [h3]; rfl
  refine e16.2 ⟨⟨⟨by rw [h3]; rfl, by rw [h3]; rfl⟩, q12.2 (by rw [h3]; rfl)⟩, ?_⟩
  have h5 := lives_set (l := c.st.live) (i := (i - 1).toNat) (n := c.st.live.length) (by omega) (by omega) hm.2
  have h6 := lives_len (l := c.st.live) c.st.live.length
  rw [e13, e1, List.length_set, e15 (by rw [e14]; omega), e14]
  omega

theorem Zc8.G : GG [ZcT.c, ZcL.c, ZcJ.c, ZbT.c, Zcw.c, Za.c, Zbg.c] := (consG ZcT.good (consG ZcL.good (consG ZcJ.good (consG ZbT.good (consG Zcw.good (consG Za.good (consG Zbg.good noG)))))))
def Zc9.L : FL := fCons (fC cBool) (fCons (fC (cPtr 1 (cChE true) rfl)) (fCons (fC cInt) (fCons (fC (cPtr 1 (cChE true) rfl)) (fCons (fC cInt) (fNil)))))
def Zc9 : Bool × Ch × Int × Ch × Int × Unit → LR (Bool × Ch × Int × Ch × Int × Unit) (Nat × Bool × Unit) := fun (y0, y1, y2, y3, y4, ()) => ⟨(0 ≤ y4) ∧ ((y1.st.sent.length : Int) ≤ 9223372036854775807) ∧ (y4 ≤ (y1.st.sent.length : Int) + 1) ∧ (y1.st.sent.length ≤ 1000000) ∧ (OthT y1 y2 y3) ∧ True, ((y1.st.sent.length : Int) + 1 - y4).toNat, fun X => And (Imp ((decide (y4 ≤ (y1.st.sent.length : Int))) = true) (Lt ((Zcw.S (y3.st, y4, ()))) fun x7 => Lt ((Zcw.S (y1.st, y4, ()))) fun x8 => And (Imp ((bif y4 != y2 then x7 != x8 else false) = true) (X (.inr (0, false, ())))) (Imp ((bif y4 != y2 then x7 != x8 else false) = false) (Lt (wrap (y4 + 1)) fun x9 => X (.inl (y0, y1, y2, y3, x9, ())))))) (Imp ((decide (y4 ≤ (y1.st.sent.length : Int))) = false) (X (.inr (1, false, ())))), fun r => (¬ r.1 = 0) ∧ True, fun r => [(Nat.beq r.1 0, (.ret, [.c (.bool r.2.1)], []))], fun r => (.exit 0, [.c (.ptr 0 0), .c (.ptr 1 0)], [.raw 1 [.int y1.id, .arr true (.ints y1.bank.own), .arr true (.ints y1.bank.notes), .int y1.bank.locked, .int y1.st.way, .int y1.st.ver, .int y1.st.want, .arr true (.pkts y1.st.sent), .arr true (.bools y1.st.live), .arr true (.bools y1.st.back), .arr true (.ints y1.st.got), .arr true (.sts y1.past), .arr true (.ints y1.knows)], .raw 1 [.int y3.id, .arr true (.ints y3.bank.own), .arr true (.ints y3.bank.notes), .int y3.bank.locked, .int y3.st.way, .int y3.st.ver, .int y3.st.want, .arr true (.pkts y3.st.sent), .arr true (.bools y3.st.live), .arr true (.bools y3.st.back), .arr true (.ints y3.st.got), .arr true (.sts y3.past), .arr true (.ints y3.knows)]])⟩
theorem Zc9.X : XL Zc9 := mkL (0, false, ()) fun (y0, y1, y2, y3, y4, ()) hp => by
  obtain ⟨p0, p1, p2, p3, p4, -⟩ := hp
  unfold ML; dsimp only [Zc9]
  refine May.iff (B.dec) (fun h1 => ?_) (fun h1 => ?_)
  refine May.clq trivial fun x7 q7 => have q7 := q7.1; May.clq trivial fun x8 q8 => have q8 := q8.1; May.iff (B.and (B.ne) (B.ne)) (fun h2 => ?_) (fun h2 => ?_)
  refine May.ex ⟨?_, trivial⟩; rotate_left 1
  refine May.lw ⟨?_, ?_⟩ fun x9 e9 => May.nx ⟨?_, ?_, ?_, ?_, ?_, trivial⟩ ?_ ?_ fun r => rfl; rotate_left 9
  refine May.ex ⟨?_, trivial⟩
  all_goals try dsimp only [Zc9]
  all_goals first | with_reducible assumption | omega | exact fun _ q => q | (exact absurd h2 (otht_no p4 q7 q8); done) | (exact fun h => (by cases h); done)
abbrev Zc9.R := Classical.choose Zc9.X
def Zc9.k : LCtr := (ld 9 [2, 3, 5, 8, 10] [] Zc9.L Zc9 0 (fun e => match e with | .ret => [2] | _ => [3, 8]) (fun _ => []) Zc9.R).ctr
theorem Zc9.g : LGood Try.prog Try.f13.ntmps Zc9.k (bodyAt Try.f13 0) := mkLG {} Zc9.X Zc8.G (by kernel_rfl) (l0 (by kernel_rfl)) (c0 (by kernel_rfl)) fun S s => by kernel_rfl
def Zc8.L : FL := fCons (fC (cArr true kU8s)) (fNil)
def Zc8 : List Int × Unit → FR (Bool) := fun (a0, ()) => ⟨(∀ k, 0 ≤ a0.getD k 0 ∧ a0.getD k 0 ≤ 255) ∧ True, fun X => And (Imp ((decide ((a0.length : Int) > 1048576)) = true) (X true)) (Imp ((decide ((a0.length : Int) > 1048576)) = false) (Call ZcT.X (a0, ()) fun x1 => Call ZcL.X (x1.1, x1.2.1, x1.2.2, ()) fun x2 => Call ZcJ.X (x1.1, x1.2.1, x1.2.2, ()) fun x3 => And (Imp (And ((!((x3.2 : Bool) == x2.2)) = false) (True)) ((ZbT (x3.1, x2.1, ())).P)) (Lt ((ZbT.S (x3.1, x2.1, ()))) fun x4 => Lt (bif bif !((x3.2 : Bool) == x2.2) then true else !x4 then true else !x3.2) fun x5 => And (Imp (x5 = true) (And (Imp (And (((x3.2 : Bool) == x2.2) = true) (True)) ((ZbT (x3.1, x2.1, ())).P)) (Lt ((ZbT.S (x3.1, x2.1, ()))) fun x6 => X (bif (x3.2 : Bool) == x2.2 then x6 else false)))) (Imp (x5 = false) (CallL Zc9.X (false, x1.1, x1.2.2, x3.1, 1, ()) fun x10 => And (Imp (Nat.beq x10.1 0 = true) (X x10.2.1)) (Imp (Nat.beq x10.1 0 = false) (Lt (bif x3.1.st.way == x1.1.st.way then x3.1.st.ver == x1.1.st.ver else false) fun x11 => And (Imp (And (x11 = true) (True)) ((Za (x3.1.st.got, x1.1.st.got, ())).P)) (Lt ((Za.S (x3.1.st.got, x1.1.st.got, ()))) fun x12 => Lt ((Zbg.S (x3.1.st, ()))) fun x13 => Lt ((Zbg.S (x1.1.st, ()))) fun x14 => Lt (wrap ((x14.length : Int) - 1)) fun x15 => Lt (bif bif x11 then x12 else false then (x13.length : Int) == x15 else false) fun x16 => X x16)))))))), fun r => (r = true) ∧ True, fun r => (.v (.c (.bool r)), [])⟩
theorem Zc8.X : XF Zc8 := mkF (false) fun (a0, ()) hp => by
  obtain ⟨p0, -⟩ := hp
  dsimp only [Zc8]
  refine May.iff (B.dec) (fun h1 => ?_) (fun h1 => ?_)
  refine May.ret ⟨?_, trivial⟩; rotate_left 1
  refine May.call ⟨?_, trivial⟩ fun x1 q1 => have q1_0 := q1.1; have q1_1 := q1.2.1; May.call ⟨?_, trivial⟩ fun x2 q2 => have q2 := q2.1; May.call ⟨?_, trivial⟩ fun x3 q3 => have q3 := q3.1; May.chk (fun hπ => have g1 := B.neg (B.not (B.beq)) hπ.1; ⟨?_, trivial⟩) fun c1 => May.clq ⟨?_, trivial⟩ fun x4 q4 => have q4 := q4.1; May.lp (B.or (B.or (B.not (B.beq)) (B.not (Iff.rfl))) (B.not (Iff.rfl))) fun x5 e5 => May.iff (e5) (fun h2 => ?_) (fun h2 => ?_); rotate_left 5
  refine May.chk (fun hπ => have g1 := Iff.mp (B.beq) hπ.1; ⟨?_, trivial⟩) fun c2 => May.clq ⟨?_, trivial⟩ fun x6 q6 => have q6 := q6.1; May.ret ⟨?_, trivial⟩; rotate_left 3
  refine May.loop ⟨?_, ?_, ?_, ?_, ?_, trivial⟩ fun x10 q10 => have q10 := q10.1; May.iff B.nbeq (fun h3 => ?_) (fun h3 => ?_); rotate_left 5
  refine May.ret ⟨?_, trivial⟩; rotate_left 1
  refine May.lp (B.and (B.eq) (B.eq)) fun x11 e11 => May.chk (fun hπ => have g1 := Iff.mp (e11) hπ.1; ⟨?_, trivial⟩) fun c3 => May.clq ⟨?_, trivial⟩ fun x12 q12 => have q12 := q12.1; May.clq trivial fun x13 q13 => have q13_0 := q13.1; have q13_1 := q13.2.1; May.clq trivial fun x14 q14 => have q14_0 := q14.1; have q14_1 := q14.2.1; May.lwi fun x15 e15 => May.lp (B.and (B.and (e11) (Iff.rfl)) (B.eq)) fun x16 e16 => May.ret ⟨?_, trivial⟩
  all_goals try dsimp only
  all_goals first | with_reducible assumption | omega | (with_reducible rfl; done) | (exact rt_lt q3 q1_0; done) | (exact rtB q2 q3 q6; done) | (exact (rt_lt q3 q1_0).2.1.2.2.2; done) | (exact q1_0.2.1.1; done) | ((have := q1_0.2.1.1; omega); done) | (exact otht_of q3 (nn fun g => h2 (.inr g)); done) | (exact absurd h3 q10; done) | (exact others_fin (otht_of q3 (nn fun g => h2 (.inr g))) q12 q13_0 q14_0 e15 e16; done)
abbrev Zc8.S := Classical.choose Zc8.X
def Zc8.c : Ctr := fc 13 [false] Zc8.L Zc8 Zc8.S
theorem Zc8.good : Good Try.prog Zc8.c := mkFG (fn := Try.f13) {LL := [Zc9.k]} Zc8.X Zc8.G (by kernel_rfl) (by kernel_rfl) (lG (by kernel_rfl) (consL (by kernel_rfl) Zc9.g (noL rfl))) (c0 (by kernel_rfl)) fun s K => by kernel_rfl
end
end Hw
end Go.Proofs.Ytloicplgckomdaa
