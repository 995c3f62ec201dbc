/- Laws of steps, 4: made by gen.py. -/
import Derived.Test.YtceihgojdnkfiaaH1
import Derived.Test.YtceihgojdnkfiaaW1
import Derived.Test.YtceihgojdnkfiaaG2
set_option linter.unusedVariables false
set_option linter.unusedSimpArgs false
set_option maxRecDepth 100000
set_option maxHeartbeats 400000
namespace Go.Proofs.Ytceihgojdnkfiaa
namespace Hw
open Go
noncomputable section
attribute [local irreducible] evFn evBody wrap wxor
theorem ck3 {a b : Bool} {p q : Prop} (h : ¬((¬a = b ∨ ¬q) ∨ ¬p)) : a = b ∧ q ∧ p := ⟨Classical.byContradiction fun g => h (.inl (.inl g)), Classical.byContradiction fun g => h (.inl (.inr g)), Classical.byContradiction fun g => h (.inr g)⟩
theorem wd_eqB {s o x w : St} {k : Int} {b c d : Bool} (q2 : DoQ s o k w b) (q3 : DoQ s o k x c) (q4 : d = true ↔ x = w) : (bif c == b then d else false) = true := by
  obtain ⟨rfl, h⟩ := do_same q3 q2
  rw [q4.2 h]
  simp
theorem ck4 {a b : Bool} {p q t : Prop} (h : ¬(((¬a = b ∨ ¬q) ∨ ¬p) ∨ ¬t)) : (a = b ∧ q ∧ p) ∧ t := ⟨ck3 fun g => h (.inl g), Classical.byContradiction fun g => h (.inr g)⟩
theorem no_may {x o : St} (h : x.way = 4) {k : Int} (hk : ¬ k = 7) : ¬ MayW x o k := fun g => by
  have g := g.2
  unfold MayK at g
  rcases g with g | g | g | g | g | g | g <;> omega
theorem mays_flush {x o : St} (h : x.way = 4) : mays x o 7 = [] ∨ (mays x o 7 = [7] ∧ MayW x o 7) := by
  have key : ∀ n, n ≤ 6 → mays x o n = [] := by
    intro n
    induction n with
    | zero => intro _; rfl
    | succ n ih =>
      intro hn
      rw [mays, ih (by omega), if_neg (no_may h (by omega))]
      rfl
  rw [mays, key 6 (by omega)]
  by_cases g : MayW x o 7
  · exact .inr ⟨by rw [if_pos (show MayW x o (((6 : Nat) : Int) + 1) from g)]; rfl, g⟩
  · exact .inl (by rw [if_neg (show ¬ MayW x o (((6 : Nat) : Int) + 1) from g)]; rfl)
theorem flush7 {x o : St} {l : List Int} (hl : l = mays x o 7) (h : x.way = 4) : ∀ k : Nat, (k : Int) < (l.length : Int) → l.getD k 0 = 7 := fun k hk => by
  rcases mays_flush (o := o) h with g | g
  · rw [hl, g] at hk
    simp at hk
    omega
  · rw [hl, g.1] at hk ⊢
    have : k = 0 := by simp at hk; omega
    subst this
    rfl
theorem flush1 {x o : St} {l l' : List Int} (hl : l = mays x o 7) (h : x.way = 4) (hx : StOk x) (q : StOk x → l' = lives x.live x.live.length) : (l.length : Int) ≤ 1 ∧ ((l.length : Int) = 0 ∨ (l'.length : Int) = 0) := by
  rcases mays_flush (o := o) h with g | g
  · rw [hl, g]
    exact ⟨by decide, .inl rfl⟩
  · rw [hl, g.1]
    refine ⟨by decide, .inr ?_⟩
    rw [q hx]
    have := (lives_idle (l := x.live) x.live.length).2 (mayK7.1 g.2.2).2.1
    omega

theorem Zbw.G : GG [Zbn.c, Zbs.c, Zbe.c, Zbq.c, Za2.c, Zbg.c] := (consG Zbn.good (consG Zbs.good (consG Zbe.good (consG Zbq.good (consG Za2.good (consG Zbg.good noG))))))
def Zbx.L : FL := fCons (fC cBool) (fCons (fC (cPtr 1 cStO rfl)) (fCons (fC (cOwn kInts 3)) (fCons (fC cInt) (fNil))))
def Zbx : Bool × St × List Int × Int × Unit → LR (Bool × St × List Int × Int × Unit) (Nat × Bool × Unit) := fun (y0, y1, y2, y3, ()) => ⟨(0 ≤ y3) ∧ ((y2.length : Int) ≤ 9223372036854775807) ∧ (∀ k : Nat, (k : Int) < (y2.length : Int) → y2.getD k 0 = 7) ∧ True, ((y2.length : Int) - y3).toNat, fun X => And (Imp ((decide (y3 < (y2.length : Int))) = true) (And ((0 : Int) ≤ y3 ∧ y3 < (y2.length : Int)) (And ((y3).toNat < y2.length) (And (Imp (((y2.getD (y3).toNat 0) != 7) = true) (X (.inr (0, false, ())))) (Imp (((y2.getD (y3).toNat 0) != 7) = false) (Lt (wrap (y3 + 1)) fun x8 => X (.inl (y0, y1, y2, x8, ())))))))) (Imp ((decide (y3 < (y2.length : Int))) = false) (X (.inr (1, false, ())))), fun r => (¬ r.1 = 0) ∧ True, fun r => [(Nat.beq r.1 0, (.ret, [.c (.bool r.2.1)], []))], fun r => (.exit 0, [.c (.ptr 0 0), .c (.own 5 1 3)], [.raw 1 [.int y1.way, .int y1.ver, .int y1.want, .own 1 7 68, .own 2 1 4, .own 3 1 4, .own 4 1 3], .arr (.pkts y1.sent), .arr (.bools y1.live), .arr (.bools y1.back), .arr (.ints y1.got), .arr (.ints y2)])⟩
theorem Zbx.X : XL Zbx := mkL (0, false, ()) fun (y0, y1, y2, y3, ()) hp => by
  obtain ⟨p0, p1, p2, -⟩ := hp
  unfold ML; dsimp only [Zbx]
  refine May.iff (B.dec) (fun h1 => ?_) (fun h1 => ?_)
  refine May.chk ?_ fun c1 => May.chk ?_ fun c2 => May.iff (B.ne) (fun h2 => ?_) (fun h2 => ?_); rotate_left 2
  refine May.ex ⟨?_, trivial⟩; rotate_left 1
  refine May.lw ⟨?_, ?_⟩ fun x8 e8 => May.nx ⟨?_, ?_, ?_, trivial⟩ ?_ ?_ fun r => rfl; rotate_left 7
  refine May.ex ⟨?_, trivial⟩
  all_goals try dsimp only [Zbx]
  all_goals first | with_reducible assumption | omega | exact fun _ q => q | (exact absurd (p2 y3.toNat (by omega)) h2; done) | (exact p2; done)
abbrev Zbx.R := Classical.choose Zbx.X
def Zbx.k : LCtr := (ld 10 [2, 8, 10, 11] [] Zbx.L Zbx 0 (fun e => match e with | .ret => [2] | _ => [8, 10]) (fun _ => []) Zbx.R).ctr
theorem Zbx.g : LGood Try.prog Try.f10.ntmps Zbx.k (bodyAt Try.f10 0) := mkLG {} Zbx.X Zbw.G (by kernel_rfl) (l0 (by kernel_rfl)) (c0 (by kernel_rfl)) fun S s => by kernel_rfl
def Zbw.L : FL := fCons (fC (cArr true kU8s)) (fNil)
def Zbw : List Int × Unit → FR (Bool) := fun (a0, ()) => ⟨(∀ k, 0 ≤ a0.getD k 0 ∧ a0.getD k 0 ≤ 255) ∧ True, fun X => And (Imp ((decide ((a0.length : Int) > 1048576)) = true) (X true)) (Imp ((decide ((a0.length : Int) > 1048576)) = false) (Call Zbn.X (a0, ()) fun x1 => Call0 Zbs.X (x1.1, x1.2.1, x1.2.2, ()) fun x2 => Call0 Zbe.X (x1.1, x1.2.1, x1.2.2, ()) fun x3 => And (Imp (And ((!((x3.2 : Bool) == x2.2)) = false) (True)) ((Zbq (x3.1, x2.1, ())).P)) (Lt ((Zbq.S (x3.1, x2.1, ()))) fun x4 => Lt (bif bif !((x3.2 : Bool) == x2.2) then true else !x4 then true else !x3.2) fun x5 => And (Imp ((bif x5 then true else x3.1.way != 4) = true) (And (Imp (And (((x3.2 : Bool) == x2.2) = true) (True)) ((Zbq (x3.1, x2.1, ())).P)) (Lt ((Zbq.S (x3.1, x2.1, ()))) fun x6 => X (bif (x3.2 : Bool) == x2.2 then x6 else false)))) (Imp ((bif x5 then true else x3.1.way != 4) = false) (Call0 Za2.X (x3.1, x1.2.1, ()) fun x7 => CallL Zbx.X (false, x3.1, x7, 0, ()) fun x9 => And (Imp (Nat.beq x9.1 0 = true) (X x9.2.1)) (Imp (Nat.beq x9.1 0 = false) (Lt ((Zbg.S (x3.1, ()))) fun x10 => Lt (bif (x7.length : Int) == 0 then true else (x10.length : Int) == 0) fun x11 => Lt (bif decide ((x7.length : Int) ≤ 1) then x11 else false) fun x12 => X x12))))))), fun r => (r = true) ∧ True, fun r => (.v (.c (.bool r)), [])⟩
theorem Zbw.X : XF Zbw := mkF (false) fun (a0, ()) hp => by
  obtain ⟨p0, -⟩ := hp
  dsimp only [Zbw]
  refine May.iff (B.dec) (fun h1 => ?_) (fun h1 => ?_)
  refine May.ret ⟨?_, trivial⟩; rotate_left 1
  refine May.call ⟨?_, trivial⟩ fun x1 q1 => have q1_0 := q1.1; have q1_1 := q1.2.1; May.call0 trivial fun x2 q2 => have q2 := q2.1; May.call0 trivial fun x3 q3 => have q3 := q3.1; May.chk (fun hπ => have g1 := B.neg (B.not (B.beq)) hπ.1; ⟨?_, trivial⟩) fun c1 => May.clq ⟨?_, trivial⟩ fun x4 q4 => have q4 := q4.1; May.lp (B.or (B.or (B.not (B.beq)) (B.not (Iff.rfl))) (B.not (Iff.rfl))) fun x5 e5 => May.iff (B.or (e5) (B.ne)) (fun h2 => ?_) (fun h2 => ?_); rotate_left 3
  refine May.chk (fun hπ => have g1 := Iff.mp (B.beq) hπ.1; ⟨?_, trivial⟩) fun c2 => May.clq ⟨?_, trivial⟩ fun x6 q6 => have q6 := q6.1; May.ret ⟨?_, trivial⟩; rotate_left 3
  refine May.call0 trivial fun x7 q7 => have q7 := q7.1; May.loop ⟨?_, ?_, ?_, trivial⟩ fun x9 q9 => have q9 := q9.1; May.iff B.nbeq (fun h3 => ?_) (fun h3 => ?_); rotate_left 3
  refine May.ret ⟨?_, trivial⟩; rotate_left 1
  refine May.clq trivial fun x10 q10 => have q10_0 := q10.1; have q10_1 := q10.2.1; May.lp (B.or (B.eq) (B.eq)) fun x11 e11 => May.lp (B.and (B.dec) (e11)) fun x12 e12 => May.ret ⟨?_, trivial⟩
  all_goals try dsimp only
  all_goals first | with_reducible assumption | omega | (with_reducible rfl; done) | (exact sz_of q3; done) | (exact wd_eqB q2 q3 q6; done) | (rw [q7]; have := mays_len (s := x3.1) (o := x1.2.1) 7; omega; done) | (exact flush7 q7 (ck4 h2).2; done) | (exact absurd h3 q9; done) | (exact e12.2 (flush1 q7 (ck4 h2).2 (by rw [q3.2.1 (ck4 h2).1.2.2]; exact after_ok (q3.1.1 (ck4 h2).1.2.2)) q10_0); done)
abbrev Zbw.S := Classical.choose Zbw.X
def Zbw.c : Ctr := fc 10 [false] Zbw.L Zbw Zbw.S
theorem Zbw.good : Good Try.prog Zbw.c := mkFG (fn := Try.f10) {LL := [Zbx.k]} Zbw.X Zbw.G (by kernel_rfl) (by kernel_rfl) (lG (by kernel_rfl) (consL (by kernel_rfl) Zbx.g (noL rfl))) (c0 (by kernel_rfl)) fun s K => by kernel_rfl
end
end Hw
end Go.Proofs.Ytceihgojdnkfiaa
