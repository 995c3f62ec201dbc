/- Laws of steps, 2: made by gen.py. -/
import Derived.Test.YtceihgojdnkfiaaH1
set_option linter.unusedVariables false
set_option linter.unusedSimpArgs false
set_option maxRecDepth 100000
set_option maxHeartbeats 400000
namespace Go.Proofs.Ytceihgojdnkfiaa
namespace Hw
open Go
noncomputable section
attribute [local irreducible] evFn evBody wrap wxor
theorem ck3 {a b : Bool} {p q : Prop} (h : ¬((¬a = b ∨ ¬q) ∨ ¬p)) : a = b ∧ q ∧ p := ⟨Classical.byContradiction fun g => h (.inl (.inl g)), Classical.byContradiction fun g => h (.inl (.inr g)), Classical.byContradiction fun g => h (.inr g)⟩
theorem wd_eqB {s o x w : St} {k : Int} {b c d : Bool} (q2 : DoQ s o k w b) (q3 : DoQ s o k x c) (q4 : d = true ↔ x = w) : (bif c == b then d else false) = true := by
  obtain ⟨rfl, h⟩ := do_same q3 q2
  rw [q4.2 h]
  simp
theorem v7 {s o x : St} {k y : Int} {c : Bool} (q : DoQ s o k x c) (h : c = true) (hk : k = 7) (e : y = s.ver + 1) : ((x.ver = y ∧ x.ver = s.want) ∧ x.want = 0) ∧ x.way = 3 := by
  subst hk
  have m := q.1.1 h
  rw [q.2.1 h]
  exact ⟨⟨⟨((stWant m.1.1).1 (mayK7.1 m.2).1).trans e.symm, rfl⟩, rfl⟩, rfl⟩
theorem v5 {s o x : St} {k y : Int} {c z : Bool} (q : DoQ s o k x c) (h : c = true) (hk : k = 5 ∨ k = 6) (e : -9223372036854775808 ≤ s.ver + 1 ∧ s.ver + 1 ≤ 9223372036854775807 → y = s.ver + 1) (e11 : z = true ↔ x.ver = s.ver ∧ x.want = y) : (bif z then x.way == 4 else false) = true := by
  have m := q.1.1 h
  have hv := m.1.1.2.1
  have w := ver_wrap m.1.1
  have hx := q.2.1 h
  have : after s k = ⟨4, s.ver, wrap (s.ver + 1), s.sent, s.live, s.back, s.got⟩ := by rcases hk with rfl | rfl <;> rfl
  rw [this] at hx
  rw [e11.2 (by rw [hx]; exact ⟨rfl, by rw [e (by omega)]; exact w⟩), hx]
  rfl
theorem v1 {s o x : St} {k : Int} {c z : Bool} (q : DoQ s o k x c) (h : c = true) (h7 : ¬ k = 7) (h5 : ¬(k = 5 ∨ k = 6)) (e12 : z = true ↔ x.ver = s.ver ∧ x.way > s.way) : (bif z then decide (x.way ≤ 3) else false) = true := by
  have m := q.1.1 h
  have hk := mayK_rng m.2
  have hx := q.2.1 h
  have : k = 1 ∨ k = 2 ∨ k = 3 ∨ k = 4 := by omega
  rcases this with rfl | rfl | rfl | rfl
  · have := mayK1.1 m.2
    rw [e12.2 (by rw [hx]; exact ⟨rfl, by show 1 > s.way; omega⟩), hx]
    rfl
  · have := (mayK2 m.1.1).1 m.2
    rw [e12.2 (by rw [hx]; exact ⟨rfl, by show 2 > s.way; omega⟩), hx]
    rfl
  · have := mayK3.1 m.2
    rw [e12.2 (by rw [hx]; exact ⟨rfl, by show 3 > s.way; omega⟩), hx]
    rfl
  · have := mayK4.1 m.2
    rw [e12.2 (by rw [hx]; exact ⟨rfl, by show 3 > s.way; omega⟩), hx]
    rfl

def Zbu.L : FL := fCons (fC (cArr true kU8s)) (fNil)
def Zbu : List Int × Unit → FR (Bool) := fun (a0, ()) => ⟨(∀ k, 0 ≤ a0.getD k 0 ∧ a0.getD k 0 ≤ 255) ∧ True, fun X => And (Imp ((decide ((a0.length : Int) > 1048576)) = true) (X true)) (Imp ((decide ((a0.length : Int) > 1048576)) = false) (Call Zbn.X (a0, ()) fun x1 => Call0 Zbs.X (x1.1, x1.2.1, x1.2.2, ()) fun x2 => Call0 Zbe.X (x1.1, x1.2.1, x1.2.2, ()) fun x3 => And (Imp (And ((!((x3.2 : Bool) == x2.2)) = false) (True)) ((Zbq (x3.1, x2.1, ())).P)) (Lt ((Zbq.S (x3.1, x2.1, ()))) fun x4 => Lt (bif bif !((x3.2 : Bool) == x2.2) then true else !x4 then true else !x3.2) fun x5 => And (Imp (x5 = true) (And (Imp (And (((x3.2 : Bool) == x2.2) = true) (True)) ((Zbq (x3.1, x2.1, ())).P)) (Lt ((Zbq.S (x3.1, x2.1, ()))) fun x6 => X (bif (x3.2 : Bool) == x2.2 then x6 else false)))) (Imp (x5 = false) (And (Imp ((x1.2.2 == 7) = true) (Lt (wrap (x1.1.ver + 1)) fun x7 => Lt (bif x3.1.ver == x7 then x3.1.ver == x1.1.want else false) fun x8 => Lt (bif bif x8 then x3.1.want == 0 else false then x3.1.way == 3 else false) fun x9 => X x9)) (Imp ((x1.2.2 == 7) = false) (And (Imp ((bif x1.2.2 == 5 then true else x1.2.2 == 6) = true) (Lt (wrap (x1.1.ver + 1)) fun x10 => Lt (bif x3.1.ver == x1.1.ver then x3.1.want == x10 else false) fun x11 => X (bif x11 then x3.1.way == 4 else false))) (Imp ((bif x1.2.2 == 5 then true else x1.2.2 == 6) = false) (Lt (bif x3.1.ver == x1.1.ver then decide (x3.1.way > x1.1.way) else false) fun x12 => X (bif x12 then decide (x3.1.way ≤ 3) else false)))))))))), fun r => (r = true) ∧ True, fun r => (.v (.c (.bool r)), [])⟩
theorem Zbu.X : XF Zbu := mkF (false) fun (a0, ()) hp => by
  obtain ⟨p0, -⟩ := hp
  dsimp only [Zbu]
  refine May.iff (B.dec) (fun h1 => ?_) (fun h1 => ?_)
  refine May.ret ⟨?_, trivial⟩; rotate_left 1
  refine May.call ⟨?_, trivial⟩ fun x1 q1 => have q1_0 := q1.1; have q1_1 := q1.2.1; May.call0 trivial fun x2 q2 => have q2 := q2.1; May.call0 trivial fun x3 q3 => have q3 := q3.1; May.chk (fun hπ => have g1 := B.neg (B.not (B.beq)) hπ.1; ⟨?_, trivial⟩) fun c1 => May.clq ⟨?_, trivial⟩ fun x4 q4 => have q4 := q4.1; May.lp (B.or (B.or (B.not (B.beq)) (B.not (Iff.rfl))) (B.not (Iff.rfl))) fun x5 e5 => May.iff (e5) (fun h2 => ?_) (fun h2 => ?_); rotate_left 3
  refine May.chk (fun hπ => have g1 := Iff.mp (B.beq) hπ.1; ⟨?_, trivial⟩) fun c2 => May.clq ⟨?_, trivial⟩ fun x6 q6 => have q6 := q6.1; May.ret ⟨?_, trivial⟩; rotate_left 3
  refine May.iff (B.eq) (fun h3 => ?_) (fun h3 => ?_)
  refine May.lw ⟨?_, ?_⟩ fun x7 e7 => May.lp (B.and (B.eq) (B.eq)) fun x8 e8 => May.lp (B.and (B.and (e8) (B.eq)) (B.eq)) fun x9 e9 => May.ret ⟨?_, trivial⟩; rotate_left 3
  refine May.iff (B.or (B.eq) (B.eq)) (fun h4 => ?_) (fun h4 => ?_)
  refine May.lwi fun x10 e10 => May.lp (B.and (B.eq) (B.eq)) fun x11 e11 => May.ret ⟨?_, trivial⟩; rotate_left 1
  refine May.lp (B.and (B.eq) (B.dec)) fun x12 e12 => May.ret ⟨?_, trivial⟩
  all_goals try dsimp only
  all_goals first | with_reducible assumption | omega | (with_reducible rfl; done) | (exact sz_of q3; done) | (exact wd_eqB q2 q3 q6; done) | (have := (q3.1.1 (ck3 h2).2.2).1.1.2.1; omega; done) | (exact e9.2 (v7 q3 (ck3 h2).2.2 h3 e7); done) | (exact v5 q3 (ck3 h2).2.2 h4 e10 e11; done) | (exact v1 q3 (ck3 h2).2.2 h3 h4 e12; done)
abbrev Zbu.S := Classical.choose Zbu.X
def Zbu.c : Ctr := fc 7 [false] Zbu.L Zbu Zbu.S
theorem Zbu.good : Good Try.prog Zbu.c := mkFG (fn := Try.f7) {} Zbu.X (consG Zbn.good (consG Zbs.good (consG Zbe.good (consG Zbq.good noG)))) (by kernel_rfl) (by kernel_rfl) (l0 (by kernel_rfl)) (c0 (by kernel_rfl)) fun s K => by kernel_rfl
end
end Hw
end Go.Proofs.Ytceihgojdnkfiaa
