/- A step is done: made by gen.py. -/
import Derived.Test.YtloicplgckomdaaW6
set_option linter.unusedVariables false
set_option linter.unusedSimpArgs false
set_option maxRecDepth 100000
set_option maxHeartbeats 400000
namespace Go.Proofs.Ytloicplgckomdaa
namespace Hw
open Go
noncomputable section
attribute [local irreducible] evFn evBody wrap wxor
def after (s : St) (k : Int) : St :=
  if k = 1 then ⟨1, s.ver, s.want, s.sent, s.live, s.back, s.got⟩ else if k = 2 then ⟨2, s.ver, s.want, s.sent, s.live, s.back, s.got⟩ else if k = 3 ∨ k = 4 then ⟨3, s.ver, s.want, s.sent, s.live, s.back, s.got⟩
  else if k = 5 ∨ k = 6 then ⟨4, s.ver, wrap (s.ver + 1), s.sent, s.live, s.back, s.got⟩ else ⟨3, s.want, 0, s.sent, s.live, s.back, s.got⟩
abbrev DoQ (s o : St) (k : Int) (r : St) (b : Bool) : Prop := (b = true ↔ MayW s o k) ∧ (b = true → r = after s k) ∧ (¬ b = true → r = zSt)
theorem act_at {k j : Int} {w : Ws} {b : Bool} {f : Option Nat} (q : FindQ k w b) (hb : b = true) (hk : k = j) (hf : actOf j = f) : w.act = f := by
  subst hk
  exact (q.1 hb).2.2.trans hf
theorem ok_of {b : Bool} {p q y : Prop} (h : ¬(((¬b = true ∨ ¬p) ∨ ¬q) ∨ ¬y)) : (b = true ∧ p ∧ q) ∧ y :=
  ⟨⟨Classical.byContradiction fun g => h (.inl (.inl (.inl g))), Classical.byContradiction fun g => h (.inl (.inl (.inr g))), Classical.byContradiction fun g => h (.inl (.inr g))⟩, Classical.byContradiction fun g => h (.inr g)⟩
theorem ok_of' {b : Bool} {p q : Prop} (h : ¬((¬b = true ∨ ¬p) ∨ ¬q)) : b = true ∧ p ∧ q :=
  ⟨Classical.byContradiction fun g => h (.inl (.inl g)), Classical.byContradiction fun g => h (.inl (.inr g)), Classical.byContradiction fun g => h (.inr g)⟩
theorem ok_sm {s : St} (h : StOk s) : s.sm := sin_sm (stOk_in h)
theorem do_t {s o r : St} {k j : Int} {b : Bool} {y : Prop} (h : ¬(((¬b = true ∨ ¬StOk s) ∨ ¬StOk o) ∨ ¬y)) (hk : k = j) (hy : StOk s → StOk o → (y ↔ MayK s o j)) (hr : r = after s j) : DoQ s o k r true := by
  subst hk
  obtain ⟨⟨_, h1, h2⟩, h3⟩ := ok_of h
  exact ⟨⟨fun _ => ⟨⟨h1, h2⟩, (hy h1 h2).1 h3⟩, fun _ => rfl⟩, fun _ => hr, fun h => absurd rfl h⟩
theorem do_f {s o : St} {k j : Int} {w : Ws} {b : Bool} {y : Prop} (q : FindQ k w b) (h : ((¬b = true ∨ ¬StOk s) ∨ ¬StOk o) ∨ ¬y) (hk : b = true → k = j) (hy : StOk s → StOk o → (y ↔ MayK s o j)) : DoQ s o k zSt false := by
  refine ⟨⟨fun h' => absurd h' (by simp), fun h' => ?_⟩, fun h' => absurd h' (by simp), fun _ => rfl⟩
  rcases h with ((h | h) | h) | h
  · exact absurd (mayK_rng h'.2) (q.2 h)
  · exact absurd h'.1.1 h
  · exact absurd h'.1.2 h
  · by_cases hb : b = true
    · obtain rfl := hk hb
      exact absurd ((hy h'.1.1 h'.1.2).2 h'.2) h
    · exact absurd (mayK_rng h'.2) (q.2 hb)

def Zbe.L : FL := fCons (fSh sSt) (fCons (fSh sSt) (fCons (fSh sInt) (fNil)))
def Zbe : St × St × Int × Unit → FR (St × Bool) := fun (a0, a1, a2, ()) => ⟨True, fun X => Call0 ZaZ.X (a2, ()) fun x1 => Or (Lt (bif bif !x1.2 then true else !(ZO.S a0) then true else !(ZO.S a1)) fun x2 => And (Imp (And (x2 = false) (True)) (x1.1.may = some 116)) (And (Imp ((bif x2 then true else !(a0.way == 0)) = true) (X ((⟨0, 0, 0, [], [], [], []⟩ : St), false))) (Imp ((bif x2 then true else !(a0.way == 0)) = false) (And ((ZaP (a0, ())).P) (Or (And (x1.1.act = some 117) (Lt ((Za8.S (a0, ()))) fun x3 => X (x3, true))) (Or (And (x1.1.act = some 119) (Lt ((Za9.S (a0, ()))) fun x4 => X (x4, true))) (Or (And (x1.1.act = some 121) (Lt ((Zba.S (a0, ()))) fun x5 => X (x5, true))) (Or (And (x1.1.act = some 123) (Lt ((Zbb.S (a0, ()))) fun x6 => X (x6, true))) (Or (And (x1.1.act = some 125) (Lt ((Zbc.S (a0, ()))) fun x7 => X (x7, true))) (And (x1.1.act = some 128) (Lt ((Zbd.S (a0, ()))) fun x8 => X (x8, true)))))))))))) (Or (Lt (bif bif !x1.2 then true else !(ZO.S a0) then true else !(ZO.S a1)) fun x9 => And (Imp (And (x9 = false) (True)) (x1.1.may = some 118)) (Lt ((ZaS.S (a0, a1, ()))) fun x10 => And (Imp ((bif x9 then true else !x10) = true) (X ((⟨0, 0, 0, [], [], [], []⟩ : St), false))) (Imp ((bif x9 then true else !x10) = false) (And ((ZaP (a0, ())).P) (Or (And (x1.1.act = some 117) (Lt ((Za8.S (a0, ()))) fun x11 => X (x11, true))) (Or (And (x1.1.act = some 119) (Lt ((Za9.S (a0, ()))) fun x12 => X (x12, true))) (Or (And (x1.1.act = some 121) (Lt ((Zba.S (a0, ()))) fun x13 => X (x13, true))) (Or (And (x1.1.act = some 123) (Lt ((Zbb.S (a0, ()))) fun x14 => X (x14, true))) (Or (And (x1.1.act = some 125) (Lt ((Zbc.S (a0, ()))) fun x15 => X (x15, true))) (And (x1.1.act = some 128) (Lt ((Zbd.S (a0, ()))) fun x16 => X (x16, true)))))))))))) (Or (Lt (bif bif !x1.2 then true else !(ZO.S a0) then true else !(ZO.S a1)) fun x17 => And (Imp (And (x17 = false) (True)) (x1.1.may = some 120)) (Lt ((ZaT.S (a0, a1, ()))) fun x18 => And (Imp ((bif x17 then true else !x18) = true) (X ((⟨0, 0, 0, [], [], [], []⟩ : St), false))) (Imp ((bif x17 then true else !x18) = false) (And ((ZaP (a0, ())).P) (Or (And (x1.1.act = some 117) (Lt ((Za8.S (a0, ()))) fun x19 => X (x19, true))) (Or (And (x1.1.act = some 119) (Lt ((Za9.S (a0, ()))) fun x20 => X (x20, true))) (Or (And (x1.1.act = some 121) (Lt ((Zba.S (a0, ()))) fun x21 => X (x21, true))) (Or (And (x1.1.act = some 123) (Lt ((Zbb.S (a0, ()))) fun x22 => X (x22, true))) (Or (And (x1.1.act = some 125) (Lt ((Zbc.S (a0, ()))) fun x23 => X (x23, true))) (And (x1.1.act = some 128) (Lt ((Zbd.S (a0, ()))) fun x24 => X (x24, true)))))))))))) (Or (Lt (bif bif !x1.2 then true else !(ZO.S a0) then true else !(ZO.S a1)) fun x25 => And (Imp (And (x25 = false) (True)) (x1.1.may = some 122)) (Lt ((ZaU.S (a0, a1, ()))) fun x26 => And (Imp ((bif x25 then true else !x26) = true) (X ((⟨0, 0, 0, [], [], [], []⟩ : St), false))) (Imp ((bif x25 then true else !x26) = false) (And ((ZaP (a0, ())).P) (Or (And (x1.1.act = some 117) (Lt ((Za8.S (a0, ()))) fun x27 => X (x27, true))) (Or (And (x1.1.act = some 119) (Lt ((Za9.S (a0, ()))) fun x28 => X (x28, true))) (Or (And (x1.1.act = some 121) (Lt ((Zba.S (a0, ()))) fun x29 => X (x29, true))) (Or (And (x1.1.act = some 123) (Lt ((Zbb.S (a0, ()))) fun x30 => X (x30, true))) (Or (And (x1.1.act = some 125) (Lt ((Zbc.S (a0, ()))) fun x31 => X (x31, true))) (And (x1.1.act = some 128) (Lt ((Zbd.S (a0, ()))) fun x32 => X (x32, true)))))))))))) (Or (Lt (bif bif !x1.2 then true else !(ZO.S a0) then true else !(ZO.S a1)) fun x33 => And (Imp (And (x33 = false) (True)) (x1.1.may = some 124)) (Lt ((ZaV.S (a0, a1, ()))) fun x34 => And (Imp ((bif x33 then true else !x34) = true) (X ((⟨0, 0, 0, [], [], [], []⟩ : St), false))) (Imp ((bif x33 then true else !x34) = false) (And ((ZaP (a0, ())).P) (Or (And (x1.1.act = some 117) (Lt ((Za8.S (a0, ()))) fun x35 => X (x35, true))) (Or (And (x1.1.act = some 119) (Lt ((Za9.S (a0, ()))) fun x36 => X (x36, true))) (Or (And (x1.1.act = some 121) (Lt ((Zba.S (a0, ()))) fun x37 => X (x37, true))) (Or (And (x1.1.act = some 123) (Lt ((Zbb.S (a0, ()))) fun x38 => X (x38, true))) (Or (And (x1.1.act = some 125) (Lt ((Zbc.S (a0, ()))) fun x39 => X (x39, true))) (And (x1.1.act = some 128) (Lt ((Zbd.S (a0, ()))) fun x40 => X (x40, true)))))))))))) (Or (Lt (bif bif !x1.2 then true else !(ZO.S a0) then true else !(ZO.S a1)) fun x41 => And (Imp (And (x41 = false) (True)) (x1.1.may = some 126)) (Lt ((ZaW.S (a0, a1, ()))) fun x42 => And (Imp ((bif x41 then true else !x42) = true) (X ((⟨0, 0, 0, [], [], [], []⟩ : St), false))) (Imp ((bif x41 then true else !x42) = false) (And ((ZaP (a0, ())).P) (Or (And (x1.1.act = some 117) (Lt ((Za8.S (a0, ()))) fun x43 => X (x43, true))) (Or (And (x1.1.act = some 119) (Lt ((Za9.S (a0, ()))) fun x44 => X (x44, true))) (Or (And (x1.1.act = some 121) (Lt ((Zba.S (a0, ()))) fun x45 => X (x45, true))) (Or (And (x1.1.act = some 123) (Lt ((Zbb.S (a0, ()))) fun x46 => X (x46, true))) (Or (And (x1.1.act = some 125) (Lt ((Zbc.S (a0, ()))) fun x47 => X (x47, true))) (And (x1.1.act = some 128) (Lt ((Zbd.S (a0, ()))) fun x48 => X (x48, true)))))))))))) (Lt (bif bif !x1.2 then true else !(ZO.S a0) then true else !(ZO.S a1)) fun x49 => And (Imp (And (x49 = false) (True)) (And ((ZaX (a0, a1, ())).P) (x1.1.may = some 127))) (Lt ((ZaX.S (a0, a1, ()))) fun x50 => And (Imp ((bif x49 then true else !x50) = true) (X ((⟨0, 0, 0, [], [], [], []⟩ : St), false))) (Imp ((bif x49 then true else !x50) = false) (And ((ZaP (a0, ())).P) (Or (And (x1.1.act = some 117) (Lt ((Za8.S (a0, ()))) fun x51 => X (x51, true))) (Or (And (x1.1.act = some 119) (Lt ((Za9.S (a0, ()))) fun x52 => X (x52, true))) (Or (And (x1.1.act = some 121) (Lt ((Zba.S (a0, ()))) fun x53 => X (x53, true))) (Or (And (x1.1.act = some 123) (Lt ((Zbb.S (a0, ()))) fun x54 => X (x54, true))) (Or (And (x1.1.act = some 125) (Lt ((Zbc.S (a0, ()))) fun x55 => X (x55, true))) (And (x1.1.act = some 128) (Lt ((Zbd.S (a0, ()))) fun x56 => X (x56, true))))))))))))))))), fun r => (DoQ a0 a1 a2 r.1 r.2) ∧ True, fun r => (.tup [.agg [.int r.1.way, .int r.1.ver, .int r.1.want, .own 0 7 49, .own 1 1 4, .own 2 1 4, .own 3 1 3], .c (.bool r.2)], [.arr (.pkts r.1.sent), .arr (.bools r.1.live), .arr (.bools r.1.back), .arr (.ints r.1.got)])⟩
theorem Zbe.X : XF Zbe := mkF (zSt, false) fun (a0, a1, a2, ()) hp => by
  clear hp
  dsimp only [Zbe]
  refine May.call0 trivial fun x1 q1 => have q1 := q1.1; May.alt (c := a2 == 1) (B.eq) (fun h1 => ?_) (fun h1 => May.alt (c := a2 == 2) (B.eq) (fun h2 => ?_) (fun h2 => May.alt (c := a2 == 3) (B.eq) (fun h3 => ?_) (fun h3 => May.alt (c := a2 == 4) (B.eq) (fun h4 => ?_) (fun h4 => May.alt (c := a2 == 5) (B.eq) (fun h5 => ?_) (fun h5 => May.alt (c := a2 == 6) (B.eq) (fun h6 => ?_) (fun h6 => ?_))))))
  refine May.lp (B.or (B.or (B.not (Iff.rfl)) (B.not (implSt))) (B.not (implSt))) fun x2 e2 => May.chk (fun hπ => have g1 := B.neg (e2) hπ.1; ?_) fun c1 => May.iff (B.or (e2) (B.not (B.eq))) (fun h2 => ?_) (fun h2 => ?_); rotate_left 1
  refine May.ret ⟨?_, trivial⟩; rotate_left 1
  refine May.chk ⟨?_, trivial⟩ fun c2 => May.alt (c := a2 == 1) (B.eq) (fun h3 => ?_) (fun h3 => May.alt (c := a2 == 2) (B.eq) (fun h4 => ?_) (fun h4 => May.alt (c := a2 == 3) (B.eq) (fun h5 => ?_) (fun h5 => May.alt (c := a2 == 4) (B.eq) (fun h6 => ?_) (fun h6 => May.alt (c := bif a2 == 5 then true else a2 == 6) (B.or (B.eq) (B.eq)) (fun h7 => ?_) (fun h7 => ?_))))); rotate_left 1
  refine May.chk ?_ fun c3 => May.clqe trivial fun x3 e3 q3 => have q3 := q3.1; May.ret ⟨?_, trivial⟩; rotate_left 2
  refine May.chk ?_ fun c4 => May.clqe trivial fun x4 e4 q4 => have q4 := q4.1; May.ret ⟨?_, trivial⟩; rotate_left 2
  refine May.chk ?_ fun c5 => May.clqe trivial fun x5 e5 q5 => have q5 := q5.1; May.ret ⟨?_, trivial⟩; rotate_left 2
  refine May.chk ?_ fun c6 => May.clqe trivial fun x6 e6 q6 => have q6 := q6.1; May.ret ⟨?_, trivial⟩; rotate_left 2
  refine May.chk ?_ fun c7 => May.clqe trivial fun x7 e7 q7 => have q7 := q7.1; May.ret ⟨?_, trivial⟩; rotate_left 2
  refine May.chk ?_ fun c8 => May.clqe trivial fun x8 e8 q8 => have q8 := q8.1; May.ret ⟨?_, trivial⟩; rotate_left 2
  refine May.lp (B.or (B.or (B.not (Iff.rfl)) (B.not (implSt))) (B.not (implSt))) fun x9 e9 => May.chk (fun hπ => have g1 := B.neg (e9) hπ.1; ?_) fun c9 => May.clqe trivial fun x10 e10 q10 => have q10 := q10.1; May.iff (B.or (e9) (B.not (Iff.rfl))) (fun h3 => ?_) (fun h3 => ?_); rotate_left 1
  refine May.ret ⟨?_, trivial⟩; rotate_left 1
  refine May.chk ⟨?_, trivial⟩ fun c10 => May.alt (c := a2 == 1) (B.eq) (fun h4 => ?_) (fun h4 => May.alt (c := a2 == 2) (B.eq) (fun h5 => ?_) (fun h5 => May.alt (c := a2 == 3) (B.eq) (fun h6 => ?_) (fun h6 => May.alt (c := a2 == 4) (B.eq) (fun h7 => ?_) (fun h7 => May.alt (c := bif a2 == 5 then true else a2 == 6) (B.or (B.eq) (B.eq)) (fun h8 => ?_) (fun h8 => ?_))))); rotate_left 1
  refine May.chk ?_ fun c11 => May.clqe trivial fun x11 e11 q11 => have q11 := q11.1; May.ret ⟨?_, trivial⟩; rotate_left 2
  refine May.chk ?_ fun c12 => May.clqe trivial fun x12 e12 q12 => have q12 := q12.1; May.ret ⟨?_, trivial⟩; rotate_left 2
  refine May.chk ?_ fun c13 => May.clqe trivial fun x13 e13 q13 => have q13 := q13.1; May.ret ⟨?_, trivial⟩; rotate_left 2
  refine May.chk ?_ fun c14 => May.clqe trivial fun x14 e14 q14 => have q14 := q14.1; May.ret ⟨?_, trivial⟩; rotate_left 2
  refine May.chk ?_ fun c15 => May.clqe trivial fun x15 e15 q15 => have q15 := q15.1; May.ret ⟨?_, trivial⟩; rotate_left 2
  refine May.chk ?_ fun c16 => May.clqe trivial fun x16 e16 q16 => have q16 := q16.1; May.ret ⟨?_, trivial⟩; rotate_left 2
  refine May.lp (B.or (B.or (B.not (Iff.rfl)) (B.not (implSt))) (B.not (implSt))) fun x17 e17 => May.chk (fun hπ => have g1 := B.neg (e17) hπ.1; ?_) fun c17 => May.clqe trivial fun x18 e18 q18 => have q18 := q18.1; May.iff (B.or (e17) (B.not (Iff.rfl))) (fun h4 => ?_) (fun h4 => ?_); rotate_left 1
  refine May.ret ⟨?_, trivial⟩; rotate_left 1
  refine May.chk ⟨?_, trivial⟩ fun c18 => May.alt (c := a2 == 1) (B.eq) (fun h5 => ?_) (fun h5 => May.alt (c := a2 == 2) (B.eq) (fun h6 => ?_) (fun h6 => May.alt (c := a2 == 3) (B.eq) (fun h7 => ?_) (fun h7 => May.alt (c := a2 == 4) (B.eq) (fun h8 => ?_) (fun h8 => May.alt (c := bif a2 == 5 then true else a2 == 6) (B.or (B.eq) (B.eq)) (fun h9 => ?_) (fun h9 => ?_))))); rotate_left 1
  refine May.chk ?_ fun c19 => May.clqe trivial fun x19 e19 q19 => have q19 := q19.1; May.ret ⟨?_, trivial⟩; rotate_left 2
  refine May.chk ?_ fun c20 => May.clqe trivial fun x20 e20 q20 => have q20 := q20.1; May.ret ⟨?_, trivial⟩; rotate_left 2
  refine May.chk ?_ fun c21 => May.clqe trivial fun x21 e21 q21 => have q21 := q21.1; May.ret ⟨?_, trivial⟩; rotate_left 2
  refine May.chk ?_ fun c22 => May.clqe trivial fun x22 e22 q22 => have q22 := q22.1; May.ret ⟨?_, trivial⟩; rotate_left 2
  refine May.chk ?_ fun c23 => May.clqe trivial fun x23 e23 q23 => have q23 := q23.1; May.ret ⟨?_, trivial⟩; rotate_left 2
  refine May.chk ?_ fun c24 => May.clqe trivial fun x24 e24 q24 => have q24 := q24.1; May.ret ⟨?_, trivial⟩; rotate_left 2
  refine May.lp (B.or (B.or (B.not (Iff.rfl)) (B.not (implSt))) (B.not (implSt))) fun x25 e25 => May.chk (fun hπ => have g1 := B.neg (e25) hπ.1; ?_) fun c25 => May.clqe trivial fun x26 e26 q26 => have q26 := q26.1; May.iff (B.or (e25) (B.not (Iff.rfl))) (fun h5 => ?_) (fun h5 => ?_); rotate_left 1
  refine May.ret ⟨?_, trivial⟩; rotate_left 1
  refine May.chk ⟨?_, trivial⟩ fun c26 => May.alt (c := a2 == 1) (B.eq) (fun h6 => ?_) (fun h6 => May.alt (c := a2 == 2) (B.eq) (fun h7 => ?_) (fun h7 => May.alt (c := a2 == 3) (B.eq) (fun h8 => ?_) (fun h8 => May.alt (c := a2 == 4) (B.eq) (fun h9 => ?_) (fun h9 => May.alt (c := bif a2 == 5 then true else a2 == 6) (B.or (B.eq) (B.eq)) (fun h10 => ?_) (fun h10 => ?_))))); rotate_left 1
  refine May.chk ?_ fun c27 => May.clqe trivial fun x27 e27 q27 => have q27 := q27.1; May.ret ⟨?_, trivial⟩; rotate_left 2
  refine May.chk ?_ fun c28 => May.clqe trivial fun x28 e28 q28 => have q28 := q28.1; May.ret ⟨?_, trivial⟩; rotate_left 2
  refine May.chk ?_ fun c29 => May.clqe trivial fun x29 e29 q29 => have q29 := q29.1; May.ret ⟨?_, trivial⟩; rotate_left 2
  refine May.chk ?_ fun c30 => May.clqe trivial fun x30 e30 q30 => have q30 := q30.1; May.ret ⟨?_, trivial⟩; rotate_left 2
  refine May.chk ?_ fun c31 => May.clqe trivial fun x31 e31 q31 => have q31 := q31.1; May.ret ⟨?_, trivial⟩; rotate_left 2
  refine May.chk ?_ fun c32 => May.clqe trivial fun x32 e32 q32 => have q32 := q32.1; May.ret ⟨?_, trivial⟩; rotate_left 2
  refine May.lp (B.or (B.or (B.not (Iff.rfl)) (B.not (implSt))) (B.not (implSt))) fun x33 e33 => May.chk (fun hπ => have g1 := B.neg (e33) hπ.1; ?_) fun c33 => May.clqe trivial fun x34 e34 q34 => have q34 := q34.1; May.iff (B.or (e33) (B.not (Iff.rfl))) (fun h6 => ?_) (fun h6 => ?_); rotate_left 1
  refine May.ret ⟨?_, trivial⟩; rotate_left 1
  refine May.chk ⟨?_, trivial⟩ fun c34 => May.alt (c := a2 == 1) (B.eq) (fun h7 => ?_) (fun h7 => May.alt (c := a2 == 2) (B.eq) (fun h8 => ?_) (fun h8 => May.alt (c := a2 == 3) (B.eq) (fun h9 => ?_) (fun h9 => May.alt (c := a2 == 4) (B.eq) (fun h10 => ?_) (fun h10 => May.alt (c := bif a2 == 5 then true else a2 == 6) (B.or (B.eq) (B.eq)) (fun h11 => ?_) (fun h11 => ?_))))); rotate_left 1
  refine May.chk ?_ fun c35 => May.clqe trivial fun x35 e35 q35 => have q35 := q35.1; May.ret ⟨?_, trivial⟩; rotate_left 2
  refine May.chk ?_ fun c36 => May.clqe trivial fun x36 e36 q36 => have q36 := q36.1; May.ret ⟨?_, trivial⟩; rotate_left 2
  refine May.chk ?_ fun c37 => May.clqe trivial fun x37 e37 q37 => have q37 := q37.1; May.ret ⟨?_, trivial⟩; rotate_left 2
  refine May.chk ?_ fun c38 => May.clqe trivial fun x38 e38 q38 => have q38 := q38.1; May.ret ⟨?_, trivial⟩; rotate_left 2
  refine May.chk ?_ fun c39 => May.clqe trivial fun x39 e39 q39 => have q39 := q39.1; May.ret ⟨?_, trivial⟩; rotate_left 2
  refine May.chk ?_ fun c40 => May.clqe trivial fun x40 e40 q40 => have q40 := q40.1; May.ret ⟨?_, trivial⟩; rotate_left 2
  refine May.lp (B.or (B.or (B.not (Iff.rfl)) (B.not (implSt))) (B.not (implSt))) fun x41 e41 => May.chk (fun hπ => have g1 := B.neg (e41) hπ.1; ?_) fun c41 => May.clqe trivial fun x42 e42 q42 => have q42 := q42.1; May.iff (B.or (e41) (B.not (Iff.rfl))) (fun h7 => ?_) (fun h7 => ?_); rotate_left 1
  refine May.ret ⟨?_, trivial⟩; rotate_left 1
  refine May.chk ⟨?_, trivial⟩ fun c42 => May.alt (c := a2 == 1) (B.eq) (fun h8 => ?_) (fun h8 => May.alt (c := a2 == 2) (B.eq) (fun h9 => ?_) (fun h9 => May.alt (c := a2 == 3) (B.eq) (fun h10 => ?_) (fun h10 => May.alt (c := a2 == 4) (B.eq) (fun h11 => ?_) (fun h11 => May.alt (c := bif a2 == 5 then true else a2 == 6) (B.or (B.eq) (B.eq)) (fun h12 => ?_) (fun h12 => ?_))))); rotate_left 1
  refine May.chk ?_ fun c43 => May.clqe trivial fun x43 e43 q43 => have q43 := q43.1; May.ret ⟨?_, trivial⟩; rotate_left 2
  refine May.chk ?_ fun c44 => May.clqe trivial fun x44 e44 q44 => have q44 := q44.1; May.ret ⟨?_, trivial⟩; rotate_left 2
  refine May.chk ?_ fun c45 => May.clqe trivial fun x45 e45 q45 => have q45 := q45.1; May.ret ⟨?_, trivial⟩; rotate_left 2
  refine May.chk ?_ fun c46 => May.clqe trivial fun x46 e46 q46 => have q46 := q46.1; May.ret ⟨?_, trivial⟩; rotate_left 2
  refine May.chk ?_ fun c47 => May.clqe trivial fun x47 e47 q47 => have q47 := q47.1; May.ret ⟨?_, trivial⟩; rotate_left 2
  refine May.chk ?_ fun c48 => May.clqe trivial fun x48 e48 q48 => have q48 := q48.1; May.ret ⟨?_, trivial⟩; rotate_left 2
  refine May.lp (B.or (B.or (B.not (Iff.rfl)) (B.not (implSt))) (B.not (implSt))) fun x49 e49 => May.chk (fun hπ => have g1 := B.neg (e49) hπ.1; ?_) fun c49 => May.cq fun x50 q50 => have q50 := gq2 q50; have q50 := fun h => (q50 h).1; May.iff (B.or (e49) (B.not (Iff.rfl))) (fun h7 => ?_) (fun h7 => ?_); rotate_left 1
  refine May.ret ⟨?_, trivial⟩; rotate_left 1
  refine May.chk ⟨?_, trivial⟩ fun c50 => May.alt (c := a2 == 1) (B.eq) (fun h8 => ?_) (fun h8 => May.alt (c := a2 == 2) (B.eq) (fun h9 => ?_) (fun h9 => May.alt (c := a2 == 3) (B.eq) (fun h10 => ?_) (fun h10 => May.alt (c := a2 == 4) (B.eq) (fun h11 => ?_) (fun h11 => May.alt (c := bif a2 == 5 then true else a2 == 6) (B.or (B.eq) (B.eq)) (fun h12 => ?_) (fun h12 => ?_))))); rotate_left 1
  refine May.chk ?_ fun c51 => May.clqe trivial fun x51 e51 q51 => have q51 := q51.1; May.ret ⟨?_, trivial⟩; rotate_left 2
  refine May.chk ?_ fun c52 => May.clqe trivial fun x52 e52 q52 => have q52 := q52.1; May.ret ⟨?_, trivial⟩; rotate_left 2
  refine May.chk ?_ fun c53 => May.clqe trivial fun x53 e53 q53 => have q53 := q53.1; May.ret ⟨?_, trivial⟩; rotate_left 2
  refine May.chk ?_ fun c54 => May.clqe trivial fun x54 e54 q54 => have q54 := q54.1; May.ret ⟨?_, trivial⟩; rotate_left 2
  refine May.chk ?_ fun c55 => May.clqe trivial fun x55 e55 q55 => have q55 := q55.1; May.ret ⟨?_, trivial⟩; rotate_left 2
  refine May.chk ?_ fun c56 => May.clqe trivial fun x56 e56 q56 => have q56 := q56.1; May.ret ⟨?_, trivial⟩
  all_goals try dsimp only
  all_goals first | with_reducible assumption | omega | (exact may_at q1 (ok_of' g1).1 h1 rfl; done) | (exact act_at q1 (ok_of h2).1.1 h1 rfl; done) | (exact do_t h2 h1 (fun _ _ => mayK1.symm) q3; done) | (exact do_f q1 h2 (fun _ => h1) (fun _ _ => mayK1.symm); done) | (exact ok_sm (ok_of h2).1.2.1; done) | (exact may_at q1 (ok_of' g1).1 h2 rfl; done) | (exact act_at q1 (ok_of h3).1.1 h2 rfl; done) | (exact do_t h3 h2 (fun h _ => q10.trans (mayK2 h).symm) q12; done) | (exact do_f q1 h3 (fun _ => h2) (fun h _ => q10.trans (mayK2 h).symm); done) | (exact ok_sm (ok_of h3).1.2.1; done) | (exact may_at q1 (ok_of' g1).1 h3 rfl; done) | (exact act_at q1 (ok_of h4).1.1 h3 rfl; done) | (exact do_t h4 h3 (fun _ _ => q18.trans mayK3.symm) q21; done) | (exact do_f q1 h4 (fun _ => h3) (fun _ _ => q18.trans mayK3.symm); done) | (exact ok_sm (ok_of h4).1.2.1; done) | (exact may_at q1 (ok_of' g1).1 h4 rfl; done) | (exact act_at q1 (ok_of h5).1.1 h4 rfl; done) | (exact do_t h5 h4 (fun _ _ => q26.trans mayK4.symm) q30; done) | (exact do_f q1 h5 (fun _ => h4) (fun _ _ => q26.trans mayK4.symm); done) | (exact ok_sm (ok_of h5).1.2.1; done) | (exact may_at q1 (ok_of' g1).1 h5 rfl; done) | (exact act_at q1 (ok_of h6).1.1 h5 rfl; done) | (exact do_t h6 h5 (fun _ _ => q34.trans mayK5.symm) q39; done) | (exact do_f q1 h6 (fun _ => h5) (fun _ _ => q34.trans mayK5.symm); done) | (exact ok_sm (ok_of h6).1.2.1; done) | (exact may_at q1 (ok_of' g1).1 h6 rfl; done) | (exact act_at q1 (ok_of h7).1.1 h6 rfl; done) | (exact do_t h7 h6 (fun _ _ => q42.trans mayK6.symm) q47; done) | (exact do_f q1 h7 (fun _ => h6) (fun _ _ => q42.trans mayK6.symm); done) | (exact ok_sm (ok_of h7).1.2.1; done) | (exact ⟨⟨live8 (ok_of' g1).2.1, live8 (ok_of' g1).2.2, trivial⟩, may_at q1 (ok_of' g1).1 (by have := (q1.1 (ok_of' g1).1).1; omega) (j := 7) rfl⟩; done) | (exact act_at q1 (ok_of h7).1.1 (by have := (q1.1 (ok_of h7).1.1).1; omega) (j := 7) rfl; done) | (exact do_t h7 (by have := (q1.1 (ok_of h7).1.1).1; omega) (j := 7) (fun h h' => (q50 ⟨live8 h, live8 h'⟩).trans mayK7.symm) q56; done) | (exact do_f q1 h7 (fun h => by have := (q1.1 h).1; omega) (j := 7) (fun h h' => (q50 ⟨live8 h, live8 h'⟩).trans mayK7.symm); done) | (exact ok_sm (ok_of h7).1.2.1; done)
abbrev Zbe.S := Classical.choose Zbe.X
def Zbe.c : Ctr := fc0 19 [true, true, false] Zbe.L Zbe Zbe.S
theorem Zbe.good : Good Try.prog Zbe.c := mkFG0 (fn := Try.f19) {sp := [(2, [[(33, 0)], [(33, 1)], [(33, 2)], [(33, 3)], [(33, 4)], [(33, 5)], [(33, 6)]]), (5, [[(41, 7)], [(41, 8)], [(41, 9)], [(41, 10)], [(41, 11)], [(41, 12)]])], sh := [[none, none, none, some (.pkt, 49), some (.bool, 4), some (.bool, 4), some (.int, 3)], []]} Zbe.X (consG ZaR.good (consG ZaS.good (consG ZaT.good (consG ZaU.good (consG ZaV.good (consG ZaW.good (consG ZaX.good (consG Za8.good (consG Za9.good (consG Zba.good (consG Zbb.good (consG Zbc.good (consG Zbd.good (consG ZaZ.good (consG ZO.good (consG ZaP.good noG)))))))))))))))) (by kernel_rfl) (by kernel_rfl) (l0 (by kernel_rfl)) (c0 (by kernel_rfl)) (fun _ => trivial) fun s K => by kernel_rfl
end
end Hw
end Go.Proofs.Ytloicplgckomdaa
