/- Laws of steps: made by gen.py. -/
import Derived.Test.YtceihgojdnkfiaaH1
set_option linter.unusedVariables false
set_option linter.unusedSimpArgs false
set_option maxRecDepth 100000
set_option maxHeartbeats 400000
namespace Go.Proofs.Ytceihgojdnkfiaa
namespace Hw
open Go
noncomputable section
attribute [local irreducible] evFn evBody wrap wxor
theorem lt_head {s : St} {w v n : Int} (h : s.lt) : (⟨w, v, n, s.sent, s.live, s.back, s.got⟩ : St).lt := h
theorem ck3 {a b : Bool} {p q : Prop} (h : ¬((¬a = b ∨ ¬q) ∨ ¬p)) : a = b ∧ q ∧ p := ⟨Classical.byContradiction fun g => h (.inl (.inl g)), Classical.byContradiction fun g => h (.inl (.inr g)), Classical.byContradiction fun g => h (.inr g)⟩
theorem wd_eq {s o x w : St} {k : Int} {b c d : Bool} (q2 : DoQ s o k w b) (q3 : DoQ s o k x c) (q4 : d = true ↔ x = w) : c = b ∧ d = true := ⟨(do_same q3 q2).1, q4.2 (do_same q3 q2).2⟩
theorem wd_eqB {s o x w : St} {k : Int} {b c d : Bool} (q2 : DoQ s o k w b) (q3 : DoQ s o k x c) (q4 : d = true ↔ x = w) : (bif c == b then d else false) = true := by
  obtain ⟨rfl, h⟩ := wd_eq q2 q3 q4
  rw [h]
  simp
theorem wd_out {s o x w : St} {k : Int} {b c d e : Bool} (q2 : DoQ s o k w b) (q3 : DoQ s o k x c) (q6 : d = true ↔ x = w) (q7 : e = true ↔ MayW s o k) : (c = b ∧ d = true) ∧ c = e := ⟨wd_eq q2 q3 q6, Bool.eq_iff_iff.2 (q3.1.trans q7.symm)⟩
theorem wd_in {s o x : St} {k : Int} {c d e : Bool} (q3 : DoQ s o k x c) (h : c = true) (q9 : d = true ↔ (⟨s.way, s.ver, s.want, x.sent, x.live, x.back, x.got⟩ : St) = s) (q10 : e = true ↔ MayW s o k) : (d = true ∧ StOk x) ∧ e = true := by
  have hm := q3.1.1 h
  have hx := q3.2.1 h
  obtain ⟨a1, a2, a3, a4⟩ := after_sent s k
  exact ⟨⟨q9.2 (by rw [hx, a1, a2, a3, a4]), by rw [hx]; exact after_ok hm⟩, q10.2 hm⟩

def Zbt.L : FL := fCons (fC (cArr true kU8s)) (fNil)
def Zbt : List Int × Unit → FR (Bool) := fun (a0, ()) => ⟨(∀ k, 0 ≤ a0.getD k 0 ∧ a0.getD k 0 ≤ 255) ∧ True, fun X => And (Imp ((decide ((a0.length : Int) > 1048576)) = true) (X true)) (Imp ((decide ((a0.length : Int) > 1048576)) = false) (Call Zbn.X (a0, ()) fun x1 => Call0 Zbs.X (x1.1, x1.2.1, x1.2.2, ()) fun x2 => Call0 Zbe.X (x1.1, x1.2.1, x1.2.2, ()) fun x3 => And (Imp (And ((!((x3.2 : Bool) == x2.2)) = false) (True)) ((Zbq (x3.1, x2.1, ())).P)) (Lt ((Zbq.S (x3.1, x2.1, ()))) fun x4 => Lt (bif bif !((x3.2 : Bool) == x2.2) then true else !x4 then true else !x3.2) fun x5 => And (Imp (x5 = true) (And (Imp (And (((x3.2 : Bool) == x2.2) = true) (True)) ((Zbq (x3.1, x2.1, ())).P)) (Lt ((Zbq.S (x3.1, x2.1, ()))) fun x6 => Lt ((Za1.S (x1.1, x1.2.1, x1.2.2, ()))) fun x7 => Lt (bif bif (x3.2 : Bool) == x2.2 then x6 else false then (x3.2 : Bool) == x7 else false) fun x8 => X x8))) (Imp (x5 = false) (Call Zbq.X ((⟨x1.1.way, x1.1.ver, x1.1.want, x3.1.sent, x3.1.live, x3.1.back, x3.1.got⟩ : St), x1.1, ()) fun x9 => Lt ((Za1.S (x1.1, x1.2.1, x1.2.2, ()))) fun x10 => Lt (bif bif x9 then (ZO.S x3.1) else false then x10 else false) fun x11 => X x11))))), fun r => (r = true) ∧ True, fun r => (.v (.c (.bool r)), [])⟩
theorem Zbt.X : XF Zbt := mkF (false) fun (a0, ()) hp => by
  obtain ⟨p0, -⟩ := hp
  dsimp only [Zbt]
  refine May.iff (B.dec) (fun h1 => ?_) (fun h1 => ?_)
  refine May.ret ⟨?_, trivial⟩; rotate_left 1
  refine May.call ⟨?_, trivial⟩ fun x1 q1 => have q1_0 := q1.1; have q1_1 := q1.2.1; May.call0 trivial fun x2 q2 => have q2 := q2.1; May.call0 trivial fun x3 q3 => have q3 := q3.1; May.chk (fun hπ => have g1 := B.neg (B.not (B.beq)) hπ.1; ⟨?_, trivial⟩) fun c1 => May.clq ⟨?_, trivial⟩ fun x4 q4 => have q4 := q4.1; May.lp (B.or (B.or (B.not (B.beq)) (B.not (Iff.rfl))) (B.not (Iff.rfl))) fun x5 e5 => May.iff (e5) (fun h2 => ?_) (fun h2 => ?_); rotate_left 3
  refine May.chk (fun hπ => have g1 := Iff.mp (B.beq) hπ.1; ⟨?_, trivial⟩) fun c2 => May.clq ⟨?_, trivial⟩ fun x6 q6 => have q6 := q6.1; May.clq trivial fun x7 q7 => have q7 := q7.1; May.lp (B.and (B.and (B.beq) (Iff.rfl)) (B.beq)) fun x8 e8 => May.ret ⟨?_, trivial⟩; rotate_left 3
  refine May.call ⟨?_, trivial⟩ fun x9 q9 => have q9 := q9.1; May.clq trivial fun x10 q10 => have q10 := q10.1; May.lp (B.and (B.and (Iff.rfl) (implSt)) (Iff.rfl)) fun x11 e11 => May.ret ⟨?_, trivial⟩
  all_goals try dsimp only
  all_goals first | with_reducible assumption | omega | (with_reducible rfl; done) | (exact sz_of q3; done) | (exact lt_head (sz_of q3); done) | (exact e11.2 (wd_in q3 (ck3 h2).2.2 q9 q10); done) | (exact e8.2 (wd_out q2 q3 q6 q7); done)
abbrev Zbt.S := Classical.choose Zbt.X
def Zbt.c : Ctr := fc 8 [false] Zbt.L Zbt Zbt.S
theorem Zbt.good : Good Try.prog Zbt.c := mkFG (fn := Try.f8) {} Zbt.X (consG Zbn.good (consG Zbs.good (consG Zbe.good (consG Zbq.good (consG Za1.good (consG ZO.good noG)))))) (by kernel_rfl) (by kernel_rfl) (l0 (by kernel_rfl)) (c0 (by kernel_rfl)) fun s K => by kernel_rfl
end
end Hw
end Go.Proofs.Ytceihgojdnkfiaa
