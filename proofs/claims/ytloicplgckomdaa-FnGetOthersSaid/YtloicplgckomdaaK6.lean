/- Chains that are the same: made by gen.py. -/
import Derived.Test.YtloicplgckomdaaH0
import Derived.Test.YtloicplgckomdaaK1
set_option linter.unusedVariables false
set_option linter.unusedSimpArgs false
set_option maxRecDepth 100000
set_option maxHeartbeats 400000
namespace Go.Proofs.Ytloicplgckomdaa
namespace Hw
open Go
noncomputable section
attribute [local irreducible] evFn evBody wrap wxor
theorem lwBk_t {a b : Bk} {x y z : Bool} (q1 : x = true ↔ a.own = b.own) (q2 : y = true ↔ a.notes = b.notes) (q3 : z = true ↔ (x = true ∧ y = true) ∧ a.locked = b.locked) : z = true ↔ a = b := by
  rw [q3, q1, q2]
  refine ⟨fun h => ?_, fun h => by subst h; exact ⟨⟨rfl, rfl⟩, rfl⟩⟩
  cases a
  cases b
  simp_all
theorem ch_ext {a b : Ch} (h1 : a.id = b.id) (h2 : a.bank = b.bank) (h3 : a.st = b.st) (h4 : a.past = b.past) (h5 : a.knows = b.knows) : a = b := by
  cases a
  cases b
  simp_all

theorem lwCh_f {a b : Ch} {x y z : Bool} (q1 : x = true ↔ a.bank = b.bank) (q2 : y = true ↔ a.st = b.st) (q3 : z = true ↔ a.knows = b.knows) (h : (((¬a.id = b.id ∨ ¬x = true) ∨ ¬y = true) ∨ ¬(a.past.length : Int) = (b.past.length : Int)) ∨ ¬z = true) : ¬ a = b := by
  intro e
  subst e
  rcases h with (((h | h) | h) | h) | h
  · exact h rfl
  · exact h (q1.2 rfl)
  · exact h (q2.2 rfl)
  · exact h rfl
  · exact h (q3.2 rfl)
theorem lwCh_t {a b : Ch} {x y z : Bool} (q1 : x = true ↔ a.bank = b.bank) (q2 : y = true ↔ a.st = b.st) (q3 : z = true ↔ a.knows = b.knows) (h : ¬ ((((¬a.id = b.id ∨ ¬x = true) ∨ ¬y = true) ∨ ¬(a.past.length : Int) = (b.past.length : Int)) ∨ ¬z = true)) (hp : a.past = b.past) : a = b :=
  ch_ext (Classical.byContradiction fun g => h (.inl (.inl (.inl (.inl g))))) (q1.1 (Classical.byContradiction fun g => h (.inl (.inl (.inl (.inr g)))))) (q2.1 (Classical.byContradiction fun g => h (.inl (.inl (.inr g))))) hp (q3.1 (Classical.byContradiction fun g => h (.inr g)))

def ZbS.L : FL := fCons (fSh sBk) (fCons (fSh sBk) (fNil))
def ZbS : Bk × Bk × Unit → FR (Bool) := fun (a0, a1, ()) => ⟨(a0.own.length ≤ 1000000) ∧ (a0.notes.length ≤ 1000000) ∧ True, fun X => Call Za.X (a0.own, a1.own, ()) fun x1 => And (Imp (And (x1 = true) (True)) ((Za (a0.notes, a1.notes, ())).P)) (Lt ((Za.S (a0.notes, a1.notes, ()))) fun x2 => Lt (bif bif x1 then x2 else false then a0.locked == a1.locked else false) fun x3 => X x3), fun r => (r = true ↔ a0 = a1) ∧ True, fun r => (.v (.c (.bool r)), [])⟩
theorem ZbS.X : XF ZbS := mkF (false) fun (a0, a1, ()) hp => by
  obtain ⟨p0, p1, -⟩ := hp
  dsimp only [ZbS]
  refine May.call ⟨?_, trivial⟩ fun x1 q1 => have q1 := q1.1; May.chk (fun hπ => have g1 := Iff.mp (Iff.rfl) hπ.1; ⟨?_, trivial⟩) fun c1 => May.clq ⟨?_, trivial⟩ fun x2 q2 => have q2 := q2.1; May.lp (B.and (B.and (Iff.rfl) (Iff.rfl)) (B.eq)) fun x3 e3 => May.ret ⟨?_, trivial⟩
  all_goals try dsimp only
  all_goals first | with_reducible assumption | omega | (exact lwBk_t q1 q2 e3; done)
abbrev ZbS.S := Classical.choose ZbS.X
def ZbS.c : Ctr := fc 24 [true, true] ZbS.L ZbS ZbS.S
theorem ZbS.good : Good Try.prog ZbS.c := mkFG (fn := Try.f24) {} ZbS.X (consG Za.good noG) (by kernel_rfl) (by kernel_rfl) (l0 (by kernel_rfl)) (c0 (by kernel_rfl)) fun s K => by kernel_rfl
theorem ZbT.G : GG [ZbS.c, Zbq.c, Za.c] := (consG ZbS.good (consG Zbq.good (consG Za.good noG)))
def ZbU.L : FL := fCons (fC (cPtr 1 (cChE false) rfl)) (fCons (fC (cPtr 1 (cChE false) rfl)) (fCons (fC cBool) (fCons (fC cInt) (fNil))))
def ZbU : Ch × Ch × Bool × Int × Unit → LR (Ch × Ch × Bool × Int × Unit) (Nat × Bool × Unit) := fun (y0, y1, y2, y3, ()) => ⟨(0 ≤ y3) ∧ ((y0.past.length : Int) ≤ 9223372036854775807) ∧ (y0.lt) ∧ ((y0.past.length : Int) = (y1.past.length : Int)) ∧ (∀ k : Nat, (k : Int) < y3 → y0.past.getD k zSt = y1.past.getD k zSt) ∧ True, ((y0.past.length : Int) - y3).toNat, fun X => And (Imp ((decide (y3 < (y0.past.length : Int))) = true) (And ((0 : Int) ≤ y3 ∧ y3 < (y0.past.length : Int)) (And ((0 : Int) ≤ y3 ∧ y3 < (y1.past.length : Int)) (Call Zbq.X ((y0.past.getD (y3).toNat zSt), (y1.past.getD (y3).toNat zSt), ()) fun x6 => And (Imp ((!x6) = true) (X (.inr (0, false, ())))) (Imp ((!x6) = false) (Lt (wrap (y3 + 1)) fun x7 => X (.inl (y0, y1, y2, x7, ())))))))) (Imp ((decide (y3 < (y0.past.length : Int))) = false) (X (.inr (1, false, ())))), fun r => (r.1 = 0 → r.2.1 = false ∧ ¬ y0.past = y1.past) ∧ (¬ r.1 = 0 → y0.past = y1.past) ∧ True, fun r => [(Nat.beq r.1 0, (.ret, [.c (.bool r.2.1)], []))], fun r => (.exit 0, [], [])⟩
theorem ZbU.X : XL ZbU := mkL (0, false, ()) fun (y0, y1, y2, y3, ()) hp => by
  obtain ⟨p0, p1, p2, p3, p4, -⟩ := hp
  unfold ML; dsimp only [ZbU]
  refine May.iff (B.dec) (fun h1 => ?_) (fun h1 => ?_)
  refine May.chk ?_ fun c1 => May.chk ?_ fun c2 => May.call ⟨?_, trivial⟩ fun x6 q6 => have q6 := q6.1; May.iff (B.not (Iff.rfl)) (fun h2 => ?_) (fun h2 => ?_); rotate_left 3
  refine May.ex ⟨?_, ?_, trivial⟩; rotate_left 2
  refine May.lw ⟨?_, ?_⟩ fun x7 e7 => May.nx ⟨?_, ?_, ?_, ?_, ?_, trivial⟩ ?_ ?_ fun r => rfl; rotate_left 9
  refine May.ex ⟨?_, ?_, trivial⟩
  all_goals try dsimp only [ZbU]
  all_goals first | with_reducible assumption | omega | exact fun _ q => q | (intro h; omega; done) | (exact p2.2.2.1.2 _; done) | (exact fun _ => ⟨rfl, fun e => h2 (q6.2 (by rw [e]))⟩; done) | (exact l_step e7 (by omega) p4 (q6.1 (Classical.byContradiction h2)); done) | (exact fun _ => l_eq p3 h1 p4; done)
abbrev ZbU.R := Classical.choose ZbU.X
def ZbU.k : LCtr := (ld 4 [2, 3, 4, 5] [] ZbU.L ZbU 0 (fun e => match e with | .ret => [4] | _ => []) (fun _ => []) ZbU.R).ctr
theorem ZbU.g : LGood Try.prog Try.f18.ntmps ZbU.k (bodyAt Try.f18 0) := mkLG {} ZbU.X ZbT.G (by kernel_rfl) (l0 (by kernel_rfl)) (c0 (by kernel_rfl)) fun S s => by kernel_rfl
def ZbT.L : FL := fCons (fSh sCh) (fCons (fSh sCh) (fNil))
def ZbT : Ch × Ch × Unit → FR (Bool) := fun (a0, a1, ()) => ⟨(a0.lt) ∧ True, fun X => And (Imp (And ((a0.id != a1.id) = false) (True)) ((ZbS (a0.bank, a1.bank, ())).P)) (Lt ((ZbS.S (a0.bank, a1.bank, ()))) fun x1 => And (Imp (And ((bif a0.id != a1.id then true else !x1) = false) (True)) ((Zbq (a0.st, a1.st, ())).P)) (Lt ((Zbq.S (a0.st, a1.st, ()))) fun x2 => Lt (bif bif a0.id != a1.id then true else !x1 then true else !x2) fun x3 => Lt (bif x3 then true else (a0.past.length : Int) != (a1.past.length : Int)) fun x4 => And (Imp (And (x4 = false) (True)) ((Za (a0.knows, a1.knows, ())).P)) (Lt ((Za.S (a0.knows, a1.knows, ()))) fun x5 => And (Imp ((bif x4 then true else !x5) = true) (X false)) (Imp ((bif x4 then true else !x5) = false) (CallL ZbU.X (a0, a1, false, 0, ()) fun x8 => And (Imp (Nat.beq x8.1 0 = true) (X x8.2.1)) (Imp (Nat.beq x8.1 0 = false) (X true))))))), fun r => (r = true ↔ a0 = a1) ∧ True, fun r => (.v (.c (.bool r)), [])⟩
theorem ZbT.X : XF ZbT := mkF (false) fun (a0, a1, ()) hp => by
  obtain ⟨p0, -⟩ := hp
  obtain ⟨⟨u1, u2, u3⟩, u4, ⟨u5, u6⟩, u7⟩ := id p0
  dsimp only [ZbT]
  refine May.chk (fun hπ => have g1 := B.neg (B.ne) hπ.1; ⟨?_, ?_, trivial⟩) fun c1 => May.clq ⟨?_, ?_, trivial⟩ fun x1 q1 => have q1 := q1.1; May.chk (fun hπ => have g1 := B.neg (B.or (B.ne) (B.not (Iff.rfl))) hπ.1; ⟨?_, trivial⟩) fun c2 => May.clq ⟨?_, trivial⟩ fun x2 q2 => have q2 := q2.1; May.lp (B.or (B.or (B.ne) (B.not (Iff.rfl))) (B.not (Iff.rfl))) fun x3 e3 => May.lp (B.or (e3) (B.ne)) fun x4 e4 => May.chk (fun hπ => have g1 := B.neg (e4) hπ.1; ⟨?_, trivial⟩) fun c3 => May.clq ⟨?_, trivial⟩ fun x5 q5 => have q5 := q5.1; ?_; rotate_left 8
  refine May.iff (B.or (e4) (B.not (Iff.rfl))) (fun h1 => ?_) (fun h1 => ?_)
  refine May.ret ⟨?_, trivial⟩; rotate_left 1
  refine May.loop ⟨?_, ?_, ?_, ?_, ?_, trivial⟩ fun x8 q8 => have q8_0 := q8.1; have q8_1 := q8.2.1; May.iff B.nbeq (fun h2 => ?_) (fun h2 => ?_); rotate_left 5
  refine May.ret ⟨?_, trivial⟩; rotate_left 1
  refine May.ret ⟨?_, trivial⟩
  all_goals try dsimp only
  all_goals first | with_reducible assumption | omega | (intro k hk; omega; done) | (exact iff_of_false (fun h => by cases h) (lwCh_f q1 q2 q5 h1); done) | (rw [(q8_0 h2).1]; exact iff_of_false (fun h => by cases h) fun e => (q8_0 h2).2 (by rw [e]); done) | (exact iff_of_true rfl (lwCh_t q1 q2 q5 h1 (q8_1 h2)); done)
abbrev ZbT.S := Classical.choose ZbT.X
def ZbT.c : Ctr := fc 18 [true, true] ZbT.L ZbT ZbT.S
theorem ZbT.good : Good Try.prog ZbT.c := mkFG (fn := Try.f18) {LL := [ZbU.k]} ZbT.X ZbT.G (by kernel_rfl) (by kernel_rfl) (lG (by kernel_rfl) (consL (by kernel_rfl) ZbU.g (noL rfl))) (c0 (by kernel_rfl)) fun s K => by kernel_rfl
end
end Hw
end Go.Proofs.Ytloicplgckomdaa
