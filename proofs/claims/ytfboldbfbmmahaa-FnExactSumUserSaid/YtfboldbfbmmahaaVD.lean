/- What users have: made by gen.py. -/
import Derived.Test.YtfboldbfbmmahaaUW
set_option linter.unusedVariables false
set_option linter.unusedSimpArgs false
set_option maxRecDepth 100000
set_option maxHeartbeats 400000
namespace Go.Proofs.Ytfboldbfbmmahaa
namespace Hw
open Go
noncomputable section
attribute [local irreducible] evFn evBody wrap wxor
def usrAt (w : List Ch) (u : Int) : Nat → List Int
  | 0 => []
  | k + 1 => usrAt w u k ++ [(w.getD k zCh).bank.own.getD (u - 1).toNat 0, (w.getD k zCh).bank.notes.getD (u - 1).toNat 0]
abbrev UsrQ (w : List Ch) (u : Int) (r : List Int) : Prop := (WOk w ∧ (1 ≤ u ∧ u ≤ 3) → r = usrAt w u 2) ∧ (¬ (WOk w ∧ (1 ≤ u ∧ u ≤ 3)) → r = [])
theorem usrQ_eq {w : List Ch} {u : Int} {a b : List Int} (h : UsrQ w u a) (h' : UsrQ w u b) : a = b := by
  by_cases g : WOk w ∧ (1 ≤ u ∧ u ≤ 3)
  · exact (h.1 g).trans (h'.1 g).symm
  · exact (h.2 g).trans (h'.2 g).symm
theorem usrQ_n {w : List Ch} {u : Int} (h : ¬ (WOk w ∧ (1 ≤ u ∧ u ≤ 3))) : UsrQ w u [] := ⟨fun g => absurd g h, fun _ => rfl⟩
theorem usrQ_t {w : List Ch} {u : Int} {r : List Int} (hw : WOk w) (hu : 1 ≤ u ∧ u ≤ 3) (e : r = usrAt w u 2) : UsrQ w u r := ⟨fun _ => e, fun g => absurd ⟨hw, hu⟩ g⟩
theorem usr_step {w : List Ch} {u i j x : Int} {l : List Int} (h0 : 0 ≤ i) (ej : j = i + 1) (ex : x = u - 1) (e : l = usrAt w u i.toNat) : l ++ [(w.getD i.toNat zCh).bank.own.getD x.toNat 0, (w.getD i.toNat zCh).bank.notes.getD x.toNat 0] = usrAt w u j.toNat := by
  rw [show j.toNat = i.toNat + 1 by omega, usrAt, e, ex]
theorem usr_len {w : List Ch} {u : Int} : ∀ n : Nat, (usrAt w u n).length = 2 * n
  | 0 => rfl
  | n + 1 => by rw [usrAt, List.length_append, usr_len n]; simp; omega
theorem usr_l {w : List Ch} (hw : WOk w) : w.length = 2 ∧ ∀ k, k < 2 → (w.getD k zCh).bank.own.length = 3 ∧ (w.getD k zCh).bank.notes.length = 3 := ⟨hw.1, fun k hk => ⟨(hw.2 k hk).1.2.1.1.1, (hw.2 k hk).1.2.1.2.1.1⟩⟩
theorem usr_ok {f : Int} : Zx.S f = true ↔ 1 ≤ f ∧ f ≤ 3 := by
  unfold Zx.S
  cases h : decide (f ≥ 1) <;> simp_all <;> omega

def Zd4.L : FL := fCons (fSh sW) (fCons (fSh sInt) (fNil))
def Zd4 : List Ch × Int × Unit → FR ((List Int)) := fun (a0, a1, ()) => ⟨(chsFact a0) ∧ (chsRng a0) ∧ True, fun X => Lt (bif !(Z0.S a0) then true else !(Zc.S a1)) fun x1 => And (Imp (x1 = true) (X [])) (Imp (x1 = false) (And ((0 : Int) ≤ 0 ∧ 0 < (a0.length : Int)) (And ((0 : Int) ≤ 1 ∧ 1 < (a0.length : Int)) (Lt (wrap (a1 - 1)) fun x2 => And ((0 : Int) ≤ x2 ∧ x2 < ((a0.getD 0 zCh).bank.own.length : Int)) (And ((0 : Int) ≤ x2 ∧ x2 < ((a0.getD 0 zCh).bank.notes.length : Int)) (And ((0 : Int) ≤ x2 ∧ x2 < ((a0.getD 1 zCh).bank.own.length : Int)) (And ((0 : Int) ≤ x2 ∧ x2 < ((a0.getD 1 zCh).bank.notes.length : Int)) (Lt ([(a0.getD 0 zCh).bank.own.getD (x2).toNat 0, (a0.getD 0 zCh).bank.notes.getD (x2).toNat 0, (a0.getD 1 zCh).bank.own.getD (x2).toNat 0, (a0.getD 1 zCh).bank.notes.getD (x2).toNat 0]) fun x3 => X x3)))))))), fun r => (UsrQ a0 a1 r) ∧ True, fun r => (.v (.c (.arr true (.ints r))), [])⟩
theorem Zd4.X : XF Zd4 := mkF ([]) fun (a0, a1, ()) hp => by
  obtain ⟨p0, p1, -⟩ := hp
  dsimp only [Zd4]
  refine May.lp (B.or (B.not (Iff.rfl)) (B.not (user_iff))) fun x1 e1 => May.iff (e1) (fun h1 => ?_) (fun h1 => ?_)
  refine May.ret ⟨?_, trivial⟩; rotate_left 1
  refine May.chk ?_ fun c1 => May.chk ?_ fun c2 => May.lw ⟨?_, ?_⟩ fun x2 e2 => May.chk ?_ fun c3 => May.chk ?_ fun c4 => May.chk ?_ fun c5 => May.chk ?_ fun c6 => May.lt fun x3 e3 => May.ret ⟨?_, trivial⟩
  all_goals try dsimp only
  all_goals first | with_reducible assumption | omega | (exact usrQ_n fun g => h1.elim (fun h => h ((specW p0 p1).2 g.1)) fun h => h g.2; done) | ((have hw := (specW p0 p1).1 (nn fun g => h1 (.inl g)); have hn := nn fun g => h1 (.inr g); have z := usr_l hw; have z1 := z.2 0 (by decide); have z2 := z.2 1 (by decide); omega); done) | ((have hw := (specW p0 p1).1 (nn fun g => h1 (.inl g)); have hn := nn fun g => h1 (.inr g); have z := usr_l hw; have z1 := z.2 0 (by decide); have z2 := z.2 1 (by decide); exact usrQ_t hw hn (by rw [e3, e2]; rfl)); done)
abbrev Zd4.S := Classical.choose Zd4.X
def Zd4.c : Ctr := fc 21 [true, false] Zd4.L Zd4 Zd4.S
theorem Zd4.good : Good Try.prog Zd4.c := mkFG (fn := Try.f21) {sh := [[some (.int, 3)]], lst := true} Zd4.X (consG Z0.good (consG Zc.good noG)) (by kernel_rfl) (by kernel_rfl) (l0 (by kernel_rfl)) (c0 (by kernel_rfl)) fun s K => by kernel_rfl
theorem Zd5.G : GG [Zx.c, Z2.c] := (consG Zx.good (consG Z2.good noG))
def Zd6.L : FL := fCons (fC cInt) (fCons (fC (cOwn kInts 3)) (fCons (fC (cArr false kChs)) (fCons (fC cInt) (fCons (fC cInt) (fNil)))))
def Zd6 : Int × List Int × List Ch × Int × Int × Unit → LR (Int × List Int × List Ch × Int × Int × Unit) (Nat × (List Int) × Unit) := fun (y0, y1, y2, y3, y4, ()) => ⟨(0 ≤ y4) ∧ (y3 ≤ 9223372036854775807) ∧ (y3 = (y2.length : Int)) ∧ (WOk y2) ∧ (1 ≤ y0 ∧ y0 ≤ 3) ∧ (y1 = usrAt y2 y0 y4.toNat) ∧ (y4 ≤ (y2.length : Int)) ∧ True, (y3 - y4).toNat, fun X => And (Imp ((decide (y4 < y3)) = true) (And ((0 : Int) ≤ y4 ∧ y4 < (y2.length : Int)) (Lt (wrap (y0 - 1)) fun x2 => And ((0 : Int) ≤ x2 ∧ x2 < ((y2.getD (y4).toNat zCh).bank.own.length : Int)) (And ((0 : Int) ≤ x2 ∧ x2 < ((y2.getD (y4).toNat zCh).bank.notes.length : Int)) (Lt ([(y2.getD (y4).toNat zCh).bank.own.getD (x2).toNat 0, (y2.getD (y4).toNat zCh).bank.notes.getD (x2).toNat 0]) fun x3 => And ((y1 ++ x3).length ≤ 4294967296) (Lt (wrap (y4 + 1)) fun x4 => X (.inl (y0, (y1 ++ x3), y2, y3, x4, ())))))))) (Imp ((decide (y4 < y3)) = false) (X (.inr (0, y1, ())))), fun r => (r.2.1 = usrAt y2 y0 2) ∧ True, fun r => [], fun r => (.exit 0, [.c (.own 0 1 3)], [.arr (.ints r.2.1)])⟩
theorem Zd6.X : XL Zd6 := mkL (0, [], ()) fun (y0, y1, y2, y3, y4, ()) hp => by
  obtain ⟨p0, p1, p2, p3, p4, p5, p6, -⟩ := hp
  unfold ML; dsimp only [Zd6]
  refine May.iff (B.dec) (fun h1 => ?_) (fun h1 => ?_)
  refine May.chk ?_ fun c1 => May.lw ⟨?_, ?_⟩ fun x2 e2 => May.chk ?_ fun c2 => May.chk ?_ fun c3 => May.lt fun x3 e3 => May.chk ?_ fun c4 => May.lw ⟨?_, ?_⟩ fun x4 e4 => May.nx ⟨?_, ?_, ?_, ?_, ?_, ?_, ?_, trivial⟩ ?_ ?_ fun r => rfl; rotate_left 17
  refine May.ex ⟨?_, trivial⟩
  all_goals try dsimp only [Zd6]
  all_goals first | with_reducible assumption | omega | exact fun _ q => q | ((have z := usr_l p3; have z1 := z.2 y4.toNat (by omega); omega); done) | ((rw [p5, e3, List.length_append, usr_len]; have := p3.1; simp only [List.length_cons, List.length_nil]; omega); done) | ((rw [e3]; exact usr_step p0 e4 e2 p5); done) | ((have := p3.1; rw [p5, show y4.toNat = 2 by omega]); done)
abbrev Zd6.R := Classical.choose Zd6.X
def Zd6.k : LCtr := (ld 5 [1, 5, 17, 18, 19] [[], [some (.int, 3)]] Zd6.L Zd6 0 (fun _ => [5]) (fun _ => [[some (.int, 3)]]) Zd6.R).ctr
theorem Zd6.g : LGood Try.prog Try.f22.ntmps Zd6.k (bodyAt Try.f22 0) := mkLG {} Zd6.X Zd5.G (by kernel_rfl) (l0 (by kernel_rfl)) (c0 (by kernel_rfl)) fun S s => by kernel_rfl
def Zd5.L : FL := fCons (fSh sW) (fCons (fSh sInt) (fNil))
def Zd5 : List Ch × Int × Unit → FR ((List Int)) := fun (a0, a1, ()) => ⟨(chsFact a0) ∧ (chsRng a0) ∧ True, fun X => Lt (bif !(Zx.S a1) then true else !(Z2.S a0)) fun x1 => And (Imp (x1 = true) (X [])) (Imp (x1 = false) (CallL Zd6.X (a1, [], a0, (a0.length : Int), 0, ()) fun x5 => X x5.2.1)), fun r => (UsrQ a0 a1 r) ∧ True, fun r => (.v (.c (.arr true (.ints r))), [])⟩
theorem Zd5.X : XF Zd5 := mkF ([]) fun (a0, a1, ()) hp => by
  obtain ⟨p0, p1, -⟩ := hp
  dsimp only [Zd5]
  refine May.lp (B.or (B.not (Iff.rfl)) (B.not (Iff.rfl))) fun x1 e1 => May.iff (e1) (fun h1 => ?_) (fun h1 => ?_)
  refine May.ret ⟨?_, trivial⟩; rotate_left 1
  refine May.loop ⟨?_, ?_, ?_, ?_, ?_, ?_, ?_, trivial⟩ fun x5 q5 => have q5 := q5.1; May.ret ⟨?_, trivial⟩
  all_goals try dsimp only
  all_goals first | with_reducible assumption | omega | (exact usrQ_n fun g => h1.elim (fun h => h (usr_ok.2 g.2)) fun h => h ((implW p0).2 g.1); done) | ((have hw := (implW p0).1 (nn fun g => h1 (.inr g)); have hn := usr_ok.1 (nn fun g => h1 (.inl g)); exact usrQ_t hw hn q5); done) | ((have hw := (implW p0).1 (nn fun g => h1 (.inr g)); have hn := usr_ok.1 (nn fun g => h1 (.inl g)); exact hw); done) | ((have hw := (implW p0).1 (nn fun g => h1 (.inr g)); have hn := usr_ok.1 (nn fun g => h1 (.inl g)); exact hn); done) | (rfl; done) | ((have hw := (implW p0).1 (nn fun g => h1 (.inr g)); have hn := usr_ok.1 (nn fun g => h1 (.inl g)); have := hw.1; omega); done)
abbrev Zd5.S := Classical.choose Zd5.X
def Zd5.c : Ctr := fc 22 [true, false] Zd5.L Zd5 Zd5.S
theorem Zd5.good : Good Try.prog Zd5.c := mkFG (fn := Try.f22) {LL := [Zd6.k], sh := [[some (.int, 3)]], lst := true} Zd5.X Zd5.G (by kernel_rfl) (by kernel_rfl) (lG (by kernel_rfl) (consL (by kernel_rfl) Zd6.g (noL rfl))) (c0 (by kernel_rfl)) fun s K => by kernel_rfl
end
end Hw
end Go.Proofs.Ytfboldbfbmmahaa
