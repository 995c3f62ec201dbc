/- Laws of sums, 3: made by gen.py. -/
import Derived.Test.YtjcacgainbjopaaVA
import Derived.Test.YtjcacgainbjopaaVC
import Derived.Test.YtjcacgainbjopaaVD
import Derived.Test.YtjcacgainbjopaaUA
import Derived.Test.YtjcacgainbjopaaG3
set_option linter.unusedVariables false
set_option linter.unusedSimpArgs false
set_option maxRecDepth 100000
set_option maxHeartbeats 400000
namespace Go.Proofs.Ytjcacgainbjopaa
namespace Hw
open Go
noncomputable section
attribute [local irreducible] evFn evBody wrap wxor
def usr4 (w : List Ch) (k : Nat) : Int := (w.getD 0 zCh).bank.own.getD k 0 + (w.getD 0 zCh).bank.notes.getD k 0 + (w.getD 1 zCh).bank.own.getD k 0 + (w.getD 1 zCh).bank.notes.getD k 0
def usrTot (w : List Ch) : Nat → Int
  | 0 => 0
  | n + 1 => usrTot w n + usr4 w n
def allT (w : List Ch) : Nat → Int
  | 0 => 0
  | k + 1 => allT w k + (tot (w.getD k zCh).bank.own + tot (w.getD k zCh).bank.notes)
theorem part_at {l : List Int} (h : Parts l) (k : Nat) : 0 ≤ l.getD k 0 ∧ l.getD k 0 ≤ 30 := by
  rcases Nat.lt_or_ge k l.length with g | g
  · exact h.2 k g
  · rw [List.getD_eq_getElem?_getD, List.getElem?_eq_none g]
    decide
theorem wok_parts {w : List Ch} (hw : WOk w) {k : Nat} (hk : k < 2) : Parts (w.getD k zCh).bank.own ∧ Parts (w.getD k zCh).bank.notes := ⟨(hw.2 k hk).1.2.1.1, (hw.2 k hk).1.2.1.2.1⟩
theorem usr_of {w : List Ch} {u : Int} {x : List Int} (hw : WOk w) (hu : 1 ≤ u ∧ u ≤ 3) (q : UsrQ w u x) : x.length = 4 ∧ (0 ≤ x.getD 0 0 ∧ x.getD 0 0 ≤ 30) ∧ (0 ≤ x.getD 1 0 ∧ x.getD 1 0 ≤ 30) ∧ (0 ≤ x.getD 2 0 ∧ x.getD 2 0 ≤ 30) ∧ (0 ≤ x.getD 3 0 ∧ x.getD 3 0 ≤ 30) ∧ x.getD 0 0 + x.getD 1 0 + x.getD 2 0 + x.getD 3 0 = usr4 w (u - 1).toNat := by
  rw [q.1 ⟨hw, hu⟩]
  have h0 := wok_parts hw (k := 0) (by decide)
  have h1 := wok_parts hw (k := 1) (by decide)
  exact ⟨rfl, part_at h0.1 _, part_at h0.2 _, part_at h1.1 _, part_at h1.2 _, rfl⟩
theorem usr_le {w : List Ch} {u : Int} {x : List Int} (q : UsrQ w u x) : x.length ≤ 4 := by
  by_cases g : WOk w ∧ (1 ≤ u ∧ u ≤ 3)
  · rw [q.1 g]
    exact Nat.le_refl 4
  · rw [q.2 g]
    exact Nat.zero_le 4
theorem usr4_rng {w : List Ch} (hw : WOk w) (k : Nat) : 0 ≤ usr4 w k ∧ usr4 w k ≤ 120 := by
  have h0 := wok_parts hw (k := 0) (by decide)
  have h1 := wok_parts hw (k := 1) (by decide)
  have a := part_at h0.1 k
  have b := part_at h0.2 k
  have c := part_at h1.1 k
  have d := part_at h1.2 k
  unfold usr4
  omega
theorem usrTot_rng {w : List Ch} (hw : WOk w) : ∀ n : Nat, 0 ≤ usrTot w n ∧ usrTot w n ≤ 120 * (n : Int)
  | 0 => ⟨Int.le_refl _, Int.le_refl _⟩
  | n + 1 => by
    have h := usrTot_rng hw n
    have h2 := usr4_rng hw n
    rw [usrTot]
    omega
theorem usr_more {w : List Ch} {u v s y : Int} {x : List Int} (hw : WOk w) (hu : 1 ≤ u ∧ u ≤ 3) (q : UsrQ w u x) (es : s = usrTot w (u - 1).toNat) (ev : v = u + 1) (ey : y = s + x.getD 0 0 + x.getD 1 0 + x.getD 2 0 + x.getD 3 0) : y = usrTot w (v - 1).toNat := by
  have h := (usr_of hw hu q).2.2.2.2.2
  rw [show (v - 1).toNat = (u - 1).toNat + 1 by omega, usrTot, ← h, ← es, ey]
  omega
theorem all_rng {w : List Ch} (hw : WOk w) {i x y : Int} (h0 : 0 ≤ i) (h1 : i < 2) (q : AllQ (w.getD i.toNat zCh).bank x y) : x = tot (w.getD i.toNat zCh).bank.own + (w.getD i.toNat zCh).bank.locked ∧ y = tot (w.getD i.toNat zCh).bank.notes ∧ (0 ≤ (w.getD i.toNat zCh).bank.locked ∧ (w.getD i.toNat zCh).bank.locked ≤ 30) ∧ (0 ≤ x - (w.getD i.toNat zCh).bank.locked ∧ x - (w.getD i.toNat zCh).bank.locked ≤ 30) ∧ (0 ≤ y ∧ y ≤ 30) := by
  have hb := (wok_ch hw h0 (by omega : i ≤ 1)).2.1
  have e := q.1 hb
  have a := tot_own hb
  have b := tot_notes hb
  exact ⟨e.1, e.2, by omega, by omega, by omega⟩
theorem allT_rng {w : List Ch} (hw : WOk w) {i : Int} (h0 : 0 ≤ i) (h1 : i ≤ 2) : 0 ≤ allT w i.toNat ∧ allT w i.toNat ≤ 1000 := by
  have a := tot_own (wok_ch hw (i := 0) (by decide) (by decide)).2.1
  have b := tot_notes (wok_ch hw (i := 0) (by decide) (by decide)).2.1
  have c := tot_own (wok_ch hw (i := 1) (by decide) (by decide)).2.1
  have d := tot_notes (wok_ch hw (i := 1) (by decide) (by decide)).2.1
  have e0 : allT w 0 = 0 := rfl
  have e1 : allT w 1 = 0 + (tot (w.getD (0 : Int).toNat zCh).bank.own + tot (w.getD (0 : Int).toNat zCh).bank.notes) := rfl
  have e2 : allT w 2 = allT w 1 + (tot (w.getD (1 : Int).toNat zCh).bank.own + tot (w.getD (1 : Int).toNat zCh).bank.notes) := rfl
  have hi : i = 0 ∨ i = 1 ∨ i = 2 := by omega
  rcases hi with rfl | rfl | rfl
  · show 0 ≤ allT w 0 ∧ allT w 0 ≤ 1000
    omega
  · show 0 ≤ allT w 1 ∧ allT w 1 ≤ 1000
    omega
  · show 0 ≤ allT w 2 ∧ allT w 2 ≤ 1000
    omega
theorem all_more {w : List Ch} (hw : WOk w) {i j x y s r : Int} (h0 : 0 ≤ i) (h1 : i < 2) (ej : j = i + 1) (q : AllQ (w.getD i.toNat zCh).bank x y) (es : s = allT w i.toNat) (er : r = s + x - (w.getD i.toNat zCh).bank.locked + y) : r = allT w j.toNat := by
  have h := all_rng hw h0 h1 q
  rw [show j.toNat = i.toNat + 1 by omega, allT, ← es, er, h.1, h.2.1]
  omega
theorem usr_all {w : List Ch} : usrTot w 3 = allT w 2 := by
  show 0 + usr4 w 0 + usr4 w 1 + usr4 w 2 = 0 + (tot (w.getD 0 zCh).bank.own + tot (w.getD 0 zCh).bank.notes) + (tot (w.getD 1 zCh).bank.own + tot (w.getD 1 zCh).bank.notes)
  unfold usr4 tot
  omega
theorem usr_none {w : List Ch} {x : List Int} (q : UsrQ w 0 x) : (x.length : Int) = 0 := by
  rw [q.2 fun g => by omega]
  rfl

theorem Zeg.G : GG [Zea.c, Zd5.c, Zd4.c, Za.c, Z0.c, Zc1.c] := (consG Zea.good (consG Zd5.good (consG Zd4.good (consG Za.good (consG Z0.good (consG Zc1.good noG))))))
def Zeh.L : FL := fCons (fC cBool) (fCons (fC (cPtr 1 (cCons (cArrE true kChs) (cNil)) rfl)) (fCons (fC cInt) (fCons (fC cInt) (fNil))))
def Zeh : Bool × (List Ch × Unit) × Int × Int × Unit → LR (Bool × (List Ch × Unit) × Int × Int × Unit) (Nat × Bool × Int × Unit) := fun (y0, (y1, ()), y2, y3, ()) => ⟨(0 ≤ y3) ∧ (WOk y1) ∧ (chsFact y1) ∧ (chsRng y1) ∧ (1 ≤ y3) ∧ (y3 ≤ 4) ∧ (y2 = usrTot y1 (y3 - 1).toNat) ∧ True, (3 + 1 - y3).toNat, fun X => And (Imp ((decide (y3 ≤ 3)) = true) (Call Zd5.X (y1, y3, ()) fun x5 => And (Imp (((x5.length : Int) != 4) = true) (X (.inr (0, false, 0, ())))) (Imp (((x5.length : Int) != 4) = false) (And ((0 : Int) ≤ 0 ∧ 0 < (x5.length : Int)) (Lt (wrap (y2 + (x5.getD 0 0))) fun x6 => And ((0 : Int) ≤ 1 ∧ 1 < (x5.length : Int)) (Lt (wrap (x6 + (x5.getD 1 0))) fun x7 => And ((0 : Int) ≤ 2 ∧ 2 < (x5.length : Int)) (Lt (wrap (x7 + (x5.getD 2 0))) fun x8 => And ((0 : Int) ≤ 3 ∧ 3 < (x5.length : Int)) (Lt (wrap (x8 + (x5.getD 3 0))) fun x9 => Lt (wrap (y3 + 1)) fun x10 => X (.inl (y0, (y1, ()), x9, x10, ())))))))))) (Imp ((decide (y3 ≤ 3)) = false) (X (.inr (1, false, y2, ())))), fun r => (¬ r.1 = 0) ∧ (r.2.2.1 = usrTot y1 3) ∧ True, fun r => [(Nat.beq r.1 0, (.ret, [.c (.bool r.2.1)], []))], fun r => (.exit 0, [.c (.ptr 0 0), .c (.int r.2.2.1)], [.raw 1 [.arr true (.chs y1)]])⟩
theorem Zeh.X : XL Zeh := mkL (0, false, 0, ()) fun (y0, (y1, ()), y2, y3, ()) hp => by
  obtain ⟨p0, p1, p2, p3, p4, p5, p6, -⟩ := hp
  unfold ML; dsimp only [Zeh]
  refine May.iff (B.dec) (fun h1 => ?_) (fun h1 => ?_)
  refine May.call ⟨?_, ?_, trivial⟩ fun x5 q5 => have q5 := q5.1; May.iff (B.ne) (fun h2 => ?_) (fun h2 => ?_); rotate_left 2
  refine May.ex ⟨?_, ?_, trivial⟩; rotate_left 2
  refine May.chk ?_ fun c1 => May.lw ⟨?_, ?_⟩ fun x6 e6 => May.chk ?_ fun c2 => May.lw ⟨?_, ?_⟩ fun x7 e7 => May.chk ?_ fun c3 => May.lw ⟨?_, ?_⟩ fun x8 e8 => May.chk ?_ fun c4 => May.lw ⟨?_, ?_⟩ fun x9 e9 => ?_; rotate_left 12
  refine May.lw ⟨?_, ?_⟩ fun x10 e10 => May.nx ⟨?_, ?_, ?_, ?_, ?_, ?_, ?_, trivial⟩ ?_ ?_ fun r => rfl; rotate_left 11
  refine May.ex ⟨?_, ?_, trivial⟩
  all_goals try dsimp only [Zeh]
  all_goals first | with_reducible assumption | omega | exact fun _ q => q | ((have z := usr_of p1 ⟨p4, by omega⟩ q5; have t := usrTot_rng p1 (y3 - 1).toNat; rw [← p6] at t; omega); done) | ((have z := usr_of p1 ⟨p4, by omega⟩ q5; have t := usrTot_rng p1 (y3 - 1).toNat; rw [← p6] at t; exact absurd (by omega) h2); done) | (exact usr_more p1 ⟨p4, by omega⟩ q5 p6 e10 (by rw [e9, e8, e7, e6]); done) | ((rw [p6, show y3 = 4 by omega]; rfl); done) | (exact fun h => (by cases h); done) | ((intro h; cases h); done)
abbrev Zeh.R := Classical.choose Zeh.X
def Zeh.k : LCtr := (ld 9 [2, 3, 6, 7] [] Zeh.L Zeh 0 (fun e => match e with | .ret => [2] | _ => [3, 6]) (fun _ => []) Zeh.R).ctr
theorem Zeh.g : LGood Try.prog Try.f3.ntmps Zeh.k (bodyAt Try.f3 0) := mkLG {} Zeh.X Zeg.G (by kernel_rfl) (l0 (by kernel_rfl)) (c0 (by kernel_rfl)) fun S s => by kernel_rfl
def Zei.L : FL := fCons (fC (cPtr 1 (cCons (cArrE true kChs) (cNil)) rfl)) (fCons (fC cInt) (fCons (fC cInt) (fCons (fC cInt) (fNil))))
def Zei : (List Ch × Unit) × Int × Int × Int × Unit → LR ((List Ch × Unit) × Int × Int × Int × Unit) (Nat × Int × Unit) := fun ((y0, ()), y1, y2, y3, ()) => ⟨(0 ≤ y3) ∧ (WOk y0) ∧ (y3 ≤ 2) ∧ (y2 = allT y0 y3.toNat) ∧ True, (2 - y3).toNat, fun X => And (Imp ((decide (y3 < 2)) = true) (And ((0 : Int) ≤ y3 ∧ y3 < (y0.length : Int)) (Call0 Zc1.X ((y0.getD (y3).toNat zCh).bank, ()) fun x12 => Lt (wrap (y2 + x12.1)) fun x13 => And ((0 : Int) ≤ y3 ∧ y3 < (y0.length : Int)) (Lt (wrap (x13 - (y0.getD (y3).toNat zCh).bank.locked)) fun x14 => Lt (wrap (x14 + x12.2)) fun x15 => Lt (wrap (y3 + 1)) fun x16 => X (.inl ((y0, ()), y1, x15, x16, ())))))) (Imp ((decide (y3 < 2)) = false) (X (.inr (0, y2, ())))), fun r => (r.2.1 = allT y0 2) ∧ True, fun r => [], fun r => (.exit 2, [.c (.ptr 0 0), .c (.int y1), .c (.int r.2.1)], [.raw 1 [.arr true (.chs y0)]])⟩
theorem Zei.X : XL Zei := mkL (0, 0, ()) fun ((y0, ()), y1, y2, y3, ()) hp => by
  obtain ⟨p0, p1, p2, p3, -⟩ := hp
  unfold ML; dsimp only [Zei]
  refine May.iff (B.dec) (fun h1 => ?_) (fun h1 => ?_)
  refine May.chk ?_ fun c1 => May.call0 trivial fun x12 q12 => have q12 := q12.1; May.lw ⟨?_, ?_⟩ fun x13 e13 => May.chk ?_ fun c2 => May.lw ⟨?_, ?_⟩ fun x14 e14 => May.lw ⟨?_, ?_⟩ fun x15 e15 => May.lw ⟨?_, ?_⟩ fun x16 e16 => May.nx ⟨?_, ?_, ?_, ?_, trivial⟩ ?_ ?_ fun r => rfl; rotate_left 16
  refine May.ex ⟨?_, trivial⟩
  all_goals try dsimp only [Zei]
  all_goals first | with_reducible assumption | omega | exact fun _ q => q | ((have := wok_len p1; omega); done) | ((have z := all_rng p1 p0 h1 q12; have t := allT_rng p1 p0 p2; rw [← p3] at t; omega); done) | (exact all_more p1 p0 h1 e16 q12 p3 (by rw [e15, e14, e13]); done) | ((rw [p3, show y3 = 2 by omega]; rfl); done)
abbrev Zei.R := Classical.choose Zei.X
def Zei.k : LCtr := (ld 17 [3, 6, 9, 10] [] Zei.L Zei 0 (fun _ => [3, 6, 9]) (fun _ => []) Zei.R).ctr
theorem Zei.g : LGood Try.prog Try.f3.ntmps Zei.k (bodyAt Try.f3 1) := mkLG {} Zei.X Zeg.G (by kernel_rfl) (l0 (by kernel_rfl)) (c0 (by kernel_rfl)) fun S s => by kernel_rfl
def Zeg.L : FL := fCons (fC (cArr true kU8s)) (fNil)
def Zeg : List Int × Unit → FR (Bool) := fun (a0, ()) => ⟨(∀ k, 0 ≤ a0.getD k 0 ∧ a0.getD k 0 ≤ 255) ∧ True, fun X => And (Imp ((decide ((a0.length : Int) > 1048576)) = true) (X true)) (Imp ((decide ((a0.length : Int) > 1048576)) = false) (Call Zea.X (a0, ()) fun x1 => Call Zd5.X (x1.1, x1.2, ()) fun x2 => Call Zd4.X (x1.1, x1.2, ()) fun x3 => Call Za.X (x2, x3, ()) fun x4 => And (Imp ((bif !x4 then true else !(Z0.S x1.1)) = true) (And ((Zd4 (x1.1, x1.2, ())).P) (And ((Za (x2, x3, ())).P) (X x4)))) (Imp ((bif !x4 then true else !(Z0.S x1.1)) = false) (CallL Zeh.X (false, (x1.1, ()), 0, 1, ()) fun x11 => And (Imp (Nat.beq x11.1 0 = true) (X x11.2.1)) (Imp (Nat.beq x11.1 0 = false) (CallL Zei.X ((x1.1, ()), x11.2.2.1, 0, 0, ()) fun x17 => And (Imp (And ((x11.2.2.1 == x17.2.1) = true) (True)) ((Zd5 (x1.1, 0, ())).P)) (Lt ((Zd5.S (x1.1, 0, ()))) fun x18 => Lt (bif x11.2.2.1 == x17.2.1 then (x18.length : Int) == 0 else false) fun x19 => X x19))))))), fun r => (r = true) ∧ True, fun r => (.v (.c (.bool r)), [])⟩
theorem Zeg.X : XF Zeg := mkF (false) fun (a0, ()) hp => by
  obtain ⟨p0, -⟩ := hp
  dsimp only [Zeg]
  refine May.iff (B.dec) (fun h1 => ?_) (fun h1 => ?_)
  refine May.ret ⟨?_, trivial⟩; rotate_left 1
  refine May.call ⟨?_, trivial⟩ fun x1 q1 => have q1_0 := q1.1; have q1_1 := q1.2.1; May.call ⟨?_, ?_, trivial⟩ fun x2 q2 => have q2 := q2.1; May.call ⟨?_, ?_, trivial⟩ fun x3 q3 => have q3 := q3.1; May.call ⟨?_, trivial⟩ fun x4 q4 => have q4 := q4.1; May.iff (B.or (B.not (Iff.rfl)) (B.not (Iff.rfl))) (fun h2 => ?_) (fun h2 => ?_); rotate_left 6
  refine May.chk ⟨?_, ?_, trivial⟩ fun c1 => May.chk ⟨?_, trivial⟩ fun c2 => May.ret ⟨?_, trivial⟩; rotate_left 4
  refine May.loop ⟨?_, ?_, ?_, ?_, ?_, ?_, ?_, trivial⟩ fun x11 q11 => have q11_0 := q11.1; have q11_1 := q11.2.1; May.iff B.nbeq (fun h3 => ?_) (fun h3 => ?_); rotate_left 7
  refine May.ret ⟨?_, trivial⟩; rotate_left 1
  refine May.loop ⟨?_, ?_, ?_, ?_, trivial⟩ fun x17 q17 => have q17 := q17.1; May.chk (fun hπ => have g1 := Iff.mp (B.eq) hπ.1; ⟨?_, ?_, trivial⟩) fun c3 => May.clq ⟨?_, ?_, trivial⟩ fun x18 q18 => have q18 := q18.1; May.lp (B.and (B.eq) (B.eq)) fun x19 e19 => May.ret ⟨?_, trivial⟩
  all_goals try dsimp only
  all_goals first | with_reducible assumption | omega | (with_reducible rfl; done) | (rfl; done) | ((have := usr_le q2; omega); done) | (exact q4.2 (usrQ_eq q2 q3); done) | ((have W := (specW q1_0 q1_1).1 (nn fun g => h2 (.inr g)); exact W); done) | ((have W := (specW q1_0 q1_1).1 (nn fun g => h2 (.inr g)); have e1 := q11_1; have e2 := q17; exact e19.2 ⟨by rw [e1, e2]; exact usr_all, usr_none q18⟩); done) | (exact absurd h3 q11_0; done)
abbrev Zeg.S := Classical.choose Zeg.X
def Zeg.c : Ctr := fc 3 [false] Zeg.L Zeg Zeg.S
theorem Zeg.good : Good Try.prog Zeg.c := mkFG (fn := Try.f3) {LL := [Zeh.k, Zei.k]} Zeg.X Zeg.G (by kernel_rfl) (by kernel_rfl) (lG (by kernel_rfl) (consL (by kernel_rfl) Zeh.g (consL (by kernel_rfl) Zei.g (noL rfl)))) (c0 (by kernel_rfl)) fun s K => by kernel_rfl
end
end Hw
end Go.Proofs.Ytjcacgainbjopaa
