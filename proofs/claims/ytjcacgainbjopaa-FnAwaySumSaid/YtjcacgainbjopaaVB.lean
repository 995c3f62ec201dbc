/- Laws of sums: made by gen.py. -/
import Derived.Test.YtjcacgainbjopaaVA
import Derived.Test.YtjcacgainbjopaaUC
import Derived.Test.YtjcacgainbjopaaG1
import Derived.Test.YtjcacgainbjopaaFT
set_option linter.unusedVariables false
set_option linter.unusedSimpArgs false
set_option maxRecDepth 100000
set_option maxHeartbeats 400000
namespace Go.Proofs.Ytjcacgainbjopaa
namespace Hw
open Go
noncomputable section
attribute [local irreducible] evFn evBody wrap wxor
theorem lw_key {s o : St} {k y i j : Int} {g : Prop} [Decidable g] (h0 : 0 ≤ i) (ej : j = i + 1) (e : y = awayF s o k i.toNat) (hg : g ↔ ((s.sent.getD i.toNat zPkt).kind = k ∧ s.live.getD i.toNat false = true ∧ ¬ o.got.getD i.toNat 0 = 1)) : y + (if g then (s.sent.getD i.toNat zPkt).sum else 0) = awayF s o k j.toNat := by
  rw [show j.toNat = i.toNat + 1 by omega, awayF, e]
  by_cases h : g
  · rw [if_pos h, if_pos (hg.1 h)]
  · rw [if_neg h, if_neg fun h' => h (hg.2 h')]
theorem stl_1 {s : St} {i x r : Int} (hs : StOk s) (h0 : 0 ≤ i) (h1 : i < (s.sent.length : Int)) (ex : x = i + 1) (q : StlQ s x r) : r = 1 ↔ s.live.getD i.toNat false = true := by
  have h := q.1 hs (by omega) (by omega)
  rw [show x - 1 = i by omega] at h
  rw [h]
  split
  · simp_all
  · split <;> simp_all
theorem got_1 {s : St} {i x r : Int} (hs : StOk s) (h0 : 0 ≤ i) (h1 : i < 8) (ex : x = i + 1) (q : GotQ s x r) : r = s.got.getD i.toNat 0 := by
  have h := q.1 hs (by omega) (by omega)
  rw [show x - 1 = i by omega] at h
  exact h
theorem lw_t {s o : St} {k y i j x z a b : Int} (hs : StOk s) (ho : StOk o) (h0 : 0 ≤ i) (h1 : i < (s.sent.length : Int)) (ej : j = i + 1) (ex : x = i + 1) (ez : z = i + 1) (e : y = awayF s o k i.toNat) (hk : (s.sent.getD i.toNat zPkt).kind = k) (qa : StlQ s x a) (ha : a = 1) (qb : GotQ o z b) (hb : ¬ b = 1) : y + (s.sent.getD i.toNat zPkt).sum = awayF s o k j.toNat := by
  have h2 := hs.2.2.1
  have h := lw_key (g := True) h0 ej e ⟨fun _ => ⟨hk, (stl_1 hs h0 h1 ex qa).1 ha, fun h => hb ((got_1 ho h0 (by omega) ez qb).trans h)⟩, fun _ => trivial⟩
  simpa using h
theorem lw_f1 {s o : St} {k y i j : Int} (h0 : 0 ≤ i) (ej : j = i + 1) (e : y = awayF s o k i.toNat) (hk : ¬ (s.sent.getD i.toNat zPkt).kind = k) : y = awayF s o k j.toNat := by
  have h := lw_key (g := False) h0 ej e ⟨fun h => h.elim, fun h => hk h.1⟩
  simpa using h
theorem lw_f2 {s o : St} {k y i j x a : Int} (hs : StOk s) (h0 : 0 ≤ i) (h1 : i < (s.sent.length : Int)) (ej : j = i + 1) (ex : x = i + 1) (e : y = awayF s o k i.toNat) (qa : StlQ s x a) (ha : ¬ a = 1) : y = awayF s o k j.toNat := by
  have h := lw_key (g := False) (o := o) (k := k) h0 ej e ⟨fun h => h.elim, fun h => ha ((stl_1 hs h0 h1 ex qa).2 h.2.1)⟩
  simpa using h
theorem lw_f3 {s o : St} {k y i j z b : Int} (hs : StOk s) (ho : StOk o) (h0 : 0 ≤ i) (h1 : i < (s.sent.length : Int)) (ej : j = i + 1) (ez : z = i + 1) (e : y = awayF s o k i.toNat) (qb : GotQ o z b) (hb : b = 1) : y = awayF s o k j.toNat := by
  have h2 := hs.2.2.1
  have h := lw_key (g := False) (k := k) h0 ej e ⟨fun h => h.elim, fun h => h.2.2 ((got_1 ho h0 (by omega) ez qb).symm.trans hb)⟩
  simpa using h
theorem lw_f {s o : St} {k y i j a b : Int} (hs : StOk s) (ho : StOk o) (h0 : 0 ≤ i) (h1 : i < (s.sent.length : Int)) (ej : j = i + 1) (e : y = awayF s o k i.toNat) (qa : StlQ s j a) (qb : GotQ o j b) (h : ¬ (((s.sent.getD i.toNat zPkt).kind = k ∧ a = 1) ∧ ¬ b = 1)) : y = awayF s o k j.toNat := by
  by_cases h2 : (s.sent.getD i.toNat zPkt).kind = k
  · by_cases h3 : a = 1
    · exact lw_f3 hs ho h0 h1 ej ej e qb (Classical.byContradiction fun g => h ⟨⟨h2, h3⟩, g⟩)
    · exact lw_f2 hs h0 h1 ej ej e qa h3
  · exact lw_f1 h0 ej e h2
theorem away_fin {w : List Ch} {n k a b : Int} (hw : WOk w) (hn : 1 ≤ n ∧ n ≤ 2) (hk : 1 ≤ k ∧ k ≤ 2) (q : AwQ w n k a) (q5 : b = awaysW w n k) : (bif a == b then decide (a ≥ 0) else false) = true := by
  have e := q.1 ⟨hw, hn, by omega⟩
  have z := awaysW_rng (k := k) hw hn
  rw [show (a == b) = true from beq_iff_eq.2 (e.trans q5.symm), cond_true]
  exact decide_eq_true (by omega)

theorem Zec.G : GG [Zcw.c, Zcv.c] := (consG Zcw.good (consG Zcv.good noG))
def Zed.L : FL := fCons (fC cInt) (fCons (fC cInt) (fCons (fC (cPtr 1 (cStE false) rfl)) (fCons (fC (cPtr 1 (cStE false) rfl)) (fCons (fC cInt) (fNil)))))
def Zed : Int × Int × St × St × Int × Unit → LR (Int × Int × St × St × Int × Unit) (Nat × Int × Unit) := fun (y0, y1, y2, y3, y4, ()) => ⟨(0 ≤ y4) ∧ ((y2.sent.length : Int) ≤ 9223372036854775807) ∧ (StOk y2) ∧ (StOk y3) ∧ (y1 = awayF y2 y3 y0 y4.toNat) ∧ (y4 ≤ (y2.sent.length : Int)) ∧ True, ((y2.sent.length : Int) - y4).toNat, fun X => And (Imp ((decide (y4 < (y2.sent.length : Int))) = true) (And ((0 : Int) ≤ y4 ∧ y4 < (y2.sent.length : Int)) (Lt (wrap (y4 + 1)) fun x3 => Lt ((Zcw.S (y2, x3, ()))) fun x4 => Lt (bif (y2.sent.getD (y4).toNat zPkt).kind == y0 then x4 == 1 else false) fun x5 => Lt ((Zcv.S (y3, x3, ()))) fun x6 => And (Imp ((bif x5 then x6 != 1 else false) = true) (And ((0 : Int) ≤ y4 ∧ y4 < (y2.sent.length : Int)) (Lt (wrap (y1 + (y2.sent.getD (y4).toNat zPkt).sum)) fun x7 => X (.inl (y0, x7, y2, y3, x3, ()))))) (Imp ((bif x5 then x6 != 1 else false) = false) (X (.inl (y0, y1, y2, y3, x3, ()))))))) (Imp ((decide (y4 < (y2.sent.length : Int))) = false) (X (.inr (0, y1, ())))), fun r => (r.2.1 = awayF y2 y3 y0 y2.sent.length) ∧ True, fun r => [], fun r => (.exit 0, [.c (.int r.2.1)], [])⟩
theorem Zed.X : XL Zed := mkL (0, 0, ()) fun (y0, y1, y2, y3, y4, ()) hp => by
  obtain ⟨p0, p1, p2, p3, p4, p5, -⟩ := hp
  unfold ML; dsimp only [Zed]
  refine May.iff (B.dec) (fun h1 => ?_) (fun h1 => ?_)
  refine May.chk ?_ fun c1 => May.lwi fun x3 e3 => May.clq trivial fun x4 q4 => have q4 := q4.1; May.lp (B.and (B.eq) (B.eq)) fun x5 e5 => May.clq trivial fun x6 q6 => have q6 := q6.1; May.iff (B.and (e5) (B.ne)) (fun h2 => ?_) (fun h2 => ?_); rotate_left 1
  refine May.chk ?_ fun c2 => May.lw ⟨?_, ?_⟩ fun x7 e7 => May.nx ⟨?_, ?_, ?_, ?_, ?_, ?_, trivial⟩ ?_ ?_ fun r => rfl; rotate_left 11
  refine May.nx ⟨?_, ?_, ?_, ?_, ?_, ?_, trivial⟩ ?_ ?_ fun r => rfl; rotate_left 8
  refine May.ex ⟨?_, trivial⟩
  all_goals try dsimp only [Zed]
  all_goals first | with_reducible assumption | omega | exact fun _ q => q | ((have := p2.2.2.1; omega); done) | ((have := awayF_rng (o := y3) (k := y0) p2 (n := y4.toNat) (by omega); have := (stK5 p2 (i := y4) (by omega) (by omega)).1.2.2.2.2.1; have := p2.2.2.1; omega); done) | ((have hz := p2.2.2.1; have hx : x3 = y4 + 1 := e3 (by omega); rw [e7]; exact lw_t p2 p3 p0 h1 hx hx hx p4 h2.1.1 q4 h2.1.2 q6 h2.2); done) | ((have hz := p2.2.2.1; have hx : x3 = y4 + 1 := e3 (by omega); exact lw_f p2 p3 p0 h1 hx p4 q4 q6 h2); done) | ((rw [p4, show y4.toNat = y2.sent.length by omega]); done)
abbrev Zed.R := Classical.choose Zed.X
def Zed.k : LCtr := (ld 5 [2, 7, 8, 9, 10] [] Zed.L Zed 0 (fun _ => [7]) (fun _ => []) Zed.R).ctr
theorem Zed.g : LGood Try.prog Try.f23.ntmps Zed.k (bodyAt Try.f23 0) := mkLG {} Zed.X Zec.G (by kernel_rfl) (l0 (by kernel_rfl)) (c0 (by kernel_rfl)) fun S s => by kernel_rfl
def Zec.L : FL := fCons (fSh sW) (fCons (fSh sInt) (fCons (fSh sInt) (fNil)))
def Zec : List Ch × Int × Int × Unit → FR (Int) := fun (a0, a1, a2, ()) => ⟨(WOk a0) ∧ (1 ≤ a1 ∧ a1 ≤ 2) ∧ True, fun X => Lt (wrap (a1 - 1)) fun x1 => And ((0 : Int) ≤ x1 ∧ x1 < (a0.length : Int)) (Lt (wrap (2 - a1)) fun x2 => And ((0 : Int) ≤ x2 ∧ x2 < (a0.length : Int)) (CallL Zed.X (a2, 0, (a0.getD (x1).toNat zCh).st, (a0.getD (x2).toNat zCh).st, 0, ()) fun x8 => X x8.2.1)), fun r => (r = awaysW a0 a1 a2) ∧ True, fun r => (.v (.c (.int r)), [])⟩
theorem Zec.X : XF Zec := mkF (0) fun (a0, a1, a2, ()) hp => by
  obtain ⟨p0, p1, -⟩ := hp
  dsimp only [Zec]
  refine May.lw ⟨?_, ?_⟩ fun x1 e1 => May.chk ?_ fun c1 => May.lw ⟨?_, ?_⟩ fun x2 e2 => May.chk ?_ fun c2 => May.loop ⟨?_, ?_, ?_, ?_, ?_, ?_, trivial⟩ fun x8 q8 => have q8 := q8.1; May.ret ⟨?_, trivial⟩
  all_goals try dsimp only
  all_goals first | with_reducible assumption | omega | ((have := wok_len p0; omega); done) | ((have := (wok_st p0 (i := x1) (by omega) (by omega)).2.2.1; unfold stAt at this; omega); done) | ((have := wok_st p0 (i := x1) (by omega) (by omega); exact this); done) | ((have := wok_st p0 (i := x2) (by omega) (by omega); exact this); done) | (rfl; done) | ((rw [q8, e1, e2]; rfl); done)
abbrev Zec.S := Classical.choose Zec.X
def Zec.c : Ctr := fc 23 [true, false, false] Zec.L Zec Zec.S
theorem Zec.good : Good Try.prog Zec.c := mkFG (fn := Try.f23) {LL := [Zed.k]} Zec.X Zec.G (by kernel_rfl) (by kernel_rfl) (lG (by kernel_rfl) (consL (by kernel_rfl) Zed.g (noL rfl))) (c0 (by kernel_rfl)) fun s K => by kernel_rfl
def Zee.L : FL := fCons (fC (cArr true kU8s)) (fNil)
def Zee : List Int × Unit → FR (Bool) := fun (a0, ()) => ⟨(∀ k, 0 ≤ a0.getD k 0 ∧ a0.getD k 0 ≤ 255) ∧ True, fun X => And (Imp ((decide ((a0.length : Int) > 1048576)) = true) (X true)) (Imp ((decide ((a0.length : Int) > 1048576)) = false) (Call Zd7.X (a0, ()) fun x1 => Call Zdl.X (x1.1, x1.2.1, x1.2.2, ()) fun x2 => Call Zde.X (x1.1, x1.2.1, x1.2.2, ()) fun x3 => Lt (bif bif x2 != x3 then true else !(Z0.S x1.1) then true else decide (x1.2.1 > 2)) fun x4 => And (Imp ((bif x4 then true else decide (x1.2.2 > 2)) = true) (And ((Zde (x1.1, x1.2.1, x1.2.2, ())).P) (X (x2 == x3)))) (Imp ((bif x4 then true else decide (x1.2.2 > 2)) = false) (Call Zec.X (x1.1, x1.2.1, x1.2.2, ()) fun x5 => X (bif x2 == x5 then decide (x2 ≥ 0) else false))))), fun r => (r = true) ∧ True, fun r => (.v (.c (.bool r)), [])⟩
theorem Zee.X : XF Zee := mkF (false) fun (a0, ()) hp => by
  obtain ⟨p0, -⟩ := hp
  dsimp only [Zee]
  refine May.iff (B.dec) (fun h1 => ?_) (fun h1 => ?_)
  refine May.ret ⟨?_, trivial⟩; rotate_left 1
  refine May.call ⟨?_, trivial⟩ fun x1 q1 => have q1_0 := q1.1; have q1_1 := q1.2.1; have q1_2 := q1.2.2.1; have q1_3 := q1.2.2.2.1; May.call ⟨?_, ?_, trivial⟩ fun x2 q2 => have q2 := q2.1; May.call ⟨?_, ?_, trivial⟩ fun x3 q3 => have q3 := q3.1; May.lp (B.or (B.or (B.ne) (B.not (Iff.rfl))) (B.dec)) fun x4 e4 => May.iff (B.or (e4) (B.dec)) (fun h2 => ?_) (fun h2 => ?_); rotate_left 5
  refine May.chk ⟨?_, ?_, trivial⟩ fun c1 => May.ret ⟨?_, trivial⟩; rotate_left 3
  refine May.call ⟨?_, ?_, trivial⟩ fun x5 q5 => have q5 := q5.1; May.ret ⟨?_, trivial⟩
  all_goals try dsimp only
  all_goals first | with_reducible assumption | omega | (with_reducible rfl; done) | (exact beq_iff_eq.2 (awQ_eq q2 q3); done) | (exact (specW q1_0 q1_1).1 (nn fun g => h2 (.inl (.inl (.inr g)))); done) | ((have g : ¬ x1.2.1 > 2 := fun g => h2 (.inl (.inr g)); omega); done) | (exact away_fin ((specW q1_0 q1_1).1 (nn fun g => h2 (.inl (.inl (.inr g))))) (by have g : ¬ x1.2.1 > 2 := fun g => h2 (.inl (.inr g)); omega) (by have g : ¬ x1.2.2 > 2 := fun g => h2 (.inr g); omega) q2 q5; done)
abbrev Zee.S := Classical.choose Zee.X
def Zee.c : Ctr := fc 6 [false] Zee.L Zee Zee.S
theorem Zee.good : Good Try.prog Zee.c := mkFG (fn := Try.f6) {} Zee.X (consG Zd7.good (consG Zdl.good (consG Zde.good (consG Z0.good (consG Zec.good noG))))) (by kernel_rfl) (by kernel_rfl) (l0 (by kernel_rfl)) (c0 (by kernel_rfl)) fun s K => by kernel_rfl
end
end Hw
end Go.Proofs.Ytjcacgainbjopaa
