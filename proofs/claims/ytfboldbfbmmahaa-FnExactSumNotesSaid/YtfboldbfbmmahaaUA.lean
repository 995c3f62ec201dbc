/- Sums of what is away: made by gen.py. -/
import Derived.Test.YtfboldbfbmmahaaUW
import Derived.Test.YtfboldbfbmmahaaG5
set_option linter.unusedVariables false
set_option linter.unusedSimpArgs false
set_option maxRecDepth 100000
set_option maxHeartbeats 400000
namespace Go.Proofs.Ytfboldbfbmmahaa
namespace Hw
open Go
noncomputable section
attribute [local irreducible] evFn evBody wrap wxor
def awayF (s o : St) (k : Int) : Nat → Int
  | 0 => 0
  | n + 1 => awayF s o k n + (if (s.sent.getD n zPkt).kind = k ∧ s.live.getD n false = true ∧ ¬ o.got.getD n 0 = 1 then (s.sent.getD n zPkt).sum else 0)
theorem awayF_rng {s o : St} {k : Int} (h : StOk s) : ∀ {n : Nat}, n ≤ s.sent.length → 0 ≤ awayF s o k n ∧ awayF s o k n ≤ 9 * (n : Int) := by
  intro n
  induction n with
  | zero => intro _; exact ⟨Int.le_refl _, Int.le_refl _⟩
  | succ n ih =>
    intro hn
    have h1 := ih (by omega)
    have h2 := (stK5 h (i := (n : Int)) (by omega) (by omega)).1.2.2.2.2.1
    rw [awayF]
    split
    · have e : ((n : Int)).toNat = n := by omega
      rw [e] at h2
      omega
    · omega
def stAt (w : List Ch) (n : Int) : St := (w.getD n.toNat zCh).st
abbrev awaysW (w : List Ch) (n k : Int) : Int := awayF (stAt w (n - 1)) (stAt w (2 - n)) k (stAt w (n - 1)).sent.length
abbrev AwQ (w : List Ch) (n k r : Int) : Prop := (WOk w ∧ (1 ≤ n ∧ n ≤ 2) ∧ (k = 1 ∨ k = 2) → r = awaysW w n k) ∧ (¬ (WOk w ∧ (1 ≤ n ∧ n ≤ 2) ∧ (k = 1 ∨ k = 2)) → r = -1)
def notesW (w : List Ch) (n : Int) : Int := tot (w.getD (2 - n).toNat zCh).bank.notes + awaysW w n 1 + awaysW w (3 - n) 2
abbrev NtQ (w : List Ch) (n r : Int) : Prop := (WOk w ∧ (1 ≤ n ∧ n ≤ 2) → r = notesW w n) ∧ (¬ (WOk w ∧ (1 ≤ n ∧ n ≤ 2)) → r = -1)
theorem wok_ch {w : List Ch} (h : WOk w) {i : Int} (h0 : 0 ≤ i) (h1 : i ≤ 1) : ChOk (w.getD i.toNat zCh) := (h.2 i.toNat (by omega)).1
theorem wok_st {w : List Ch} (h : WOk w) {i : Int} (h0 : 0 ≤ i) (h1 : i ≤ 1) : StOk (stAt w i) := (wok_ch h h0 h1).2.2.1
theorem away_t {s o : St} {k y i j : Int} (h0 : 0 ≤ i) (ej : j = i + 1) (e : y = awayF s o k i.toNat) (h : ((s.sent.getD i.toNat zPkt).kind = k ∧ s.live.getD i.toNat false = true) ∧ ¬ o.got.getD i.toNat 0 = 1) : y + (s.sent.getD i.toNat zPkt).sum = awayF s o k j.toNat := by
  rw [show j.toNat = i.toNat + 1 by omega, awayF, if_pos ⟨h.1.1, h.1.2, h.2⟩, e]
theorem away_f {s o : St} {k y i j : Int} (h0 : 0 ≤ i) (ej : j = i + 1) (e : y = awayF s o k i.toNat) (h : ¬ (((s.sent.getD i.toNat zPkt).kind = k ∧ s.live.getD i.toNat false = true) ∧ ¬ o.got.getD i.toNat 0 = 1)) : y = awayF s o k j.toNat := by
  rw [show j.toNat = i.toNat + 1 by omega, awayF, if_neg (fun g => h ⟨⟨g.1, g.2.1⟩, g.2.2⟩), e]
  omega
theorem wok_len {w : List Ch} (h : WOk w) : w.length = 2 := h.1
theorem awQ_t {w : List Ch} {n k r : Int} (hw : WOk w) (hn : 1 ≤ n ∧ n ≤ 2) (hk : 1 ≤ k ∧ k ≤ 2) (e : r = awaysW w n k) : AwQ w n k r := ⟨fun _ => e, fun g => absurd ⟨hw, hn, by omega⟩ g⟩
theorem awQ_n {w : List Ch} {n k : Int} (h : ¬ (WOk w ∧ (1 ≤ n ∧ n ≤ 2) ∧ (k = 1 ∨ k = 2))) : AwQ w n k (-1) := ⟨fun g => absurd g h, fun _ => rfl⟩
theorem ntQ_n {w : List Ch} {n : Int} (h : ¬ (WOk w ∧ (1 ≤ n ∧ n ≤ 2))) : NtQ w n (-1) := ⟨fun g => absurd g h, fun _ => rfl⟩
theorem awaysW_rng {w : List Ch} {n k : Int} (h : WOk w) (hn : 1 ≤ n ∧ n ≤ 2) : 0 ≤ awaysW w n k ∧ awaysW w n k ≤ 72 := by
  have hs := wok_st h (i := n - 1) (by omega) (by omega)
  have h1 := awayF_rng (o := stAt w (2 - n)) (k := k) hs (Nat.le_refl _)
  have h2 := hs.2.2.1
  unfold awaysW
  omega
theorem notes_at {w : List Ch} {n x : Int} (h : WOk w) (hn : 1 ≤ n ∧ n ≤ 2) (ex : x = 2 - n) : Zu.S (w.getD x.toNat zCh).bank.notes = tot (w.getD (2 - n).toNat zCh).bank.notes ∧ 0 ≤ tot (w.getD (2 - n).toNat zCh).bank.notes ∧ tot (w.getD (2 - n).toNat zCh).bank.notes ≤ 30 := by
  subst ex
  have hb := (wok_ch h (i := 2 - n) (by omega) (by omega)).2.1
  have h3 := hb.2.1.three
  refine ⟨specAll hb.2.1, ?_, hb.2.2.2.2⟩
  unfold tot
  omega
theorem ntQ_t {w : List Ch} {n r x : Int} (hw : WOk w) (hn : 1 ≤ n ∧ n ≤ 2) (ex : x = 2 - n) (e : r = Zu.S (w.getD x.toNat zCh).bank.notes + awaysW w n 1 + awaysW w (3 - n) 2) : NtQ w n r := by
  refine ⟨fun _ => ?_, fun g => absurd ⟨hw, hn⟩ g⟩
  rw [e, (notes_at hw hn ex).1]
  rfl
theorem awQ_eq {w : List Ch} {n k a b : Int} (h : AwQ w n k a) (h' : AwQ w n k b) : a = b := by
  by_cases g : WOk w ∧ (1 ≤ n ∧ n ≤ 2) ∧ (k = 1 ∨ k = 2)
  · exact (h.1 g).trans (h'.1 g).symm
  · exact (h.2 g).trans (h'.2 g).symm
theorem ntQ_eq {w : List Ch} {n a b : Int} (h : NtQ w n a) (h' : NtQ w n b) : a = b := by
  by_cases g : WOk w ∧ (1 ≤ n ∧ n ≤ 2)
  · exact (h.1 g).trans (h'.1 g).symm
  · exact (h.2 g).trans (h'.2 g).symm

def Zdb.L : FL := fCons (fSh sInt) (fNil)
def Zdb : Int × Unit → FR (Bool) := fun (a0, ()) => ⟨True, fun X => Lt (bif decide (a0 ≥ 1) then decide (a0 ≤ 2) else false) fun x1 => X x1, fun r => (r = true ↔ 1 ≤ a0 ∧ a0 ≤ 2) ∧ True, fun r => (.v (.c (.bool r)), [])⟩
theorem Zdb.X : XF Zdb := mkF (false) fun (a0, ()) hp => by
  clear hp
  dsimp only [Zdb]
  refine May.lp (B.and (B.dec) (B.dec)) fun x1 e1 => May.ret ⟨?_, trivial⟩
  all_goals try dsimp only
  all_goals first | with_reducible assumption | omega | rfl | assumption | (simp only [List.length_append, List.length_cons, List.length_nil, List.length_set, List.length_replicate, Int.natCast_add, Int.natCast_one] at *; omega) | grind
abbrev Zdb.S := Classical.choose Zdb.X
def Zdb.c : Ctr := fc0 49 [false] Zdb.L Zdb Zdb.S
theorem Zdb.good : Good Try.prog Zdb.c := mkFG0 (fn := Try.f49) {} Zdb.X noG (by kernel_rfl) (by kernel_rfl) (l0 (by kernel_rfl)) (c0 (by kernel_rfl)) (fun _ => trivial) fun s K => by kernel_rfl
theorem Zdc.G : GG [] := noG
def Zdd.L : FL := fCons (fC cInt) (fCons (fC cInt) (fCons (fC (cPtr 1 (cStE false) rfl)) (fCons (fC (cPtr 1 (cStE false) rfl)) (fCons (fC cInt) (fNil)))))
def Zdd : Int × Int × St × St × Int × Unit → LR (Int × Int × St × St × Int × Unit) (Nat × Int × Unit) := fun (y0, y1, y2, y3, y4, ()) => ⟨(0 ≤ y4) ∧ ((y2.sent.length : Int) ≤ 9223372036854775807) ∧ (StOk y2) ∧ (StOk y3) ∧ (y1 = awayF y2 y3 y0 y4.toNat) ∧ (y4 ≤ (y2.sent.length : Int)) ∧ True, ((y2.sent.length : Int) - y4).toNat, fun X => And (Imp ((decide (y4 < (y2.sent.length : Int))) = true) (And ((0 : Int) ≤ y4 ∧ y4 < (y2.sent.length : Int)) (And (Imp (And (((y2.sent.getD (y4).toNat zPkt).kind == y0) = true) (True)) ((0 : Int) ≤ y4 ∧ y4 < (y2.live.length : Int))) (Lt (bif (y2.sent.getD (y4).toNat zPkt).kind == y0 then y2.live.getD (y4).toNat false else false) fun x3 => And (Imp (And (x3 = true) (True)) ((0 : Int) ≤ y4 ∧ y4 < (y3.got.length : Int))) (Lt (bif x3 then (y3.got.getD (y4).toNat 0) != 1 else false) fun x4 => And (Imp (x4 = true) (And ((0 : Int) ≤ y4 ∧ y4 < (y2.sent.length : Int)) (Lt (wrap (y1 + (y2.sent.getD (y4).toNat zPkt).sum)) fun x5 => Lt (wrap (y4 + 1)) fun x6 => X (.inl (y0, x5, y2, y3, x6, ()))))) (Imp (x4 = false) (Lt (wrap (y4 + 1)) fun x7 => X (.inl (y0, y1, y2, y3, x7, ()))))))))) (Imp ((decide (y4 < (y2.sent.length : Int))) = false) (X (.inr (0, y1, ())))), fun r => (r.2.1 = awayF y2 y3 y0 y2.sent.length) ∧ True, fun r => [], fun r => (.exit 0, [.c (.int r.2.1)], [])⟩
theorem Zdd.X : XL Zdd := mkL (0, 0, ()) fun (y0, y1, y2, y3, y4, ()) hp => by
  obtain ⟨p0, p1, p2, p3, p4, p5, -⟩ := hp
  unfold ML; dsimp only [Zdd]
  refine May.iff (B.dec) (fun h1 => ?_) (fun h1 => ?_)
  refine May.chk ?_ fun c1 => May.chk (fun hπ => have g1 := Iff.mp (B.eq) hπ.1; ?_) fun c2 => May.lp (B.and (B.eq) (Iff.rfl)) fun x3 e3 => May.chk (fun hπ => have g1 := Iff.mp (e3) hπ.1; ?_) fun c3 => May.lp (B.and (e3) (B.ne)) fun x4 e4 => May.iff (e4) (fun h2 => ?_) (fun h2 => ?_); rotate_left 3
  refine May.chk ?_ fun c4 => May.lw ⟨?_, ?_⟩ fun x5 e5 => May.lw ⟨?_, ?_⟩ fun x6 e6 => May.nx ⟨?_, ?_, ?_, ?_, ?_, ?_, trivial⟩ ?_ ?_ fun r => rfl; rotate_left 13
  refine May.lw ⟨?_, ?_⟩ fun x7 e7 => May.nx ⟨?_, ?_, ?_, ?_, ?_, ?_, trivial⟩ ?_ ?_ fun r => rfl; rotate_left 10
  refine May.ex ⟨?_, trivial⟩
  all_goals try dsimp only [Zdd]
  all_goals first | with_reducible assumption | omega | exact fun _ q => q | ((rw [p4, show y4.toNat = y2.sent.length by omega]); done) | ((have := p2.2.2.2.1; omega); done) | ((have := p3.2.2.2.2.2.1; have := p2.2.2.1; omega); done) | ((have := awayF_rng (o := y3) (k := y0) p2 (n := y4.toNat) (by omega); have := (stK5 p2 (i := y4) (by omega) (by omega)).1.2.2.2.2.1; have := p2.2.2.1; omega); done) | ((rw [e5]; exact away_t p0 e6 p4 h2); done) | (exact away_f p0 e7 p4 h2; done) | (exact Int.le_refl _; done)
abbrev Zdd.R := Classical.choose Zdd.X
def Zdd.k : LCtr := (ld 5 [2, 7, 8, 9, 10] [] Zdd.L Zdd 0 (fun _ => [7]) (fun _ => []) Zdd.R).ctr
theorem Zdd.g : LGood Try.prog Try.f48.ntmps Zdd.k (bodyAt Try.f48 0) := mkLG {} Zdd.X Zdc.G (by kernel_rfl) (l0 (by kernel_rfl)) (c0 (by kernel_rfl)) fun S s => by kernel_rfl
def Zdc.L : FL := fCons (fSh sW) (fCons (fSh sInt) (fCons (fSh sInt) (fNil)))
def Zdc : List Ch × Int × Int × Unit → FR (Int) := fun (a0, a1, a2, ()) => ⟨(WOk a0) ∧ (1 ≤ a1 ∧ a1 ≤ 2) ∧ True, fun X => Lt (wrap (a1 - 1)) fun x1 => And ((0 : Int) ≤ x1 ∧ x1 < (a0.length : Int)) (Lt (wrap (2 - a1)) fun x2 => And ((0 : Int) ≤ x2 ∧ x2 < (a0.length : Int)) (CallL Zdd.X (a2, 0, (a0.getD (x1).toNat zCh).st, (a0.getD (x2).toNat zCh).st, 0, ()) fun x8 => X x8.2.1)), fun r => (r = awaysW a0 a1 a2) ∧ True, fun r => (.v (.c (.int r)), [])⟩
theorem Zdc.X : XF Zdc := mkF (0) fun (a0, a1, a2, ()) hp => by
  obtain ⟨p0, p1, -⟩ := hp
  dsimp only [Zdc]
  refine May.lw ⟨?_, ?_⟩ fun x1 e1 => May.chk ?_ fun c1 => May.lw ⟨?_, ?_⟩ fun x2 e2 => May.chk ?_ fun c2 => May.loop ⟨?_, ?_, ?_, ?_, ?_, ?_, trivial⟩ fun x8 q8 => have q8 := q8.1; May.ret ⟨?_, trivial⟩
  all_goals try dsimp only
  all_goals first | with_reducible assumption | omega | ((have := wok_len p0; omega); done) | ((have := (wok_st p0 (i := x1) (by omega) (by omega)).2.2.1; unfold stAt at this; omega); done) | ((have := wok_st p0 (i := x1) (by omega) (by omega); exact this); done) | ((have := wok_st p0 (i := x2) (by omega) (by omega); exact this); done) | (rfl; done) | ((rw [q8, e1, e2]; rfl); done)
abbrev Zdc.S := Classical.choose Zdc.X
def Zdc.c : Ctr := fc 48 [true, false, false] Zdc.L Zdc Zdc.S
theorem Zdc.good : Good Try.prog Zdc.c := mkFG (fn := Try.f48) {LL := [Zdd.k]} Zdc.X Zdc.G (by kernel_rfl) (by kernel_rfl) (lG (by kernel_rfl) (consL (by kernel_rfl) Zdd.g (noL rfl))) (c0 (by kernel_rfl)) fun s K => by kernel_rfl
def Zde.L : FL := fCons (fSh sW) (fCons (fSh sInt) (fCons (fSh sInt) (fNil)))
def Zde : List Ch × Int × Int × Unit → FR (Int) := fun (a0, a1, a2, ()) => ⟨(chsFact a0) ∧ (chsRng a0) ∧ True, fun X => Lt (bif !(Z0.S a0) then true else !(Zi.S a1 1 2)) fun x1 => And (Imp ((bif x1 then true else !(Zi.S a2 1 2)) = true) (X (-1))) (Imp ((bif x1 then true else !(Zi.S a2 1 2)) = false) (Call Zdc.X (a0, a1, a2, ()) fun x2 => X x2)), fun r => (AwQ a0 a1 a2 r) ∧ True, fun r => (.v (.c (.int r)), [])⟩
theorem Zde.X : XF Zde := mkF (0) fun (a0, a1, a2, ()) hp => by
  obtain ⟨p0, p1, -⟩ := hp
  dsimp only [Zde]
  refine May.lp (B.or (B.not (Iff.rfl)) (B.not (in_iff))) fun x1 e1 => May.iff (B.or (e1) (B.not (in_iff))) (fun h1 => ?_) (fun h1 => ?_)
  refine May.ret ⟨?_, trivial⟩; rotate_left 1
  refine May.call ⟨?_, ?_, trivial⟩ fun x2 q2 => have q2 := q2.1; May.ret ⟨?_, trivial⟩
  all_goals try dsimp only
  all_goals first | with_reducible assumption | omega | (exact (specW p0 p1).1 (nn fun g => h1 (.inl (.inl g))); done) | (exact nn fun g => h1 (.inl (.inr g)); done) | (exact awQ_t ((specW p0 p1).1 (nn fun g => h1 (.inl (.inl g)))) (nn fun g => h1 (.inl (.inr g))) (nn fun g => h1 (.inr g)) q2; done) | (exact awQ_n fun g => h1.elim (fun h => h.elim (fun h => h ((specW p0 p1).2 g.1)) fun h => h g.2.1) fun h => (by omega); done)
abbrev Zde.S := Classical.choose Zde.X
def Zde.c : Ctr := fc 17 [true, false, false] Zde.L Zde Zde.S
theorem Zde.good : Good Try.prog Zde.c := mkFG (fn := Try.f17) {} Zde.X (consG Z0.good (consG Zi.good (consG Zdc.good noG))) (by kernel_rfl) (by kernel_rfl) (l0 (by kernel_rfl)) (c0 (by kernel_rfl)) fun s K => by kernel_rfl
def Zdf.L : FL := fCons (fSh sW) (fCons (fSh sInt) (fNil))
def Zdf : List Ch × Int × Unit → FR (Int) := fun (a0, a1, ()) => ⟨(chsFact a0) ∧ (chsRng a0) ∧ True, fun X => Lt (bif !(Z0.S a0) then true else !(Zi.S a1 1 2)) fun x1 => And (Imp (x1 = true) (X (-1))) (Imp (x1 = false) (Lt (wrap (2 - a1)) fun x2 => And ((0 : Int) ≤ x2 ∧ x2 < (a0.length : Int)) (Call Zdc.X (a0, a1, 1, ()) fun x3 => Lt (wrap ((Zu.S (a0.getD (x2).toNat zCh).bank.notes) + x3)) fun x4 => Lt (wrap (3 - a1)) fun x5 => Call Zdc.X (a0, x5, 2, ()) fun x6 => Lt (wrap (x4 + x6)) fun x7 => X x7))), fun r => (NtQ a0 a1 r) ∧ True, fun r => (.v (.c (.int r)), [])⟩
theorem Zdf.X : XF Zdf := mkF (0) fun (a0, a1, ()) hp => by
  obtain ⟨p0, p1, -⟩ := hp
  dsimp only [Zdf]
  refine May.lp (B.or (B.not (Iff.rfl)) (B.not (in_iff))) fun x1 e1 => May.iff (e1) (fun h1 => ?_) (fun h1 => ?_)
  refine May.ret ⟨?_, trivial⟩; rotate_left 1
  refine May.lw ⟨?_, ?_⟩ fun x2 e2 => May.chk ?_ fun c1 => May.call ⟨?_, ?_, trivial⟩ fun x3 q3 => have q3 := q3.1; May.lw ⟨?_, ?_⟩ fun x4 e4 => May.lw ⟨?_, ?_⟩ fun x5 e5 => May.call ⟨?_, ?_, trivial⟩ fun x6 q6 => have q6 := q6.1; May.lw ⟨?_, ?_⟩ fun x7 e7 => May.ret ⟨?_, trivial⟩
  all_goals try dsimp only
  all_goals first | with_reducible assumption | omega | (exact (specW p0 p1).1 (nn fun g => h1 (.inl g)); done) | (exact nn fun g => h1 (.inr g); done) | ((have hn := nn fun g => h1 (.inr g); have := wok_len ((specW p0 p1).1 (nn fun g => h1 (.inl g))); omega); done) | (exact ntQ_n fun g => h1.elim (fun h => h ((specW p0 p1).2 g.1)) fun h => h g.2; done) | ((have hn := nn fun g => h1 (.inr g); have hw := (specW p0 p1).1 (nn fun g => h1 (.inl g)); have z1 := notes_at hw hn e2; have z2 := awaysW_rng (k := 1) hw hn; omega); done) | ((have hn := nn fun g => h1 (.inr g); have hw := (specW p0 p1).1 (nn fun g => h1 (.inl g)); have z1 := notes_at hw hn e2; have z2 := awaysW_rng (k := 1) hw hn; have z3 := awaysW_rng (n := x5) (k := 2) hw (by omega); omega); done) | ((have hn := nn fun g => h1 (.inr g); have hw := (specW p0 p1).1 (nn fun g => h1 (.inl g)); exact ntQ_t hw hn e2 (by rw [e7, e4, q3, q6, e5])); done)
abbrev Zdf.S := Classical.choose Zdf.X
def Zdf.c : Ctr := fc 19 [true, false] Zdf.L Zdf Zdf.S
theorem Zdf.good : Good Try.prog Zdf.c := mkFG (fn := Try.f19) {} Zdf.X (consG Z0.good (consG Zi.good (consG Zu.good (consG Zdc.good noG)))) (by kernel_rfl) (by kernel_rfl) (l0 (by kernel_rfl)) (c0 (by kernel_rfl)) fun s K => by kernel_rfl
end
end Hw
end Go.Proofs.Ytfboldbfbmmahaa
