/- Maps: made by gen.py. -/
import Derived.Test.YtloicplgckomdaaE2
set_option linter.unusedVariables false
set_option linter.unusedSimpArgs false
set_option maxRecDepth 100000
set_option maxHeartbeats 400000
namespace Go.Proofs.Ytloicplgckomdaa
namespace Hw
open Go
noncomputable section
attribute [local irreducible] evFn evBody wrap wxor
theorem mp_put {l : List Int} {j x : Int} (h : j = (l.length : Int) + 1) : mpSet l j x = l ++ [x] := by
  unfold mpSet
  rw [decide_eq_false (by omega)]
  rfl
theorem mp_set {l : List Int} {j x : Int} (h : j ≤ (l.length : Int)) : mpSet l j x = l.set (j - 1).toNat x := by
  unfold mpSet
  rw [decide_eq_true h]
  rfl
abbrev CoinQ (k : Int) (f : Option Nat) (b : Bool) : Prop := (b = true ↔ k = 1 ∨ k = 2) ∧ (k = 1 → f = some 107) ∧ (k = 2 → f = some 108)
theorem mp_take {a b : List Int} {i x n : Int} (h0 : 0 ≤ i) (h1 : i < n) (hn : n = (b.length : Int)) (p : a = b.take i.toNat) (e : x = i + 1) : mpSet a x (b.getD i.toNat 0) = b.take x.toNat := by
  have hi : i.toNat < b.length := by omega
  have hl : a.length = i.toNat := by rw [p, List.length_take]; omega
  rw [mp_put (by omega), p, show x.toNat = i.toNat + 1 by omega, List.take_add_one, List.getD_eq_getElem?_getD, List.getElem?_eq_getElem hi]
  rfl
theorem mp_rng {a b : List Int} {i x n : Int} (h0 : 0 ≤ i) (h1 : i < n) (hn : n = (b.length : Int)) (p : a = b.take i.toNat) (e : x = i + 1) : 1 ≤ x ∧ x ≤ (a.length : Int) + 1 := by
  have hl : a.length = i.toNat := by rw [p, List.length_take]; omega
  omega
theorem mp_end {a b : List Int} {i n : Int} (h1 : ¬ i < n) (hn : n = (b.length : Int)) (p : a = b.take i.toNat) : a = b := by
  rw [p, List.take_of_length_le (by omega)]
theorem row_step {a b : List Int} {i x : Int} (h0 : 0 ≤ i) (hb : b.length = 3) (hi : i < 3) (p : ∀ k : Nat, (k : Int) < i → b.getD k 0 = a.getD k 0) (e : x = i + 1) : ∀ k : Nat, (k : Int) < x → (b.set i.toNat (a.getD (x - 1).toNat 0)).getD k 0 = a.getD k 0 := by
  intro k hk
  rw [List.getD_eq_getElem?_getD, List.getElem?_set]
  split
  · rename_i h
    rw [if_pos (by omega), show (x - 1).toNat = k by omega]
    rfl
  · rw [← List.getD_eq_getElem?_getD]
    exact p k (by omega)
theorem row_end {a b : List Int} {i : Int} (ha : a.length = 3) (hb : b.length = 3) (hi : ¬ i < 3) (p : ∀ k : Nat, (k : Int) < i → b.getD k 0 = a.getD k 0) : b = a := by
  refine List.ext_getElem (by omega) fun k h1 h2 => ?_
  have := p k (by omega)
  simpa only [List.getD_eq_getElem?_getD, List.getElem?_eq_getElem h1, List.getElem?_eq_getElem h2, Option.getD_some] using this
theorem bk_of {b : Bk} {x y : List Int} (h1 : x = b.own) (h2 : y = b.notes) : (⟨x, y, b.locked⟩ : Bk) = b := by
  rw [h1, h2]
theorem aw_user {f : Int} : Zx.S f = true ↔ 1 ≤ f ∧ f ≤ 3 := by
  unfold Zx.S
  grind
theorem parts_at {l : List Int} (h : Parts l) {f : Int} (hf : 1 ≤ f ∧ f ≤ 3) : 0 ≤ l.getD (f - 1).toNat 0 ∧ l.getD (f - 1).toNat 0 ≤ 30 := h.2 _ (by rw [h.1]; omega)
theorem bk_rng {b x : Bk} (e : x = b) (h : BkOk b) {f : Int} (hf : 1 ≤ f ∧ f ≤ 3) : x.own.length = 3 ∧ x.notes.length = 3 ∧ (0 ≤ x.own.getD (f - 1).toNat 0 ∧ x.own.getD (f - 1).toNat 0 ≤ 30) ∧ (0 ≤ x.notes.getD (f - 1).toNat 0 ∧ x.notes.getD (f - 1).toNat 0 ≤ 30) ∧ 0 ≤ x.locked ∧ x.locked ≤ 30 := by
  subst e
  obtain ⟨h1, h2, h3, h4, h5⟩ := h
  have t := h1.three
  refine ⟨h1.1, h2.1, parts_at h1 hf, parts_at h2 hf, h3, ?_⟩
  unfold tot at h4
  omega
theorem put_len {l : List Int} {f v : Int} (hl : l.length = 3) (hf : 1 ≤ f ∧ f ≤ 3) : (mpSet l f v).length = 3 := by
  rw [mp_set (by omega), List.length_set, hl]

def Zb7.L : FL := fCons (fAgg cLdg) (fNil)
def Zb7 : Bk × Unit → FR (Unit) := fun (a0, ()) => ⟨True, fun X => X (), fun r => True, fun r => (.v (.c (.mp 0)), [.mp a0.own, .mp a0.notes])⟩
theorem Zb7.X : XF Zb7 := mkF () fun (a0, ()) hp => by
  clear hp
  dsimp only [Zb7]
  refine May.ret trivial
  all_goals try dsimp only
  all_goals first | with_reducible assumption | omega | rfl | assumption | (simp only [List.length_append, List.length_cons, List.length_nil, List.length_set, List.length_replicate, Int.natCast_add, Int.natCast_one] at *; omega) | grind
abbrev Zb7.S := Classical.choose Zb7.X
def Zb7.c : Ctr := fc0 107 [false] Zb7.L Zb7 Zb7.S
theorem Zb7.good : Good Try.prog Zb7.c := mkFG0 (fn := Try.f107) {} Zb7.X noG (by kernel_rfl) (by kernel_rfl) (l0 (by kernel_rfl)) (c0 (by kernel_rfl)) (fun _ => trivial) fun s K => by kernel_rfl
def Zb8.L : FL := fCons (fAgg cLdg) (fNil)
def Zb8 : Bk × Unit → FR (Unit) := fun (a0, ()) => ⟨True, fun X => X (), fun r => True, fun r => (.v (.c (.mp 1)), [.mp a0.own, .mp a0.notes])⟩
theorem Zb8.X : XF Zb8 := mkF () fun (a0, ()) hp => by
  clear hp
  dsimp only [Zb8]
  refine May.ret trivial
  all_goals try dsimp only
  all_goals first | with_reducible assumption | omega | rfl | assumption | (simp only [List.length_append, List.length_cons, List.length_nil, List.length_set, List.length_replicate, Int.natCast_add, Int.natCast_one] at *; omega) | grind
abbrev Zb8.S := Classical.choose Zb8.X
def Zb8.c : Ctr := fc0 108 [false] Zb8.L Zb8 Zb8.S
theorem Zb8.good : Good Try.prog Zb8.c := mkFG0 (fn := Try.f108) {} Zb8.X noG (by kernel_rfl) (by kernel_rfl) (l0 (by kernel_rfl)) (c0 (by kernel_rfl)) (fun _ => trivial) fun s K => by kernel_rfl
theorem Zb9.G : GG [] := noG
def Zca.L : FL := fCons (fC cMap) (fCons (fC (cArr false kInts)) (fCons (fC cInt) (fCons (fC cInt) (fNil))))
def Zca : List Int × List Int × Int × Int × Unit → LR (List Int × List Int × Int × Int × Unit) (Nat × (List Int) × Unit) := fun (y0, y1, y2, y3, ()) => ⟨(0 ≤ y3) ∧ (y2 ≤ 9223372036854775807) ∧ (y2 = (y1.length : Int)) ∧ (y0 = y1.take y3.toNat) ∧ (y3 ≤ (y1.length : Int)) ∧ True, (y2 - y3).toNat, fun X => And (Imp ((decide (y3 < y2)) = true) (And ((0 : Int) ≤ y3 ∧ y3 < (y1.length : Int)) (Lt (wrap (y3 + 1)) fun x1 => And ((1 : Int) ≤ x1 ∧ x1 ≤ (y0.length : Int) + 1) (X (.inl (mpSet y0 x1 (y1.getD (y3).toNat 0), y1, y2, x1, ())))))) (Imp ((decide (y3 < y2)) = false) (X (.inr (0, y0, ())))), fun r => (r.2.1 = y1) ∧ True, fun r => [], fun r => (.exit 0, [.c (.mp 0)], [.mp r.2.1])⟩
theorem Zca.X : XL Zca := mkL (0, [], ()) fun (y0, y1, y2, y3, ()) hp => by
  obtain ⟨p0, p1, p2, p3, p4, -⟩ := hp
  unfold ML; dsimp only [Zca]
  refine May.iff (B.dec) (fun h1 => ?_) (fun h1 => ?_)
  refine May.chk ?_ fun c1 => May.lw ⟨?_, ?_⟩ fun x1 e1 => May.chk ?_ fun c2 => May.nx ⟨?_, ?_, ?_, ?_, ?_, trivial⟩ ?_ ?_ fun r => rfl; rotate_left 11
  refine May.ex ⟨?_, trivial⟩
  all_goals try dsimp only [Zca]
  all_goals first | with_reducible assumption | omega | exact fun _ q => q | (exact mp_end h1 p2 p3; done) | (exact mp_rng p0 h1 p2 p3 e1; done) | (exact mp_take p0 h1 p2 p3 e1; done)
abbrev Zca.R := Classical.choose Zca.X
def Zca.k : LCtr := (ld 3 [3, 7, 8, 9] [] Zca.L Zca 0 (fun _ => [3]) (fun _ => []) Zca.R).ctr
theorem Zca.g : LGood Try.prog Try.f109.ntmps Zca.k (bodyAt Try.f109 0) := mkLG {} Zca.X Zb9.G (by kernel_rfl) (l0 (by kernel_rfl)) (c0 (by kernel_rfl)) fun S s => by kernel_rfl
def Zb9.L : FL := fCons (fSh sInts) (fNil)
def Zb9 : List Int × Unit → FR ((List Int)) := fun (a0, ()) => ⟨(a0.length ≤ 1000) ∧ True, fun X => CallL Zca.X ([], a0, (a0.length : Int), 0, ()) fun x2 => X x2.2.1, fun r => (r = a0) ∧ True, fun r => (.v (.c (.mp 0)), [.mp r])⟩
theorem Zb9.X : XF Zb9 := mkF ([]) fun (a0, ()) hp => by
  obtain ⟨p0, -⟩ := hp
  dsimp only [Zb9]
  refine May.loop ⟨?_, ?_, ?_, ?_, ?_, trivial⟩ fun x2 q2 => have q2 := q2.1; May.ret ⟨?_, trivial⟩
  all_goals try dsimp only
  all_goals first | with_reducible assumption | omega | (with_reducible rfl; done) | (exact rfl; done)
abbrev Zb9.S := Classical.choose Zb9.X
def Zb9.c : Ctr := fc 109 [true] Zb9.L Zb9 Zb9.S
theorem Zb9.good : Good Try.prog Zb9.c := mkFG (fn := Try.f109) {LL := [Zca.k]} Zb9.X Zb9.G (by kernel_rfl) (by kernel_rfl) (lG (by kernel_rfl) (consL (by kernel_rfl) Zca.g (noL rfl))) (c0 (by kernel_rfl)) fun s K => by kernel_rfl
theorem Zcb.G : GG [] := noG
def Zcc.L : FL := fCons (fC cMap) (fCons (fC (cOwn kInts 3)) (fCons (fC cInt) (fCons (fC cInt) (fNil))))
def Zcc : List Int × List Int × Int × Int × Unit → LR (List Int × List Int × Int × Int × Unit) (Nat × (List Int) × Unit) := fun (y0, y1, y2, y3, ()) => ⟨(0 ≤ y3) ∧ (y2 ≤ 9223372036854775807) ∧ (y0.length = 3) ∧ (y1.length = 3) ∧ (y2 = 3) ∧ (∀ k : Nat, (k : Int) < y3 → y1.getD k 0 = y0.getD k 0) ∧ True, (y2 - y3).toNat, fun X => And (Imp ((decide (y3 < y2)) = true) (Lt (wrap (y3 + 1)) fun x1 => And ((1 : Int) ≤ x1) (And ((0 : Int) ≤ y3 ∧ y3 < (y1.length : Int)) (And ((y3).toNat < y1.length) (X (.inl (y0, y1.set (y3).toNat (y0.getD (x1 - 1).toNat 0), y2, x1, ()))))))) (Imp ((decide (y3 < y2)) = false) (X (.inr (0, y1, ())))), fun r => (r.2.1 = y0) ∧ True, fun r => [], fun r => (.exit 0, [.c (.own 0 1 3)], [.arr (.ints r.2.1)])⟩
theorem Zcc.X : XL Zcc := mkL (0, [], ()) fun (y0, y1, y2, y3, ()) hp => by
  obtain ⟨p0, p1, p2, p3, p4, p5, -⟩ := hp
  unfold ML; dsimp only [Zcc]
  refine May.iff (B.dec) (fun h1 => ?_) (fun h1 => ?_)
  refine May.lw ⟨?_, ?_⟩ fun x1 e1 => May.chk ?_ fun c1 => May.chk ?_ fun c2 => May.chk ?_ fun c3 => May.nx ⟨?_, ?_, ?_, ?_, ?_, ?_, trivial⟩ ?_ ?_ fun r => rfl; rotate_left 13
  refine May.ex ⟨?_, trivial⟩
  all_goals try dsimp only [Zcc]
  all_goals first | with_reducible assumption | omega | exact fun _ q => q | (exact row_end p2 p3 (by omega) p5; done) | (rw [List.length_set]; exact p3; done) | (exact row_step p0 p3 (by omega) p5 e1; done)
abbrev Zcc.R := Classical.choose Zcc.X
def Zcc.k : LCtr := (ld 3 [0, 3, 7, 8] [] Zcc.L Zcc 0 (fun _ => [3]) (fun _ => []) Zcc.R).ctr
theorem Zcc.g : LGood Try.prog Try.f110.ntmps Zcc.k (bodyAt Try.f110 0) := mkLG {} Zcc.X Zcb.G (by kernel_rfl) (l0 (by kernel_rfl)) (c0 (by kernel_rfl)) fun S s => by kernel_rfl
def Zcb.L : FL := fCons (fC cMap) (fNil)
def Zcb : List Int × Unit → FR ((List Int)) := fun (a0, ()) => ⟨(a0.length = 3) ∧ True, fun X => And ((3 : Int) = 3 ∧ (0 : Int) ≤ 3 ∧ (3 : Int) ≤ 4294967296) (CallL Zcc.X (a0, List.replicate 3 0, ((List.replicate 3 0).length : Int), 0, ()) fun x2 => X x2.2.1), fun r => (r = a0) ∧ True, fun r => (.v (.c (.own 1 1 3)), [.dead, .arr (.ints r)])⟩
theorem Zcb.X : XF Zcb := mkF ([]) fun (a0, ()) hp => by
  obtain ⟨p0, -⟩ := hp
  dsimp only [Zcb]
  refine May.chk ?_ fun c1 => May.loop ⟨?_, ?_, ?_, ?_, ?_, ?_, trivial⟩ fun x2 q2 => have q2 := q2.1; May.ret ⟨?_, trivial⟩
  all_goals try dsimp only
  all_goals first | with_reducible assumption | omega | (exact rfl; done) | (exact (by decide : ((List.replicate 3 (0 : Int)).length : Int) ≤ 9223372036854775807); done) | (intro k hk; omega; done)
abbrev Zcb.S := Classical.choose Zcb.X
def Zcb.c : Ctr := fc 110 [false] Zcb.L Zcb Zcb.S
theorem Zcb.good : Good Try.prog Zcb.c := mkFG (fn := Try.f110) {LL := [Zcc.k], sh := [[some (.int, 3)]]} Zcb.X Zcb.G (by kernel_rfl) (by kernel_rfl) (lG (by kernel_rfl) (consL (by kernel_rfl) Zcc.g (noL rfl))) (c0 (by kernel_rfl)) fun s K => by kernel_rfl
def Zcd.L : FL := fCons (fSh sBk) (fNil)
def Zcd : Bk × Unit → FR (Bk) := fun (a0, ()) => ⟨(a0.own.length ≤ 1000) ∧ (a0.notes.length ≤ 1000) ∧ True, fun X => Call Zb9.X (a0.own, ()) fun x1 => Call Zb9.X (a0.notes, ()) fun x2 => X (⟨x1, x2, a0.locked⟩ : Bk), fun r => (r = a0) ∧ True, fun r => (.v (.agg [.mp 0, .mp 1, .int r.locked]), [.mp r.own, .mp r.notes])⟩
theorem Zcd.X : XF Zcd := mkF (zBk) fun (a0, ()) hp => by
  obtain ⟨p0, p1, -⟩ := hp
  dsimp only [Zcd]
  refine May.call ⟨?_, trivial⟩ fun x1 q1 => have q1 := q1.1; May.call ⟨?_, trivial⟩ fun x2 q2 => have q2 := q2.1; May.ret ⟨?_, trivial⟩
  all_goals try dsimp only
  all_goals first | with_reducible assumption | omega | (exact bk_of q1 q2; done)
abbrev Zcd.S := Classical.choose Zcd.X
def Zcd.c : Ctr := fc 73 [true] Zcd.L Zcd Zcd.S
theorem Zcd.good : Good Try.prog Zcd.c := mkFG (fn := Try.f73) {} Zcd.X (consG Zb9.good noG) (by kernel_rfl) (by kernel_rfl) (l0 (by kernel_rfl)) (c0 (by kernel_rfl)) fun s K => by kernel_rfl
def Zce.L : FL := fCons (fAgg cLdg) (fNil)
def Zce : Bk × Unit → FR (Bk) := fun (a0, ()) => ⟨(a0.own.length = 3) ∧ (a0.notes.length = 3) ∧ True, fun X => Call Zcb.X (a0.own, ()) fun x1 => Call Zcb.X (a0.notes, ()) fun x2 => X (⟨x1, x2, a0.locked⟩ : Bk), fun r => (r = a0) ∧ True, fun r => (.v (.agg [.own 2 1 3, .own 3 1 3, .int r.locked]), [.dead, .dead, .arr (.ints r.own), .arr (.ints r.notes)])⟩
theorem Zce.X : XF Zce := mkF (zBk) fun (a0, ()) hp => by
  obtain ⟨p0, p1, -⟩ := hp
  dsimp only [Zce]
  refine May.call ⟨?_, trivial⟩ fun x1 q1 => have q1 := q1.1; May.call ⟨?_, trivial⟩ fun x2 q2 => have q2 := q2.1; May.ret ⟨?_, trivial⟩
  all_goals try dsimp only
  all_goals first | with_reducible assumption | omega | (exact bk_of q1 q2; done)
abbrev Zce.S := Classical.choose Zce.X
def Zce.c : Ctr := fc 75 [false] Zce.L Zce Zce.S
theorem Zce.good : Good Try.prog Zce.c := mkFG (fn := Try.f75) {sh := [[some (.int, 3), some (.int, 3), none]]} Zce.X (consG Zcb.good noG) (by kernel_rfl) (by kernel_rfl) (l0 (by kernel_rfl)) (c0 (by kernel_rfl)) fun s K => by kernel_rfl
def Zcf.L : FL := fCons (fSh sInt) (fNil)
def Zcf : Int × Unit → FR ((Option Nat) × Bool) := fun (a0, ()) => ⟨True, fun X => And (Imp ((a0 == 1) = true) (X (some 107, true))) (Imp ((a0 == 1) = false) (And (Imp ((a0 == 2) = true) (X (some 108, true))) (Imp ((a0 == 2) = false) (X (none, false))))), fun r => (CoinQ a0 r.1 r.2) ∧ True, fun r => (.tup [.c (.fnv r.1), .c (.bool r.2)], [])⟩
theorem Zcf.X : XF Zcf := mkF (none, false) fun (a0, ()) hp => by
  clear hp
  dsimp only [Zcf]
  refine May.iff (B.eq) (fun h1 => ?_) (fun h1 => ?_)
  refine May.ret ⟨?_, trivial⟩; rotate_left 1
  refine May.iff (B.eq) (fun h2 => ?_) (fun h2 => ?_)
  refine May.ret ⟨?_, trivial⟩; rotate_left 1
  refine May.ret ⟨?_, trivial⟩
  all_goals try dsimp only
  all_goals first | with_reducible assumption | omega | (exact ⟨⟨fun g => (by cases g), fun g => (by omega)⟩, fun g => (by omega), fun g => (by omega)⟩; done) | (exact ⟨⟨fun _ => .inl h1, fun _ => rfl⟩, fun _ => rfl, fun g => (by omega)⟩; done) | (exact ⟨⟨fun _ => .inr h2, fun _ => rfl⟩, fun g => (by omega), fun _ => rfl⟩; done)
abbrev Zcf.S := Classical.choose Zcf.X
def Zcf.c : Ctr := fc0 70 [false] Zcf.L Zcf Zcf.S
theorem Zcf.good : Good Try.prog Zcf.c := mkFG0 (fn := Try.f70) {} Zcf.X noG (by kernel_rfl) (by kernel_rfl) (l0 (by kernel_rfl)) (c0 (by kernel_rfl)) (fun _ => trivial) fun s K => by kernel_rfl
end
end Hw
end Go.Proofs.Ytloicplgckomdaa
