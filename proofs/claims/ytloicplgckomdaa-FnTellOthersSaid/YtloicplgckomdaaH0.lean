/- States that are the same: made by gen.py. -/
import Derived.Test.YtloicplgckomdaaE13
set_option linter.unusedVariables false
set_option linter.unusedSimpArgs false
set_option maxRecDepth 100000
set_option maxHeartbeats 400000
namespace Go.Proofs.Ytloicplgckomdaa
namespace Hw
open Go
noncomputable section
attribute [local irreducible] evFn evBody wrap wxor
theorem l_ne {α : Type} {d : α} {a b : List α} {i : Nat} (h : ¬ a.getD i d = b.getD i d) : ¬ a = b := fun e => h (by rw [e])
theorem l_eq {α : Type} {d : α} {a b : List α} {i : Int} (hl : (a.length : Int) = (b.length : Int)) (hi : ¬ i < (a.length : Int)) (h : ∀ k : Nat, (k : Int) < i → a.getD k d = b.getD k d) : a = b := by
  refine List.ext_getElem (by omega) fun k h1 h2 => ?_
  have := h k (by omega)
  simpa only [List.getD_eq_getElem?_getD, List.getElem?_eq_getElem h1, List.getElem?_eq_getElem h2, Option.getD_some] using this
theorem l_step {α : Type} {d : α} {a b : List α} {i j : Int} (hj : j = i + 1) (h0 : 0 ≤ i) (h : ∀ k : Nat, (k : Int) < i → a.getD k d = b.getD k d) (he : a.getD i.toNat d = b.getD i.toNat d) : ∀ k : Nat, (k : Int) < j → a.getD k d = b.getD k d := fun k hk => by
  rcases Int.lt_or_le k i with h1 | h1
  · exact h k h1
  · rw [show k = i.toNat by omega]
    exact he
theorem sz_lt {s : St} (h : SZ s) : s.lt := by
  unfold SZ at h
  unfold St.lt
  omega
theorem stOk_lt {s : St} (h : StOk s) : s.lt := by
  have := stOk_in h
  unfold SIn at this
  unfold St.lt
  omega
theorem st_ext {a b : St} (h1 : a.way = b.way) (h2 : a.ver = b.ver) (h3 : a.want = b.want) (h4 : a.sent = b.sent) (h5 : a.live = b.live) (h6 : a.back = b.back) (h7 : a.got = b.got) : a = b := by
  cases a
  cases b
  simp_all
theorem lwSt {a b : St} {x y z : Bool} {p : Prop} (h : ¬(((¬a.way = b.way ∨ ¬a.ver = b.ver) ∨ ¬a.want = b.want) ∨ p)) (hs : a.sent = b.sent) (q1 : x = true ↔ a.live = b.live) (q2 : y = true ↔ a.back = b.back) (q3 : z = true ↔ a.got = b.got) : (bif bif x then y else false then z else false) = true ↔ a = b := by
  rw [B.and (B.and q1 q2) q3]
  refine ⟨fun g => st_ext ?_ ?_ ?_ hs g.1.1 g.1.2 g.2, fun g => by subst g; exact ⟨⟨rfl, rfl⟩, rfl⟩⟩
  · exact Classical.byContradiction fun g => h (.inl (.inl (.inl g)))
  · exact Classical.byContradiction fun g => h (.inl (.inl (.inr g)))
  · exact Classical.byContradiction fun g => h (.inl (.inr g))

theorem Za.G : GG [] := noG
def Zb.L : FL := fCons (fC (cArr false kInts)) (fCons (fC (cArr false kInts)) (fCons (fC cBool) (fCons (fC cInt) (fNil))))
def Zb : List Int × List Int × Bool × Int × Unit → LR (List Int × List Int × Bool × Int × Unit) (Nat × Bool × Unit) := fun (y0, y1, y2, y3, ()) => ⟨(0 ≤ y3) ∧ ((y0.length : Int) ≤ 9223372036854775807) ∧ (((y0.length : Int) != (y1.length : Int)) = false) ∧ ((y0.length : Int) = (y1.length : Int)) ∧ (∀ k : Nat, (k : Int) < y3 → y0.getD k 0 = y1.getD k 0) ∧ True, ((y0.length : Int) - y3).toNat, fun X => And (Imp ((decide (y3 < (y0.length : Int))) = true) (And ((0 : Int) ≤ y3 ∧ y3 < (y0.length : Int)) (And ((0 : Int) ≤ y3 ∧ y3 < (y1.length : Int)) (Lt ((y0.getD (y3).toNat 0) != (y1.getD (y3).toNat 0)) fun x1 => And (Imp (x1 = true) (X (.inr (0, false, ())))) (Imp (x1 = false) (Lt (wrap (y3 + 1)) fun x2 => X (.inl (y0, y1, y2, x2, ())))))))) (Imp ((decide (y3 < (y0.length : Int))) = false) (X (.inr (1, false, ())))), fun r => (r.1 = 0 → r.2.1 = false ∧ ¬ y0 = y1) ∧ (¬ r.1 = 0 → y0 = y1) ∧ True, fun r => [(Nat.beq r.1 0, (.ret, [.c (.bool r.2.1)], []))], fun r => (.exit 0, [], [])⟩
theorem Zb.X : XL Zb := mkL (0, false, ()) fun (y0, y1, y2, y3, ()) hp => by
  obtain ⟨p0, p1, p2, p3, p4, -⟩ := hp
  unfold ML; dsimp only [Zb]
  refine May.iff (B.dec) (fun h1 => ?_) (fun h1 => ?_)
  refine May.chk ?_ fun c1 => May.chk ?_ fun c2 => May.lp (B.ne) fun x1 e1 => May.iff (e1) (fun h2 => ?_) (fun h2 => ?_); rotate_left 2
  refine May.ex ⟨?_, ?_, trivial⟩; rotate_left 2
  refine May.lw ⟨?_, ?_⟩ fun x2 e2 => May.nx ⟨?_, ?_, ?_, ?_, ?_, trivial⟩ ?_ ?_ fun r => rfl; rotate_left 9
  refine May.ex ⟨?_, ?_, trivial⟩
  all_goals try dsimp only [Zb]
  all_goals first | with_reducible assumption | omega | exact fun _ q => q | (exact fun h => ⟨rfl, l_ne (by assumption)⟩; done) | (exact fun _ => l_eq (by assumption) (by assumption) (by assumption); done) | (exact l_step (by assumption) (by omega) (by assumption) (by grind); done) | (intro k hk; omega; done) | rfl | assumption | (simp only [List.length_append, List.length_cons, List.length_nil, List.length_set, List.length_replicate, Int.natCast_add, Int.natCast_one] at *; omega) | grind
abbrev Zb.R := Classical.choose Zb.X
def Zb.k : LCtr := (ld 4 [0, 1, 4, 5] [] Zb.L Zb 0 (fun e => match e with | .ret => [4] | _ => []) (fun _ => []) Zb.R).ctr
theorem Zb.g : LGood Try.prog Try.f25.ntmps Zb.k (bodyAt Try.f25 0) := mkLG {} Zb.X Za.G (by kernel_rfl) (l0 (by kernel_rfl)) (c0 (by kernel_rfl)) fun S s => by kernel_rfl
def Za.L : FL := fCons (fSh sInts) (fCons (fSh sInts) (fNil))
def Za : List Int × List Int × Unit → FR (Bool) := fun (a0, a1, ()) => ⟨(a0.length ≤ 1000000) ∧ True, fun X => And (Imp (((a0.length : Int) != (a1.length : Int)) = true) (X false)) (Imp (((a0.length : Int) != (a1.length : Int)) = false) (CallL Zb.X (a0, a1, false, 0, ()) fun x3 => And (Imp (Nat.beq x3.1 0 = true) (X x3.2.1)) (Imp (Nat.beq x3.1 0 = false) (X true)))), fun r => (r = true ↔ a0 = a1) ∧ True, fun r => (.v (.c (.bool r)), [])⟩
theorem Za.X : XF Za := mkF (false) fun (a0, a1, ()) hp => by
  obtain ⟨p0, -⟩ := hp
  dsimp only [Za]
  refine May.iff (B.ne) (fun h1 => ?_) (fun h1 => ?_)
  refine May.ret ⟨?_, trivial⟩; rotate_left 1
  refine May.loop ⟨?_, ?_, ?_, ?_, ?_, trivial⟩ fun x3 q3 => have q3_0 := q3.1; have q3_1 := q3.2.1; May.iff B.nbeq (fun h2 => ?_) (fun h2 => ?_); rotate_left 5
  refine May.ret ⟨?_, trivial⟩; rotate_left 1
  refine May.ret ⟨?_, trivial⟩
  all_goals try dsimp only
  all_goals first | with_reducible assumption | omega | rfl | assumption | (simp only [List.length_append, List.length_cons, List.length_nil, List.length_set, List.length_replicate, Int.natCast_add, Int.natCast_one] at *; omega) | grind
abbrev Za.S := Classical.choose Za.X
def Za.c : Ctr := fc 25 [true, true] Za.L Za Za.S
theorem Za.good : Good Try.prog Za.c := mkFG (fn := Try.f25) {LL := [Zb.k]} Za.X Za.G (by kernel_rfl) (by kernel_rfl) (lG (by kernel_rfl) (consL (by kernel_rfl) Zb.g (noL rfl))) (c0 (by kernel_rfl)) fun s K => by kernel_rfl
theorem Zbo.G : GG [] := noG
def Zbp.L : FL := fCons (fC (cArr false kBools)) (fCons (fC (cArr false kBools)) (fCons (fC cBool) (fCons (fC cInt) (fNil))))
def Zbp : List Bool × List Bool × Bool × Int × Unit → LR (List Bool × List Bool × Bool × Int × Unit) (Nat × Bool × Unit) := fun (y0, y1, y2, y3, ()) => ⟨(0 ≤ y3) ∧ ((y0.length : Int) ≤ 9223372036854775807) ∧ (((y0.length : Int) != (y1.length : Int)) = false) ∧ ((y0.length : Int) = (y1.length : Int)) ∧ (∀ k : Nat, (k : Int) < y3 → y0.getD k false = y1.getD k false) ∧ True, ((y0.length : Int) - y3).toNat, fun X => And (Imp ((decide (y3 < (y0.length : Int))) = true) (And ((0 : Int) ≤ y3 ∧ y3 < (y0.length : Int)) (And ((0 : Int) ≤ y3 ∧ y3 < (y1.length : Int)) (Lt (!(((y0.getD (y3).toNat false) : Bool) == (y1.getD (y3).toNat false))) fun x1 => And (Imp (x1 = true) (X (.inr (0, false, ())))) (Imp (x1 = false) (Lt (wrap (y3 + 1)) fun x2 => X (.inl (y0, y1, y2, x2, ())))))))) (Imp ((decide (y3 < (y0.length : Int))) = false) (X (.inr (1, false, ())))), fun r => (r.1 = 0 → r.2.1 = false ∧ ¬ y0 = y1) ∧ (¬ r.1 = 0 → y0 = y1) ∧ True, fun r => [(Nat.beq r.1 0, (.ret, [.c (.bool r.2.1)], []))], fun r => (.exit 0, [], [])⟩
theorem Zbp.X : XL Zbp := mkL (0, false, ()) fun (y0, y1, y2, y3, ()) hp => by
  obtain ⟨p0, p1, p2, p3, p4, -⟩ := hp
  unfold ML; dsimp only [Zbp]
  refine May.iff (B.dec) (fun h1 => ?_) (fun h1 => ?_)
  refine May.chk ?_ fun c1 => May.chk ?_ fun c2 => May.lp (B.not (B.beq)) fun x1 e1 => May.iff (e1) (fun h2 => ?_) (fun h2 => ?_); rotate_left 2
  refine May.ex ⟨?_, ?_, trivial⟩; rotate_left 2
  refine May.lw ⟨?_, ?_⟩ fun x2 e2 => May.nx ⟨?_, ?_, ?_, ?_, ?_, trivial⟩ ?_ ?_ fun r => rfl; rotate_left 9
  refine May.ex ⟨?_, ?_, trivial⟩
  all_goals try dsimp only [Zbp]
  all_goals first | with_reducible assumption | omega | exact fun _ q => q | (exact fun h => ⟨rfl, l_ne (by assumption)⟩; done) | (exact fun _ => l_eq (by assumption) (by assumption) (by assumption); done) | (exact l_step (by assumption) (by omega) (by assumption) (by grind); done) | (intro k hk; omega; done) | rfl | assumption | (simp only [List.length_append, List.length_cons, List.length_nil, List.length_set, List.length_replicate, Int.natCast_add, Int.natCast_one] at *; omega) | grind
abbrev Zbp.R := Classical.choose Zbp.X
def Zbp.k : LCtr := (ld 4 [0, 1, 4, 5] [] Zbp.L Zbp 0 (fun e => match e with | .ret => [4] | _ => []) (fun _ => []) Zbp.R).ctr
theorem Zbp.g : LGood Try.prog Try.f58.ntmps Zbp.k (bodyAt Try.f58 0) := mkLG {} Zbp.X Zbo.G (by kernel_rfl) (l0 (by kernel_rfl)) (c0 (by kernel_rfl)) fun S s => by kernel_rfl
def Zbo.L : FL := fCons (fSh sBools) (fCons (fSh sBools) (fNil))
def Zbo : List Bool × List Bool × Unit → FR (Bool) := fun (a0, a1, ()) => ⟨(a0.length ≤ 1000000) ∧ True, fun X => And (Imp (((a0.length : Int) != (a1.length : Int)) = true) (X false)) (Imp (((a0.length : Int) != (a1.length : Int)) = false) (CallL Zbp.X (a0, a1, false, 0, ()) fun x3 => And (Imp (Nat.beq x3.1 0 = true) (X x3.2.1)) (Imp (Nat.beq x3.1 0 = false) (X true)))), fun r => (r = true ↔ a0 = a1) ∧ True, fun r => (.v (.c (.bool r)), [])⟩
theorem Zbo.X : XF Zbo := mkF (false) fun (a0, a1, ()) hp => by
  obtain ⟨p0, -⟩ := hp
  dsimp only [Zbo]
  refine May.iff (B.ne) (fun h1 => ?_) (fun h1 => ?_)
  refine May.ret ⟨?_, trivial⟩; rotate_left 1
  refine May.loop ⟨?_, ?_, ?_, ?_, ?_, trivial⟩ fun x3 q3 => have q3_0 := q3.1; have q3_1 := q3.2.1; May.iff B.nbeq (fun h2 => ?_) (fun h2 => ?_); rotate_left 5
  refine May.ret ⟨?_, trivial⟩; rotate_left 1
  refine May.ret ⟨?_, trivial⟩
  all_goals try dsimp only
  all_goals first | with_reducible assumption | omega | rfl | assumption | (simp only [List.length_append, List.length_cons, List.length_nil, List.length_set, List.length_replicate, Int.natCast_add, Int.natCast_one] at *; omega) | grind
abbrev Zbo.S := Classical.choose Zbo.X
def Zbo.c : Ctr := fc 58 [true, true] Zbo.L Zbo Zbo.S
theorem Zbo.good : Good Try.prog Zbo.c := mkFG (fn := Try.f58) {LL := [Zbp.k]} Zbo.X Zbo.G (by kernel_rfl) (by kernel_rfl) (lG (by kernel_rfl) (consL (by kernel_rfl) Zbp.g (noL rfl))) (c0 (by kernel_rfl)) fun s K => by kernel_rfl
theorem Zbq.G : GG [Zbo.c, Za.c] := (consG Zbo.good (consG Za.good noG))
def Zbr.L : FL := fCons (fC (cPtr 1 (cStE false) rfl)) (fCons (fC (cPtr 1 (cStE false) rfl)) (fCons (fC cBool) (fCons (fC cInt) (fNil))))
def Zbr : St × St × Bool × Int × Unit → LR (St × St × Bool × Int × Unit) (Nat × Bool × Unit) := fun (y0, y1, y2, y3, ()) => ⟨(0 ≤ y3) ∧ ((y0.sent.length : Int) ≤ 9223372036854775807) ∧ ((y0.sent.length : Int) = (y1.sent.length : Int)) ∧ (∀ k : Nat, (k : Int) < y3 → y0.sent.getD k zPkt = y1.sent.getD k zPkt) ∧ True, ((y0.sent.length : Int) - y3).toNat, fun X => And (Imp ((decide (y3 < (y0.sent.length : Int))) = true) (And ((0 : Int) ≤ y3 ∧ y3 < (y0.sent.length : Int)) (And ((0 : Int) ≤ y3 ∧ y3 < (y1.sent.length : Int)) (Lt (!(decide ((y0.sent.getD (y3).toNat zPkt) = (y1.sent.getD (y3).toNat zPkt)))) fun x3 => And (Imp (x3 = true) (X (.inr (0, false, ())))) (Imp (x3 = false) (Lt (wrap (y3 + 1)) fun x4 => X (.inl (y0, y1, y2, x4, ())))))))) (Imp ((decide (y3 < (y0.sent.length : Int))) = false) (X (.inr (1, false, ())))), fun r => (r.1 = 0 → r.2.1 = false ∧ ¬ y0.sent = y1.sent) ∧ (¬ r.1 = 0 → y0.sent = y1.sent) ∧ True, fun r => [(Nat.beq r.1 0, (.ret, [.c (.bool r.2.1)], []))], fun r => (.exit 0, [.c (.ptr 0 0), .c (.ptr 1 0)], [.raw 1 [.int y0.way, .int y0.ver, .int y0.want, .arr false (.pkts y0.sent), .arr false (.bools y0.live), .arr false (.bools y0.back), .arr false (.ints y0.got)], .raw 1 [.int y1.way, .int y1.ver, .int y1.want, .arr false (.pkts y1.sent), .arr false (.bools y1.live), .arr false (.bools y1.back), .arr false (.ints y1.got)]])⟩
theorem Zbr.X : XL Zbr := mkL (0, false, ()) fun (y0, y1, y2, y3, ()) hp => by
  obtain ⟨p0, p1, p2, p3, -⟩ := hp
  unfold ML; dsimp only [Zbr]
  refine May.iff (B.dec) (fun h1 => ?_) (fun h1 => ?_)
  refine May.chk ?_ fun c1 => May.chk ?_ fun c2 => May.lp (B.not (B.dec)) fun x3 e3 => May.iff (e3) (fun h2 => ?_) (fun h2 => ?_); rotate_left 2
  refine May.ex ⟨?_, ?_, trivial⟩; rotate_left 2
  refine May.lw ⟨?_, ?_⟩ fun x4 e4 => May.nx ⟨?_, ?_, ?_, ?_, trivial⟩ ?_ ?_ fun r => rfl; rotate_left 8
  refine May.ex ⟨?_, ?_, trivial⟩
  all_goals try dsimp only [Zbr]
  all_goals first | with_reducible assumption | omega | exact fun _ q => q | (exact fun h => ⟨rfl, fun e => (by assumption : ¬ y0.sent.getD y3.toNat zPkt = y1.sent.getD y3.toNat zPkt) (by rw [e])⟩; done) | (intro h; omega; done) | (exact fun h => ⟨rfl, l_ne (by assumption)⟩; done) | (exact fun _ => l_eq (by assumption) (by assumption) (by assumption); done) | (exact l_step (by assumption) (by omega) (by assumption) (by grind); done) | (intro k hk; omega; done)
abbrev Zbr.R := Classical.choose Zbr.X
def Zbr.k : LCtr := (ld 4 [2, 3, 4, 5] [] Zbr.L Zbr 0 (fun e => match e with | .ret => [4] | _ => [2, 3]) (fun _ => []) Zbr.R).ctr
theorem Zbr.g : LGood Try.prog Try.f20.ntmps Zbr.k (bodyAt Try.f20 0) := mkLG {} Zbr.X Zbq.G (by kernel_rfl) (l0 (by kernel_rfl)) (c0 (by kernel_rfl)) fun S s => by kernel_rfl
def Zbq.L : FL := fCons (fSh sSt) (fCons (fSh sSt) (fNil))
def Zbq : St × St × Unit → FR (Bool) := fun (a0, a1, ()) => ⟨(a0.lt) ∧ True, fun X => Lt (bif a0.way != a1.way then true else a0.ver != a1.ver) fun x1 => Lt (bif bif x1 then true else a0.want != a1.want then true else (a0.sent.length : Int) != (a1.sent.length : Int)) fun x2 => And (Imp (x2 = true) (X false)) (Imp (x2 = false) (CallL Zbr.X (a0, a1, false, 0, ()) fun x5 => And (Imp (Nat.beq x5.1 0 = true) (X x5.2.1)) (Imp (Nat.beq x5.1 0 = false) (Call Zbo.X (a0.live, a1.live, ()) fun x6 => And (Imp (And (x6 = true) (True)) ((Zbo (a0.back, a1.back, ())).P)) (Lt ((Zbo.S (a0.back, a1.back, ()))) fun x7 => And (Imp (And ((bif x6 then x7 else false) = true) (True)) ((Za (a0.got, a1.got, ())).P)) (Lt ((Za.S (a0.got, a1.got, ()))) fun x8 => X (bif bif x6 then x7 else false then x8 else false))))))), fun r => (r = true ↔ a0 = a1) ∧ True, fun r => (.v (.c (.bool r)), [])⟩
theorem Zbq.X : XF Zbq := mkF (false) fun (a0, a1, ()) hp => by
  obtain ⟨p0, -⟩ := hp
  obtain ⟨s0, s1, s2, s3⟩ := id p0
  dsimp only [Zbq]
  refine May.lp (B.or (B.ne) (B.ne)) fun x1 e1 => May.lp (B.or (B.or (e1) (B.ne)) (B.ne)) fun x2 e2 => May.iff (e2) (fun h1 => ?_) (fun h1 => ?_)
  refine May.ret ⟨?_, trivial⟩; rotate_left 1
  refine May.loop ⟨?_, ?_, ?_, ?_, trivial⟩ fun x5 q5 => have q5_0 := q5.1; have q5_1 := q5.2.1; May.iff B.nbeq (fun h2 => ?_) (fun h2 => ?_); rotate_left 4
  refine May.ret ⟨?_, trivial⟩; rotate_left 1
  refine May.call ⟨?_, trivial⟩ fun x6 q6 => have q6 := q6.1; May.chk (fun hπ => have g1 := Iff.mp (Iff.rfl) hπ.1; ⟨?_, trivial⟩) fun c1 => May.clq ⟨?_, trivial⟩ fun x7 q7 => have q7 := q7.1; May.chk (fun hπ => have g1 := Iff.mp (B.and (Iff.rfl) (Iff.rfl)) hπ.1; ⟨?_, trivial⟩) fun c2 => May.clq ⟨?_, trivial⟩ fun x8 q8 => have q8 := q8.1; May.ret ⟨?_, trivial⟩
  all_goals try dsimp only
  all_goals first | with_reducible assumption | omega | (intro k hk; omega; done) | (refine ⟨fun h => (by cases h), fun h => ?_⟩; subst h; simp at h1; done) | (rw [(q5_0 h2).1]; exact ⟨fun h => (by cases h), fun h => absurd (congrArg St.sent h) (q5_0 h2).2⟩; done) | (exact lwSt h1 (q5_1 h2) q6 q7 q8; done)
abbrev Zbq.S := Classical.choose Zbq.X
def Zbq.c : Ctr := fc 20 [true, true] Zbq.L Zbq Zbq.S
theorem Zbq.good : Good Try.prog Zbq.c := mkFG (fn := Try.f20) {LL := [Zbr.k]} Zbq.X Zbq.G (by kernel_rfl) (by kernel_rfl) (lG (by kernel_rfl) (consL (by kernel_rfl) Zbr.g (noL rfl))) (c0 (by kernel_rfl)) fun s K => by kernel_rfl
end
end Hw
end Go.Proofs.Ytloicplgckomdaa
