/- The law of what a user has, exactly: the walk. -/
import Derived.Shelf.Abstract
import Derived.RangeFuncBox
import Derived.WalkKit
import Derived.OwnWalkIn
import Derived.TacticsInMore
import Derived.LoopNIn
import Derived.LoopIn
import Derived.Stop.RegionWithIn
import Derived.Test.YtfboldbfbmmahaaXP
namespace Go.Proofs.Ytfboldbfbmmahaa
namespace Hw
open Go Go.RowKit
attribute [local go_sem] Oper.semAt_some
set_option maxRecDepth 100000
set_option linter.unusedVariables false
set_option linter.unusedSimpArgs false
set_option maxHeartbeats 10000000
theorem unfR_new {F : Nat → Prop} {w W : World} (h : Nw w W) (hF : ∀ b, F b → w.heap.size ≤ b) : UnfR F W := fun b hb => h.unf b fun o ho => absurd (lt_of_block ho) (by have := hF b hb; omega)
theorem Mk.keep {R : Nat → Prop} {w W : World} {p : Addr} {u : Value} (h : Mk R w W) (hp : ¬ R p.block) (hc : w.cell? p = some u) : W.cell? p = some u := by
  have hl : p.block < w.heap.size := by
    rcases Nat.lt_or_ge p.block w.heap.size with g | g
    · exact g
    · unfold World.cell? at hc
      rw [Array.getElem?_eq_none g] at hc
      cases hc
  exact (World.cell?_of_block (h.block _ hl hp)).trans hc
theorem Mk.below {w W : World} (h : Mk (fun b => w.heap.size ≤ b) w W) : Below w.heap.size w W := ⟨h.os, h.tape, h.output, h.size, fun k hk => h.block k hk (by omega)⟩
theorem nw_alloc (w : World) (u : Value) (t : TypeId) : Nw w (w.alloc (.cells #[u] t)) ∧ (w.alloc (.cells #[u] t)).cell? ⟨w.heap.size, 0, none⟩ = some u ∧ w.heap.size < (w.alloc (.cells #[u] t)).heap.size := by
  refine ⟨Mk.alloc w rfl, ?_, by simp⟩
  unfold World.cell?
  rw [World.alloc_heap_new]
  rfl
structure Base (W0 W : World) (F0 : Nat → Prop) (l : List Ch) (x : Value) : Prop where
  t : Mk (fun b => W0.heap.size ≤ b) W0 W
  c : W.cell? ⟨W0.heap.size, 0, none⟩ = some x
  v : WAt W F0 l (.agg #[x])
  b : W0.heap.size < W.heap.size
theorem Base.mk' {W0 W W' : World} {F0 R : Nat → Prop} {l : List Ch} {x : Value} (h : Base W0 W F0 l x) (k : Mk R W W') (hF : ∀ b, F0 b → b < W0.heap.size) (hR : ∀ b, R b → W0.heap.size < b) : Base W0 W' F0 l x :=
  ⟨h.t.trans (k.sub fun b hb => Nat.le_of_lt (hR b hb)), k.keep (fun hr => Nat.lt_irrefl _ (hR _ hr)) h.c, h.v.mk k fun b h1 h2 => by have := hF b h1; have := hR b h2; omega, Nat.lt_of_lt_of_le h.b k.size⟩
theorem Base.nw {W0 W W' : World} {F0 : Nat → Prop} {l : List Ch} {x : Value} (h : Base W0 W F0 l x) (k : Nw W W') (hF : ∀ b, F0 b → b < W0.heap.size) : Base W0 W' F0 l x := h.mk' k hF fun b hb => hb.elim
theorem sum_len {l : List Ch} {k : Int} (hf : chsFact l) (hr : chsRng l) : (Zd4.S (l, k, ())).length ≤ 4 := by
  have q := (qF Zd4.X (l, k, ()) ⟨hf, hr, trivial⟩).1
  by_cases g : WOk l ∧ (1 ≤ k ∧ k ≤ 3)
  · have e : (Zd4.S (l, k, ())).length = 4 := (congrArg List.length (q.1 g)).trans (usr_len 2)
    omega
  · have e : (Zd4.S (l, k, ())).length = 0 := congrArg List.length (q.2 g)
    omega
theorem user_in (F0 : Nat → Prop) (x : Value) (user : Int) (W0 : World) (l : List Ch) (hv : WAt W0 F0 l (.agg #[x])) (hf : chsFact l) (hr : chsRng l) :
    CallsIn Fence.wide 9 Try.prog 6 #[.agg #[x], .int .i64 user] W0 fun e W' => e = .returned (.bool true) ∧ Below W0.heap.size W0 W' := by
  have hF : ∀ b, F0 b → b < W0.heap.size := hv.1
  have hlen := sum_len (k := user) hf hr
  generalize hL : Zd4.S (l, user, ()) = L at hlen
  refine callsIn_of_wp Try.func6 rfl trivial ?_ rfl
  simp only [Try.ntmps6, List.size_toArray, List.length_cons, List.length_nil, Nat.reduceAdd, Nat.reduceSub, Array.replicate_succ, Array.replicate_zero, List.push_toArray, List.append_toArray, List.nil_append, List.cons_append]
  obtain ⟨n0, c0, b0⟩ := nw_alloc W0 x 24
  have B0 : Base W0 (W0.alloc (.cells #[x] 24)) F0 l x := ⟨n0.sub fun _ h => h.elim, c0, hv.mk n0 fun _ _ h => h, b0⟩
  gi_wp2
  generalize hW1 : W0.alloc (.cells #[x] 24) = W1 at *
  refine ⟨trivial, (szW B0.v).mono ?_⟩
  rintro e W2 ⟨rfl, n1⟩
  have B1 := B0.nw n1 hF
  by_cases hneg : Zdx.S l 1048576 < 0
  · gi_wp2
    go_ret
    exact ⟨rfl, B1.t.below⟩
  have hdec : decide (Zdx.S l 1048576 < 0) = false := decide_eq_false hneg
  have hs := sz_world hf hdec
  have c1 := B1.c
  clear n0 c0 n1 b0 hW1 B0 hv
  gi_wp2
  refine ⟨trivial, (toW B1.v hs).mono ?_⟩
  rintro e W3 ⟨u1, F1, rfl, u1a, f1, n2⟩
  have B2 := B1.nw n2 hF
  have c2 := B2.c
  clear c1 B1
  gi_wp2
  refine ⟨trivial, (sumS (k := user) u1a hf hr).mono ?_⟩
  rintro e W4 ⟨s0, Fs, rfl, S3, fs, n3⟩
  rw [hL] at S3
  have B3 := B2.nw n3 hF
  have c3 := B3.c
  clear c2 B2 u1a f1 n2 n3 fs
  gi_wp2
  refine ⟨trivial, (toW B3.v hs).mono ?_⟩
  rintro e W5 ⟨u2, F2, rfl, X4, f2, n4⟩
  have B4 := B3.nw n4 hF
  have S4 := S3.mk n4 (fun _ _ h => h)
  have d2 : ∀ b, F2 b → ¬ Fs b := fun b h1 h2 => by have := f2 b h1; have := S3.1 b h2; omega
  have U4 := unfR_new n4 f2
  obtain ⟨A2, n2', k2, rfl⟩ : ∃ A n k, u2 = .agg #[.slice A n k] := by
    obtain ⟨-, y, rfl, hy⟩ := id X4
    obtain ⟨A, c, rfl, -⟩ := hy
    exact ⟨_, _, _, rfl⟩
  have d3 : ∀ b, F2 b → b ≠ W5.heap.size ∧ W0.heap.size < b := fun b h => ⟨by have := X4.1 b h; omega, by have := f2 b h; have := B3.b; omega⟩
  obtain ⟨n5, a5, b5⟩ := nw_alloc W5 (.slice A2 n2' k2) 29
  have B5 := B4.nw n5 hF
  have c5 := B5.c
  have S5 := S4.mk n5 (fun _ _ h => h)
  have X5 := X4.mk n5 (fun _ _ h => h)
  have U5 := U4.mk n5
  clear c3 B3 S3 n4 S4 X4 U4 n5 B4 f2
  gi_wp2
  generalize hW6 : W5.alloc (.cells #[.slice A2 n2' k2] 29) = W6 at *
  generalize hT : W5.heap.size = T at *
  refine ⟨trivial, (sumI (k := user) X5 hf hr).mono ?_⟩
  rintro e W7 ⟨g0, Fg, rfl, G6, fg, n6⟩
  rw [hL] at G6
  have B6 := B5.nw n6 hF
  have S6 := S5.mk n6 (fun _ _ h => h)
  have X6 := X5.mk n6 (fun _ _ h => h)
  have U6 := U5.mk n6
  have a6 := n6.keep (fun h => h) a5
  have V6 := unfR_new n6 fg
  have d4 : ∀ b, Fg b → ¬ F2 b ∧ ¬ Fs b ∧ b ≠ T ∧ W0.heap.size < b := fun b h => by
    have h1 := fg b h
    exact ⟨fun h2 => by have := X5.1 b h2; omega, fun h2 => by have := S5.1 b h2; omega, by omega, by have := B5.b; omega⟩
  clear B5 c5 S5 X5 U5 a5 n6 fg hW6 hT b5
  gi_wp2
  refine ⟨trivial, (eqI G6 S6).mono ?_⟩
  rintro e W8 ⟨rfl, n7⟩
  have B7 := B6.nw n7 hF
  have S7 := S6.mk n7 (fun _ _ h => h)
  have X7 := X6.mk n7 (fun _ _ h => h)
  have U7 := U6.mk n7
  have G7 := G6.mk n7 (fun _ _ h => h)
  have V7 := V6.mk n7
  have a7 := n7.keep (fun h => h) a6
  have c7 := B7.c
  have nd : Nw W8 W8.drew := Mk.of rfl rfl rfl (Nat.le_refl _) (fun _ _ => rfl) fun _ h => h
  have B8 := B7.nw nd hF
  have S8 := S7.mk nd (fun _ _ h => h)
  have X8 := X7.mk nd (fun _ _ h => h)
  have U8 := U7.mk nd
  have G8 := G7.mk nd (fun _ _ h => h)
  have V8 := V7.mk nd
  have a8 : W8.drew.cell? ⟨T, 0, none⟩ = _ := nd.keep (fun h => h) a7
  have c8 := B8.c
  clear B6 S6 X6 U6 G6 V6 a6 n7 B7 S7 X7 U7 G7 V7 a7 c7 nd
  gi_wp2
  have w1 : Fence.wide.fn 14 := trivial
  have w2 : Fence.wide.fn 16 := trivial
  gi_region_with (first
    | (gi_at_call 14; refine (toW B8.v hs).mono ?_; rintro e W9 ⟨u3, F3, rfl, Y8, -, n8⟩; have a9 := n8.keep (fun h => h) a8)
    | (gi_at_call 16; refine (eqW (X8.mk n8 (fun _ _ h => h)) Y8 hf).mono ?_; rintro e W10 ⟨rfl, n9⟩))
  all_goals
    clear w1 w2
    have n10 := n8.trans n9
    have B9 := B8.nw n10 hF
    have S9 := S8.mk n10 (fun _ _ h => h)
    have X9 := X8.mk n10 (fun _ _ h => h)
    have U9 := U8.mk n10
    have G9 := G8.mk n10 (fun _ _ h => h)
    have V9 := V8.mk n10
    have a10 := n9.keep (fun h => h) a9
    have c9 := B9.c
    clear B8 S8 X8 U8 G8 V8 a8 c8 n8 n9 n10 Y8 a9
    gi_wp2
    refine ⟨trivial, (mkW (by decide) X9 U9 hf hdec).mono ?_⟩
    rintro e W11 ⟨⟨k, hk0, hk1, rfl⟩, m10⟩
    have B10 := B9.mk' m10 hF (fun b h => (d3 b h).2)
    have S10 := S9.mk m10 (fun b h1 h2 => d2 b h2 h1)
    have G10 := G9.mk m10 (fun b h1 h2 => (d4 b h1).1 h2)
    have V10 := V9.mk m10
    have c10 := B10.c
    clear B9 S9 X9 U9 G9 V9 a10 c9 m10
    gi_wp2
    refine ⟨trivial, (eqI G10 S10).mono ?_⟩
    rintro e W12 ⟨rfl, n11⟩
    have B11 := B10.nw n11 hF
    have S11 := S10.mk n11 (fun _ _ h => h)
    have G11 := G10.mk n11 (fun _ _ h => h)
    have V11 := V10.mk n11
    clear B10 S10 G10 V10 c10 n11
    gi_wp2
    refine ⟨trivial, (mkI G11 V11 (by omega)).mono ?_⟩
    rintro e W13 ⟨rfl, m12, Ag, cg, rfl, hg⟩
    have B12 := B11.mk' m12 hF (fun b h => (d4 b h).2.2.2)
    have S12 := S11.mk m12 (fun b h1 h2 => (d4 b h2).2.1 h1)
    have c12 := B12.c
    have hg2 : 0 < L.length → ∃ b off, Ag = some ⟨b, off, none⟩ ∧ ∀ t, t < L.length → W13.cell? ⟨b, off + t, none⟩ = some (.int .i64 (1 + t)) := fun h0 => by
      obtain ⟨b, off, e, -, h⟩ := hg h0
      exact ⟨b, off, e, h⟩
    clear B11 S11 G11 V11 m12 hg
    gi_wp2
    refine ⟨trivial, (heldInts_in Fence.wide _ trivial rfl L.length Ag cg 1 W13 hg2 (by decide) (by omega)).mono ?_⟩
    rintro e W14 ⟨rfl, hW14⟩
    subst hW14
    gi_wp2
    refine ⟨trivial, (toW B12.v hs).mono ?_⟩
    rintro e W15 ⟨u4, F4, rfl, Y13, -, n13⟩
    have B13 := B12.nw n13 hF
    have S13 := S12.mk n13 (fun _ _ h => h)
    clear B12 S12 c12
    gi_wp2
    refine ⟨trivial, (sumI (k := user) Y13 hf hr).mono ?_⟩
    rintro e W16 ⟨h0, Fh, rfl, H14, -, n14⟩
    rw [hL] at H14
    have B14 := B13.nw n14 hF
    have S14 := S13.mk n14 (fun _ _ h => h)
    clear B13 S13 Y13
    gi_wp2
    refine ⟨trivial, (eqI H14 S14).mono ?_⟩
    rintro e W17 ⟨rfl, n15⟩
    have B15 := B14.nw n15 hF
    have n16 := (n13.trans n14).trans n15
    have hg3 : 0 < L.length → ∃ b off, Ag = some ⟨b, off, none⟩ ∧ ∀ t, t < L.length → W17.cell? ⟨b, off + t, none⟩ = some (.int .i64 (1 + t)) := fun h0 => by
      obtain ⟨b, off, e, h⟩ := hg2 h0
      exact ⟨b, off, e, fun t ht => n16.keep (fun h => h) (h t ht)⟩
    clear B14 S14 H14 n13 n14 n15 n16 hg2
    gi_wp2
    refine ⟨trivial, (heldInts_in Fence.wide _ trivial rfl L.length Ag cg 1 W17 hg3 (by decide) (by omega)).mono ?_⟩
    rintro e W18 ⟨rfl, hW18⟩
    subst hW18
    gi_wp2
    go_ret
    exact ⟨rfl, B15.t.below⟩
end Hw
end Go.Proofs.Ytfboldbfbmmahaa
