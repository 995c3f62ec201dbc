/- Calls of a law that writes over what it got: each keeps what was there before. -/
import Derived.Test.YtfboldbfbmmahaaXM
import Derived.Test.YtfboldbfbmmahaaVD
import Derived.Test.YtfboldbfbmmahaaZ4
set_option linter.unusedVariables false
set_option linter.unusedSimpArgs false
set_option maxRecDepth 100000
namespace Go.Proofs.Ytfboldbfbmmahaa
namespace Hw
open Go
def C1 (w : World) : Cx := ⟨w, fun _ => False, inW w, fun _ => none⟩
theorem C1_inv (w : World) : Inv (C1 w) (hpOf []) := ⟨fun i => trivial, fun i j b n m h => h.elim, fun b h => h.elim, fun b h => h⟩
abbrev Nw (w W : World) : Prop := Mk (fun _ => False) w W
theorem Mk.of {R : Nat → Prop} {w W : World} (os : W.os = w.os) (tape : W.tape = w.tape) (output : W.output = w.output) (size : w.heap.size ≤ W.heap.size) (blk : ∀ b, b < w.heap.size → W.heap[b]? = w.heap[b]?) (unf : ∀ (b : Nat), (∀ o : Obj, w.heap[b]? = some o → Unf o) → ∀ o : Obj, W.heap[b]? = some o → Unf o) : Mk R w W :=
  ⟨os, tape, output, size, fun b h _ => blk b h, fun p u hp => ⟨u, by
    have hl : p.block < w.heap.size := by
      rcases Nat.lt_or_ge p.block w.heap.size with h | h
      · exact h
      · unfold World.cell? at hp
        rw [Array.getElem?_eq_none h] at hp
        cases hp
    exact (World.cell?_of_block (blk _ hl)).trans hp, .inl rfl⟩, unf⟩
theorem Mk.sub {R R' : Nat → Prop} {w W : World} (h : Mk R w W) (hR : ∀ b, R b → R' b) : Mk R' w W := ⟨h.os, h.tape, h.output, h.size, fun b hb hn => h.block b hb fun hr => hn (hR b hr), h.cell, h.unf⟩
theorem vcall {c : Ctr} (hg : Good Try.prog c) (s : c.σ) (hs : (c.inp s).1 = []) (hp : ∀ p, c.pre = some p → p s) {W : World} {vs : List Value} (hv : valsR (C1 W) (c.inp s).2 vs) :
    Calls Try.prog c.fid vs.toArray W fun e W' => ∃ v C', e = .returned v ∧ C'.w = W' ∧ avR C' (c.out s).1 v ∧ (∀ b, C'.frz b → W.heap.size ≤ b ∧ b < W'.heap.size) ∧ Nw W W' ∧ Inv C' (hpOf (c.out s).2) ∧ (∀ i b m, C'.ρ i = some (some b, m) → W.heap.size ≤ b) := by
  refine (hg.run s (C1 W) vs (by rw [hs]; exact C1_inv W) (fun _ _ => rfl) hv hp).mono ?_
  rintro e w' ⟨v, C', rfl, rfl, h1, h2⟩
  have hT : ∀ b, ¬ ∃ i m, (hpOf (c.inp s).1 i).live ∧ (C1 W).ρ i = some (some b, m) := fun b ⟨i, m, hl, _⟩ => by
    rw [hs] at hl
    exact hl
  refine ⟨v, C', rfl, rfl, h1, fun b hb => ⟨?_, h2.inv.frz b hb⟩, Mk.of h2.ext.os h2.ext.tape h2.ext.output h2.ext.size (fun b hb => h2.ext.blk b hb (hT b)) fun b h0 o ho => h2.ext.unf b o h0 ho, h2.inv, fun i b m hr => ?_⟩
  · rcases h2.ext.new b hb with h | h | h
    · exact h.elim
    · exact absurd h (hT b)
    · exact h
  · rcases h2.new i _ hr with h | ⟨-, -, h⟩
    · cases h
    · rcases h b rfl with ⟨j, m', hl, _⟩ | h
      · rw [hs] at hl
        exact hl.elim
      · exact h
def WAt (W : World) (F : Nat → Prop) (l : List Ch) (v : Value) : Prop := (∀ b, F b → b < W.heap.size) ∧ ∃ x, v = .agg #[x] ∧ arrR W F 4 (.chs l) x
def LAt (W : World) (F : Nat → Prop) (l : List Int) (v : Value) : Prop := (∀ b, F b → b < W.heap.size) ∧ arrR W F 4 (.ints l) v
theorem WAt.mk {R F : Nat → Prop} {w W : World} {l : List Ch} {v : Value} (h : WAt w F l v) (k : Mk R w W) (hd : ∀ b, F b → ¬ R b) : WAt W F l v := by
  obtain ⟨h1, x, rfl, h2⟩ := h
  exact ⟨fun b hb => Nat.lt_of_lt_of_le (h1 b hb) k.size, x, rfl, arrR_ext (fun _ h => h) (fun b hb => k.block b (h1 b hb) (hd b hb)) 4 _ _ h2⟩
theorem LAt.mk {R F : Nat → Prop} {w W : World} {l : List Int} {v : Value} (h : LAt w F l v) (k : Mk R w W) (hd : ∀ b, F b → ¬ R b) : LAt W F l v :=
  ⟨fun b hb => Nat.lt_of_lt_of_le (h.1 b hb) k.size, arrR_ext (fun _ h => h) (fun b hb => k.block b (h.1 b hb) (hd b hb)) 4 _ _ h.2⟩
theorem WAt.arg {F : Nat → Prop} {W : World} {l : List Ch} {v : Value} (h : WAt W F l v) : fvR (C1 W) (.agg [.arr false (.chs l)]) v := by
  obtain ⟨h1, x, rfl, h2⟩ := h
  refine ⟨#[x], rfl, rfl, fun j y hj => ?_⟩
  cases j with
  | zero =>
    simp only [List.getElem?_cons_zero, Option.some.injEq] at hj
    subst hj
    exact ⟨x, rfl, arrR_ext (S' := inW W) h1 (fun _ _ => rfl) 4 _ _ h2⟩
  | succ j => simp at hj
theorem LAt.arg {F : Nat → Prop} {W : World} {l : List Int} {v : Value} (h : LAt W F l v) : fvR (C1 W) (.c (.arr false (.ints l))) v := arrR_ext (S' := inW W) h.1 (fun _ _ => rfl) 4 _ _ h.2
theorem wAt_of {C : Cx} {l : List Ch} {v : Value} (h : fvR C (.agg [.arr true (.chs l)]) v) (hF : ∀ b, C.frz b → b < C.w.heap.size) : WAt C.w C.frz l v := by
  obtain ⟨vs, rfl, hs, h2⟩ := h
  obtain ⟨x, h3, h4⟩ := h2 0 _ rfl
  refine ⟨hF, x, ?_, h4⟩
  congr 1
  apply Array.ext
  · exact hs
  · intro i h5 h6
    have hs : vs.size = 1 := hs
    have hi : i = 0 := by omega
    subst hi
    exact (Array.getElem?_eq_some_iff.1 h3).2
section
variable {n : Nat} {W : World} {F G : Nat → Prop} {l : List Ch} {v u : Value} {a b : List Int} {k : Int}
theorem toW (hv : WAt W F l v) (hs : chsSm l) : CallsIn Fence.wide n Try.prog 14 #[v] W fun e W' => ∃ u F', e = .returned u ∧ WAt W' F' l u ∧ (∀ b, F' b → W.heap.size ≤ b) ∧ Nw W W' := by
  refine (callsIn_wide.2 (vcall ZdM.good ((l, ()) : ZdM.L.α) rfl (fun p h => by cases h; exact hs) (W := W) (vs := [v]) ⟨hv.arg, trivial⟩)).mono ?_
  rintro e W' ⟨u, C', rfl, rfl, h1, h2, h3, h4, h5⟩
  have h1 : fvR C' (.agg [.own 0 13 65]) u := h1
  have h4 : Inv C' (hpOf [.arr (.chs (ZdM.S l))]) := h4
  rw [to_world hs] at h4
  obtain ⟨vs, rfl, h6, h7⟩ := h1
  obtain ⟨x, h8, h9⟩ := h7 0 _ rfl
  have h10 : cellR (C'.fz [0]) (.arr true (.chs l)) x := last_R (H := hpOf [.arr (.chs l)]) h4 rfl h9 (fun i hi => hi)
  have h11 : fvR (C'.fz [0]) (.agg [.arr true (.chs l)]) (.agg vs) := ⟨vs, rfl, h6, fun j y hj => by
    cases j with
    | zero =>
      simp only [List.getElem?_cons_zero, Option.some.injEq] at hj
      subst hj
      exact ⟨x, h8, h10⟩
    | succ j => simp at hj⟩
  have h12 := fz_inv (js := [0]) h4 (fun j hj => by
    simp only [List.mem_singleton] at hj
    subst hj
    exact trivial)
  refine ⟨.agg vs, (C'.fz [0]).frz, rfl, wAt_of h11 h12.frz, fun b hb => ?_, h3⟩
  rcases hb with hb | ⟨j, m, -, hb⟩
  · exact (h2 b hb).1
  · exact h5 j b m hb
theorem szW (hv : WAt W F l v) : CallsIn Fence.wide n Try.prog 12 #[v, .int .i64 k] W fun e W' => e = .returned (.int .i64 (Zdx.S l k)) ∧ Nw W W' := by
  refine (callsIn_wide.2 (vcall Zdx.good ((l, k, ()) : Zdx.L.α) rfl (fun p h => by cases h) (W := W) (vs := [v, .int .i64 k]) ⟨hv.arg, rfl, trivial⟩)).mono ?_
  rintro e W' ⟨u, C', rfl, rfl, h1, h2, h3, -, -⟩
  have h1 : u = .int .i64 (Zdx.S l k) := h1
  exact ⟨by rw [h1], h3⟩
theorem eqW (hv : WAt W F l v) (hu : WAt W G l u) (hf : chsFact l) : CallsIn Fence.wide n Try.prog 16 #[v, u] W fun e W' => e = .returned (.bool true) ∧ Nw W W' := by
  refine (callsIn_wide.2 (vcall Zd1.good ((l, l, ()) : Zd1.L.α) rfl (fun p h => by cases h) (W := W) (vs := [v, u]) ⟨hv.arg, hu.arg, trivial⟩)).mono ?_
  rintro e W' ⟨x, C', rfl, rfl, h1, h2, h3, -, -⟩
  have h1 : x = .bool (Zd1.S l l) := h1
  exact ⟨by rw [h1, eq_world hf], h3⟩
theorem eqI (hv : LAt W F a v) (hu : LAt W G a u) : CallsIn Fence.wide n Try.prog 23 #[v, u] W fun e W' => e = .returned (.bool true) ∧ Nw W W' := by
  refine (callsIn_wide.2 (vcall ZdO.good ((a, a, ()) : ZdO.L.α) rfl (fun p h => by cases h) (W := W) (vs := [v, u]) ⟨hv.arg, hu.arg, trivial⟩)).mono ?_
  rintro e W' ⟨x, C', rfl, rfl, h1, h2, h3, -, -⟩
  have h1 : x = .bool (ZdO.S a a) := h1
  exact ⟨by rw [h1, eq_ints (arr_len hv.2)], h3⟩
theorem sumS (hv : WAt W F l v) (hf : chsFact l) (hr : chsRng l) : CallsIn Fence.wide n Try.prog 21 #[v, .int .i64 k] W fun e W' => ∃ u F', e = .returned u ∧ LAt W' F' (Zd4.S (l, k, ())) u ∧ (∀ b, F' b → W.heap.size ≤ b) ∧ Nw W W' := by
  refine (callsIn_wide.2 (vcall Zd4.good ((l, k, ()) : Zd4.L.α) rfl (fun p h => by cases h; exact ⟨hf, hr, trivial⟩) (W := W) (vs := [v, .int .i64 k]) ⟨hv.arg, rfl, trivial⟩)).mono ?_
  rintro e W' ⟨u, C', rfl, rfl, h1, h2, h3, -, -⟩
  exact ⟨u, C'.frz, rfl, ⟨fun b hb => (h2 b hb).2, h1⟩, fun b hb => (h2 b hb).1, h3⟩
theorem sumI (hv : WAt W F l v) (hf : chsFact l) (hr : chsRng l) : CallsIn Fence.wide n Try.prog 22 #[v, .int .i64 k] W fun e W' => ∃ u F', e = .returned u ∧ LAt W' F' (Zd4.S (l, k, ())) u ∧ (∀ b, F' b → W.heap.size ≤ b) ∧ Nw W W' := by
  have e1 : Zd4.S (l, k, ()) = Zd5.S (l, k, ()) := usrQ_eq (qF Zd4.X (l, k, ()) ⟨hf, hr, trivial⟩).1 (qF Zd5.X (l, k, ()) ⟨hf, hr, trivial⟩).1
  rw [e1]
  refine (callsIn_wide.2 (vcall Zd5.good ((l, k, ()) : Zd5.L.α) rfl (fun p h => by cases h; exact ⟨hf, hr, trivial⟩) (W := W) (vs := [v, .int .i64 k]) ⟨hv.arg, rfl, trivial⟩)).mono ?_
  rintro e W' ⟨u, C', rfl, rfl, h1, h2, h3, -, -⟩
  exact ⟨u, C'.frz, rfl, ⟨fun b hb => (h2 b hb).2, h1⟩, fun b hb => (h2 b hb).1, h3⟩
end
end Hw
end Go.Proofs.Ytfboldbfbmmahaa
