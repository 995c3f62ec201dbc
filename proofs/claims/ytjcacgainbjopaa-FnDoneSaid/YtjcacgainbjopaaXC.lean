/- A sum over packets that a function hands out one by one: the walk of its text. -/
import Derived.RangeFuncNested
import Derived.RangeFuncBox
import Derived.RangeFuncBound
import Derived.RangeFuncCalls
import Derived.RangeFuncLeaves
import Derived.Shelf.Abstract
import Derived.WalkKit
import Derived.OwnWalkIn
import Derived.TacticsInMore
import Derived.LoopNIn
import Derived.LoopIn
import Derived.Test.YtjcacgainbjopaaProg
namespace Go.Proofs.Ytjcacgainbjopaa
namespace Hw
open Go Go.RowKit Go.Shelf
attribute [local go_sem] Oper.semAt_some
set_option maxRecDepth 100000
set_option linter.unusedVariables false
set_option linter.unusedSimpArgs false
set_option maxHeartbeats 1000000
theorem add_in (F : Fence) (n : Nat) (hf : F.fn 39) (hro : F.round = none) (b : Nat) (x y : Int) (w : World) (hb : w.cell? ⟨b, 0, none⟩ = some (.int .i64 x)) (hz : w.frozen? ⟨b, 0, none⟩ = false) :
    CallsIn F n Try.prog 39 #[.pointer (some ⟨b, 0, none⟩), .int .i64 y] w fun e w' => (∃ v, e = .returned v) ∧ w' = w.setCell ⟨b, 0, none⟩ (.int .i64 (wrap64 (x + y))) := by
  refine callsIn_of_wp Try.func39 rfl hf ?_ hro
  simp only [Try.ntmps39, List.size_toArray, List.length_cons, List.length_nil, Nat.reduceAdd, Nat.reduceSub, Array.replicate_succ, Array.replicate_zero, List.push_toArray, List.append_toArray, List.nil_append, List.cons_append]
  gi_wp2
  go_end0
  exact ⟨⟨_, rfl⟩, rfl⟩
theorem sent_in (F : Fence) (n : Nat) (hf : F.fn 52) (hro : F.round = none) (c0 c1 c2 c3 c4 c5 c6 : Value) (w : World) :
    CallsIn F n Try.prog 52 #[.agg #[c0, c1, c2, c3, c4, c5, c6]] w fun e w' => e = .returned (.func (.func 63) #[] #[.pointer (some ⟨w.heap.size, 0, none⟩)]) ∧ w' = w.alloc (.cells #[c0, c1, c2, c3, c4, c5, c6] 39) := by
  refine callsIn_of_wp Try.func52 rfl hf ?_ hro
  simp only [Try.ntmps52, List.size_toArray, List.length_cons, List.length_nil, Nat.reduceAdd, Nat.reduceSub, Array.replicate_succ, Array.replicate_zero, List.push_toArray, List.append_toArray, List.nil_append, List.cons_append]
  gi_wp2
  go_ret
  exact ⟨rfl, rfl⟩
def pkV (p : Nat → Int) : Value := .agg #[.int .i64 (p 0), .int .i64 (p 1), .int .i64 (p 2), .int .i64 (p 3), .int .i64 (p 4), .int .i64 (p 5), .int .i64 (p 6)]
structure KB (b N : Nat) (w W : World) : Prop where
  os : W.os = w.os
  tape : W.tape = w.tape
  output : W.output = w.output
  size : w.heap.size ≤ W.heap.size
  block : ∀ k, k < N → k ≠ b → W.heap[k]? = w.heap[k]?
theorem KB.refl (b N : Nat) (w : World) : KB b N w w := ⟨rfl, rfl, rfl, Nat.le_refl _, fun _ _ _ => rfl⟩
theorem KB.trans {b N : Nat} {x y z : World} (h : KB b N x y) (k : KB b N y z) : KB b N x z := ⟨k.os.trans h.os, k.tape.trans h.tape, k.output.trans h.output, Nat.le_trans h.size k.size, fun i h1 h2 => (k.block i h1 h2).trans (h.block i h1 h2)⟩
theorem KB.cell {b N : Nat} {x y : World} (h : KB b N x y) {p : Addr} (h1 : p.block < N) (h2 : p.block ≠ b) : y.cell? p = x.cell? p := World.cell?_of_block (h.block _ h1 h2)
theorem KB.of_grown {b N : Nat} {x y z : World} {row : Option Nat} (h : KB b N x y) (hg : y.grownBy z row) (hN : N ≤ y.heap.size) (hr : ∀ k, row = some k → k < N → k = b) : KB b N x z :=
  ⟨hg.os.trans h.os, hg.tape.trans h.tape, hg.output.trans h.output, Nat.le_trans h.size hg.size, fun i h1 h2 => (hg.block i (by omega) (fun e => h2 (hr i e.symm h1))).trans (h.block i h1 h2)⟩
theorem KB.alloc {b N : Nat} {x y : World} (h : KB b N x y) (hN : N ≤ y.heap.size) (o : Obj) : KB b N x (y.alloc o) := h.of_grown (World.grownBy_alloc _ _ none) hN (fun k e => by cases e)
theorem KB.set {b N : Nat} {x y : World} (h : KB b N x y) (hN : N ≤ y.heap.size) (v : Value) : KB b N x (y.setCell ⟨b, 0, none⟩ v) := h.of_grown (grownBy_setCell' _ _ _) hN (fun k e _ => by cases e; rfl)
theorem sent1_in (F : Fence) (n : Nat) (hf : F.fn 63) (hro : F.round = none) (hn : 1 ≤ n) (l Bs n₀ b off len cap : Nat) (zs : Nat → Nat → Int) (hreach : len * 56 ≤ 140737488351232) (bt : Nat) (hb : b < n₀) (hbt : b ≠ bt) (J Jx : List (Fin len) → World → Prop)
    (hJw : ∀ s W o, J s W → J s (W.alloc o))
    (hY : ∀ pre x W, J pre W → pre.length < len → YieldAt F (n - 1) Try.prog l #[pkV (zs x.1)] W fun e W' =>
      (e = .returned (.bool true) ∧ J (pre ++ [x]) W' ∧ KB bt n₀ W W') ∨ (e = .returned (.bool false) ∧ Jx (pre ++ [x]) W'))
    (W : World) (hW : n₀ ≤ W.heap.size) (hBs : W.cell? ⟨Bs, 3, none⟩ = some (.slice (some ⟨b, off, none⟩) len cap)) (hc : ∀ j, j < len → ∀ i, i < 7 → W.cell? ⟨b, off + j * 7 + i, none⟩ = some (.int .i64 (zs j i))) (h0 : J [] W) :
    CallsIn F n Try.prog 63 #[.func (.yield l) #[] #[], .pointer (some ⟨Bs, 0, none⟩)] W fun e W' => (∃ v, e = .returned v) ∧
      ((∃ ys, ys.map Fin.val = List.range len ∧ J ys W') ∨ (∃ pre, (∃ k, k ≤ len ∧ pre.map Fin.val = List.range k) ∧ Jx pre W')) := by
  refine callsIn_of_wp Try.func63 rfl hf ?_ hro
  simp only [Try.ntmps63, List.size_toArray, List.length_cons, List.length_nil, Nat.reduceAdd, Nat.reduceSub, Array.replicate_succ, Array.replicate_zero, List.push_toArray, List.append_toArray, List.nil_append, List.cons_append]
  gi_wp2
  gi_loopw [8] (fun i wr => ∃ k : Nat, k ≤ len ∧ i = .int .i64 k ∧ (∃ pre, pre.map Fin.val = List.range k ∧ J pre wr) ∧ KB bt n₀ W wr)
    (fun i _ => len - (intOf i).toNat)
  case atStart => exact ⟨0, Nat.zero_le _, rfl, ⟨[], rfl, h0⟩, KB.refl _ _ _⟩
  case round =>
    obtain ⟨k, hk, rfl, ⟨pre, hpre, hJs⟩, hnx⟩ := hrel
    have hcx : k < len → ∀ i, i < 7 → wr.cell? ⟨b, off + k * 7 + i, none⟩ = some (.int .i64 (zs k i)) := fun h i hi => (hnx.cell (p := ⟨b, off + k * 7 + i, none⟩) hb hbt).trans (hc k h i hi)
    by_cases hlt : k < len
    · have hJ2 : J pre (wr.alloc (.cells #[.int .i64 (zs k 0), .int .i64 (zs k 1), .int .i64 (zs k 2), .int .i64 (zs k 3), .int .i64 (zs k 4), .int .i64 (zs k 5), .int .i64 (zs k 6)] 71)) := hJw _ _ _ hJs
      obtain ⟨fn, tmps, assign, body, hy, hR⟩ := hY _ ⟨k, hlt⟩ _ hJ2 (by have := congrArg List.length hpre; simp at this; omega)
      have c0 : wr.cell? ⟨b, off + k * 7, none⟩ = some (.int .i64 (zs k 0)) := hcx hlt 0 (by omega)
      have c1 := hcx hlt 1 (by omega)
      have c2 := hcx hlt 2 (by omega)
      have c3 := hcx hlt 3 (by omega)
      have c4 := hcx hlt 4 (by omega)
      have c5 := hcx hlt 5 (by omega)
      have c6 := hcx hlt 6 (by omega)
      clear hcx
      dsimp only [pkV] at hy
      gi_wp2
      refine hR.mono ?_
      rintro e W3 (⟨rfl, hJ3, hk3⟩ | ⟨rfl, hJx3⟩)
      · gi_wp2
        go_roundw
        case rel => exact ⟨k + 1, by omega, by simp, ⟨_, by simp [hpre, List.range_succ], hJ3⟩, (hnx.alloc (by have := hnx.size; omega) _).trans hk3⟩
        case measure => simp [intOf]; omega
      · gi_wp2
        refine bodyPost_ret (results_none rfl _ _ _) rfl ?_
        exact ⟨⟨_, rfl⟩, .inr ⟨_, ⟨k + 1, by omega, by simp [hpre, List.range_succ]⟩, hJx3⟩⟩
    · obtain rfl : k = len := by omega
      gi_wp2
      go_end0
      exact ⟨⟨_, rfl⟩, .inl ⟨_, hpre, hJs⟩⟩
theorem sent1_zero (F : Fence) (n : Nat) (hf : F.fn 63) (hro : F.round = none) (l Bs cap : Nat) (A : Option Addr) {α : Type} (J : List α → World → Prop) (W : World) (hBs : W.cell? ⟨Bs, 3, none⟩ = some (.slice A 0 cap)) (h0 : J [] W) :
    CallsIn F n Try.prog 63 #[.func (.yield l) #[] #[], .pointer (some ⟨Bs, 0, none⟩)] W fun e W' => (∃ v, e = .returned v) ∧ J [] W' := by
  refine callsIn_of_wp Try.func63 rfl hf ?_ hro
  simp only [Try.ntmps63, List.size_toArray, List.length_cons, List.length_nil, Nat.reduceAdd, Nat.reduceSub, Array.replicate_succ, Array.replicate_zero, List.push_toArray, List.append_toArray, List.nil_append, List.cons_append]
  gi_wp2
  gi_loopw [8] (fun i wr => i = .int .i64 0 ∧ J [] wr) (fun _ _ => 0)
  case atStart => exact ⟨rfl, h0⟩
  case round =>
    obtain ⟨rfl, hJs⟩ := hrel
    gi_wp2
    go_end0
    exact ⟨⟨_, rfl⟩, hJs⟩
def PkRow (bt n₀ : Nat) (W : World) (sv : Value) (len : Nat) (zs : Nat → Nat → Int) : Prop :=
  (len = 0 ∧ ∃ A cap, sv = .slice A 0 cap) ∨ ∃ b off cap, sv = .slice (some ⟨b, off, none⟩) len cap ∧ (b < n₀ ∧ b ≠ bt) ∧ ∀ j, j < len → ∀ i, i < 7 → W.cell? ⟨b, off + j * 7 + i, none⟩ = some (.int .i64 (zs j i))
theorem sent_stops (F : Fence) (n : Nat) (hf : F.fn 63) (hro : F.round = none) (hn : 1 ≤ n) (bt Bs n₀ len : Nat) (sv : Value) (zs : Nat → Nat → Int) (hreach : len * 56 ≤ 140737488351232) (w : World) (hBs : Bs < w.heap.size) (hn₀ : n₀ ≤ w.heap.size)
    (hc : w.cell? ⟨Bs, 3, none⟩ = some sv) (hI : PkRow bt n₀ w sv len zs) :
    SeqStopsK F n Try.prog 63 #[.pointer (some ⟨Bs, 0, none⟩)] (fun x : Fin len => #[pkV (zs x.1)]) (KB bt n₀) (fun ys => ys.map Fin.val = List.range len) (fun pre => ∃ k, k ≤ len ∧ pre.map Fin.val = List.range k) len w := fun l J Jx W hW hJw _ hY h0 => by
  have hc' := (hW.cell (p := ⟨Bs, 3, none⟩) hBs).trans hc
  rcases hI with ⟨rfl, A, cap, rfl⟩ | ⟨b, off, cap, rfl, ⟨hb, hbt⟩, hcs⟩
  · exact (sent1_zero F n hf hro l Bs cap A J W hc' h0).mono fun e W' ⟨he, hj⟩ => ⟨he, .inl ⟨_, rfl, hj⟩⟩
  · exact sent1_in F n hf hro hn l Bs n₀ b off len cap zs hreach bt hb hbt J Jx (fun s W o hs => hJw s W _ none hs (World.grownBy_alloc _ _ none) (fun r e => by cases e)) hY W (Nat.le_trans hn₀ hW.size) hc' (fun j hj i hi => (hW.cell (p := ⟨b, off + j * 7 + i, none⟩) (Nat.lt_of_lt_of_le hb hn₀)).trans (hcs j hj i hi)) h0
theorem cell_new {w : World} {cs : Array Value} {t n i : Nat} {v : Value} (hn : n = w.heap.size) (h : cs[i]? = some v) : (w.alloc (.cells cs t)).cell? ⟨n, i, none⟩ = some v := by
  subst hn
  unfold World.cell?
  rw [World.alloc_heap_new]
  exact h
theorem cell_old {w : World} {o : Obj} {p : Addr} {v : Value} (hp : p.block < w.heap.size) (h : w.cell? p = some v) : (w.alloc o).cell? p = some v := (World.cell?_of_block (Below.heap_alloc _ _ _ hp)).trans h
theorem heap_own {A B : World} {row : Option Nat} {bt et : Nat} {cs : Array Value} (hs : A.heap[bt]? = some (.cells cs et (0, 0))) (hg : A.grownBy B row) (hr : ∀ r, row = some r → ∃ o : Obj, A.heap[r]? = some o ∧ o.isCells = false) : B.heap[bt]? = some (.cells cs et (0, 0)) := by
  refine (hg.block bt (Array.getElem?_eq_some_iff.1 hs).1 (fun e => ?_)).trans hs
  obtain ⟨o, ho, hn⟩ := hr bt e.symm
  rw [hs] at ho
  cases ho
  cases hn
theorem heap_ownI {β : Type} (bt et : Nat) (f : β → Array Value) : Own (fun (s : β) (W : World) => W.heap[bt]? = some (.cells (f s) et (0, 0))) := fun s A B row hs hg hr => heap_own hs hg hr
def accF (zs : Nat → Nat → Int) (lv : Nat → Bool) (gt : Nat → Int) (kind x0 : Int) : List Nat → Int := List.foldl (fun a x => if zs x 1 = kind ∧ lv x = true ∧ ¬ gt x = 1 then wrap64 (a + zs x 4) else a) x0
theorem accF_snoc (zs : Nat → Nat → Int) (lv : Nat → Bool) (gt : Nat → Int) (kind x0 : Int) (pre : List Nat) (x : Nat) : accF zs lv gt kind x0 (pre ++ [x]) = if zs x 1 = kind ∧ lv x = true ∧ ¬ gt x = 1 then wrap64 (accF zs lv gt kind x0 pre + zs x 4) else accF zs lv gt kind x0 pre := by simp [accF]
theorem away_in (F : Fence) (n : Nat) (h51 : F.fn 38) (h52 : F.fn 39) (h72 : F.fn 52) (h91 : F.fn 63) (hro : F.round = none) (hn : 4 ≤ n) (bt len nl ng bl ol bg og : Nat) (x0 kind : Int) (s0 s1 s2 s3 s5 s6 o0 o1 o2 o3 o4 o5 : Value) (AL AG : Option Addr) (cl cg : Nat) (zs : Nat → Nat → Int) (lv : Nat → Bool) (gt : Nat → Int) (w : World)
    (et : TypeId) (hh : w.heap[bt]? = some (.cells #[.int .i64 x0] et (0, 0))) (hreach : len * 56 ≤ 140737488351232) (hrow : PkRow bt w.heap.size w s3 len zs)
    (hseq : ∀ j, j < len → zs j 0 = (j : Int) + 1) (hl : 0 < len → AL = some ⟨bl, ol, none⟩ ∧ bl < w.heap.size ∧ bl ≠ bt ∧ len ≤ nl ∧ ∀ j, j < len → w.cell? ⟨bl, ol + j, none⟩ = some (.bool (lv j)))
    (hg : 0 < len → AG = some ⟨bg, og, none⟩ ∧ bg < w.heap.size ∧ bg ≠ bt ∧ len ≤ ng ∧ ∀ j, j < len → w.cell? ⟨bg, og + j, none⟩ = some (.int .i64 (gt j))) :
    CallsIn F n Try.prog 38 #[.func (.func 39) #[.pointer (some ⟨bt, 0, none⟩)] #[], .agg #[s0, s1, s2, s3, .slice AL nl cl, s5, s6], .agg #[o0, o1, o2, o3, o4, o5, .slice AG ng cg], .int .i64 kind] w fun e W' => e = .returned (.tuple #[]) ∧ W'.heap[bt]? = some (.cells #[.int .i64 (accF zs lv gt kind x0 (List.range len))] et (0, 0)) ∧ KB bt w.heap.size w W' := by
  have h1 : 1 ≤ n := by omega
  have hbt : bt < w.heap.size := (Array.getElem?_eq_some_iff.1 hh).1
  refine callsIn_of_wp_marks Try.func38 rfl h51 ?_ hro
  simp only [Try.ntmps38, List.size_toArray, List.length_cons, List.length_nil, Nat.reduceAdd, Nat.reduceSub, Array.replicate_succ, Array.replicate_zero, List.push_toArray, List.append_toArray, List.nil_append, List.cons_append]
  gi_wp2_with (gi_at_call 52; refine (sent_in F (n - 1) h72 hro _ _ _ _ _ _ _ _).mono ?_; rintro e w' ⟨rfl, rfl⟩)
  obtain ⟨W0, hW0⟩ : ∃ W0, ((((w.alloc (.cells #[.func (.func 39) #[.pointer (some ⟨bt, 0, none⟩)] #[]] 66)).alloc (.cells #[s0, s1, s2, s3, .slice AL nl cl, s5, s6] 39)).alloc (.cells #[o0, o1, o2, o3, o4, o5, .slice AG ng cg] 39)).alloc (.cells #[.int .i64 kind] 3)).alloc (.cells #[s0, s1, s2, s3, .slice AL nl cl, s5, s6] 39) = W0 := ⟨_, rfl⟩
  have hsz : W0.heap.size = w.heap.size + 5 := by rw [← hW0]; simp
  have hB0 : Below w.heap.size w W0 := by rw [← hW0]; exact ((((((Below.refl _ w).alloc (Nat.le_refl _) _).alloc (by simp) _).alloc (by simp <;> omega) _).alloc (by simp <;> omega) _).alloc (by simp <;> omega) _)
  have b4 : W0.cell? ⟨w.heap.size, 0, none⟩ = some (.func (.func 39) #[.pointer (some ⟨bt, 0, none⟩)] #[]) := by rw [← hW0]; exact cell_old (by simp <;> omega) (cell_old (by simp <;> omega) (cell_old (by simp <;> omega) (cell_old (by simp) (cell_new rfl rfl))))
  have b5 : W0.cell? ⟨w.heap.size + 1, 4, none⟩ = some (.slice AL nl cl) := by rw [← hW0]; exact cell_old (by simp <;> omega) (cell_old (by simp <;> omega) (cell_old (by simp) (cell_new (by simp) rfl)))
  have b6 : W0.cell? ⟨w.heap.size + 1 + 1, 6, none⟩ = some (.slice AG ng cg) := by rw [← hW0]; exact cell_old (by simp <;> omega) (cell_old (by simp) (cell_new (by simp) rfl))
  have b7 : W0.cell? ⟨w.heap.size + 1 + 1 + 1, 0, none⟩ = some (.int .i64 kind) := by rw [← hW0]; exact cell_old (by simp) (cell_new (by simp) rfl)
  have b8 : W0.cell? ⟨w.heap.size + 1 + 1 + 1 + 1, 3, none⟩ = some s3 := by rw [← hW0]; exact cell_new (by simp) rfl
  rw [hW0]
  clear hW0
  have hhW : W0.heap[bt]? = some (.cells #[.int .i64 x0] et (0, 0)) := (hB0.block _ hbt).trans hh
  have hrow' : PkRow bt W0.heap.size W0 s3 len zs := by
    rcases hrow with h | ⟨b, off, cap, e, ⟨hb, hb'⟩, hcs⟩
    · exact .inl h
    · exact .inr ⟨b, off, cap, e, ⟨by omega, hb'⟩, fun j hj i hi => (hB0.cell (p := ⟨b, off + j * 7 + i, none⟩) hb).trans (hcs j hj i hi)⟩
  refine wpIn_rangeFunc_ownH hro h1 (gf := 63) (lb := #[.pointer (some ⟨w.heap.size + 1 + 1 + 1 + 1, 0, none⟩)]) rfl h91 (enters_of Try.func63 (by kernel_rfl) rfl)
    (sent_stops F (n - 1) h91 hro (by omega) bt (w.heap.size + 1 + 1 + 1 + 1) W0.heap.size len s3 zs hreach W0 (by omega) (Nat.le_refl _) b8 hrow') (fun h k => h.trans k)
    (fun W l o o' hl ho _ _ => (KB.refl _ _ _).of_grown (grownBy_putObj' W l o') (by have := (Array.getElem?_eq_some_iff.1 ho).1; omega) (fun k e h => by cases e; omega)) (Below.refl _ _) (fun _ => rfl)
    (fun pre W => W.heap[bt]? = some (.cells #[.int .i64 (accF zs lv gt kind x0 (pre.map Fin.val))] et (0, 0)) ∧ KB bt W0.heap.size W0 W)
    (fun _ _ _ => False)
    (OwnFrom.and ((heap_ownI bt et (fun (pre : List (Fin len)) => #[.int .i64 (accF zs lv gt kind x0 (pre.map Fin.val))])).from _) (fun s A B row hs hg hr => hs.of_grown hg hs.size (fun k e h => by have := (hr k e).1; omega)))
    (fun _ _ _ _ _ hs _ _ => hs)
    ⟨hhW, KB.refl _ _ _⟩
    (fun x a' W => ∃ Bx, (W0.heap.size ≤ Bx ∧ ∀ i, i < 7 → W.cell? ⟨Bx, i, none⟩ = some (.int .i64 (zs x.1 i))) ∧ a' = { tmps := #[.func (.func 39) #[.pointer (some ⟨bt, 0, none⟩)] #[], .agg #[s0, s1, s2, s3, .slice AL nl cl, s5, s6], .agg #[o0, o1, o2, o3, o4, o5, .slice AG ng cg], .int .i64 kind, .pointer (some ⟨w.heap.size, 0, none⟩), .pointer (some ⟨w.heap.size + 1, 0, none⟩), .pointer (some ⟨w.heap.size + 1 + 1, 0, none⟩), .pointer (some ⟨w.heap.size + 1 + 1 + 1, 0, none⟩), .pointer (some ⟨Bx, 0, none⟩), .agg #[s0, s1, s2, s3, .slice AL nl cl, s5, s6], .func (.func 63) #[] #[.pointer (some ⟨w.heap.size + 1 + 1 + 1 + 1, 0, none⟩)], pkV (zs x.1), undef, undef, undef, undef, undef, undef, undef, undef, undef, undef, undef, undef, undef, undef, undef, undef, undef, undef, undef, undef, undef, undef, undef, undef, undef, undef, undef], defers := [] })
    (fun x a' s A B row hs hg hr => by obtain ⟨Bx, ⟨h2, h3⟩, h4⟩ := hs; exact ⟨Bx, ⟨h2, fun i hi => cell_kept (h3 i hi) hg (fun r e => (hr r e).2)⟩, h4⟩) ?assign ?body ?done ?stop
  case assign =>
    rintro l pre x W K ⟨hc, hB⟩ hK
    dsimp only [pkV]
    have hlt : bt < W.heap.size := by have := hB.size; omega
    have e0 := hseq x.1 x.2
    gi_wp2
    refine hK _ _ ((KeepsOthers.alloc _ _).from _) ((KB.refl _ _ _).alloc hB.size _) ⟨(Below.heap_alloc _ _ _ hlt).trans hc, hB.alloc hB.size _⟩ ⟨W.heap.size, ⟨hB.size, fun i hi => ?_⟩, by simp only [pkV, e0]⟩
    match i, hi with
    | 0, _ => exact cell_new rfl (by rw [e0]; rfl)
    | 1, _ => exact cell_new rfl rfl
    | 2, _ => exact cell_new rfl rfl
    | 3, _ => exact cell_new rfl rfl
    | 4, _ => exact cell_new rfl rfl
    | 5, _ => exact cell_new rfl rfl
    | 6, _ => exact cell_new rfl rfl
  case body =>
    rintro l pre x a' W hl2 ⟨r, hr⟩ ⟨hh2, hB⟩ ⟨Bx, ⟨hBx, hx⟩, rfl⟩ hlt
    have hx2 := x.2
    have hc : W.cell? ⟨bt, 0, none⟩ = some (.int .i64 (accF zs lv gt kind x0 (pre.map Fin.val))) := by unfold World.cell?; rw [hh2]; rfl
    have hf : W.frozen? ⟨bt, 0, none⟩ = false := by unfold World.frozen?; rw [hh2]; rfl
    obtain ⟨rfl, hbl, hnb, hnl, hlv⟩ := hl (by omega)
    obtain ⟨rfl, hbg, hgb, hng, hgt⟩ := hg (by omega)
    have c4 := (hB.cell (p := ⟨w.heap.size, 0, none⟩) (by show w.heap.size < _; omega) (by show w.heap.size ≠ bt; omega)).trans b4
    have c5 := (hB.cell (p := ⟨w.heap.size + 1, 4, none⟩) (by show w.heap.size + 1 < _; omega) (by show w.heap.size + 1 ≠ bt; omega)).trans b5
    have c6 := (hB.cell (p := ⟨w.heap.size + 1 + 1, 6, none⟩) (by show w.heap.size + 1 + 1 < _; omega) (by show w.heap.size + 1 + 1 ≠ bt; omega)).trans b6
    have c7 := (hB.cell (p := ⟨w.heap.size + 1 + 1 + 1, 0, none⟩) (by show w.heap.size + 1 + 1 + 1 < _; omega) (by show w.heap.size + 1 + 1 + 1 ≠ bt; omega)).trans b7
    have clv := (hB.cell (p := ⟨bl, ol + x.1, none⟩) (by show bl < _; omega) hnb).trans ((hB0.cell (p := ⟨bl, ol + x.1, none⟩) hbl).trans (hlv x.1 x.2))
    have cgt := (hB.cell (p := ⟨bg, og + x.1, none⟩) (by show bg < _; omega) hgb).trans ((hB0.cell (p := ⟨bg, og + x.1, none⟩) hbg).trans (hgt x.1 x.2))
    have p0 : W.cell? ⟨Bx, 0, none⟩ = some (.int .i64 ((x.1 : Int) + 1)) := by rw [hx 0 (by omega), hseq x.1 x.2]
    have p1 := hx 1 (by omega)
    have p4 := hx 4 (by omega)
    have hN : w.heap.size + 5 ≤ W.heap.size := by have := hB.size; omega
    have hB' : KB bt (w.heap.size + 5) W0 W := by rw [← hsz]; exact hB
    have eacc := accF_snoc zs lv gt kind x0 (pre.map Fin.val) x.1
    clear hx hlv hgt b4 b5 b6 b7 b8 hrow hrow' hhW
    by_cases k1 : zs x.1 1 = kind
    · cases k2 : lv x.1 with
      | false =>
        rw [k2] at clv
        gi_wp2
        exact ⟨(KeepsOthers.refl _).from _, KB.refl _ _ _, ⟨by rw [List.map_append, List.map_singleton, eacc, if_neg (by rw [k2]; exact fun h => (by cases h.2.1))]; exact hh2, hB'⟩⟩
      | true =>
        rw [k2] at clv
        by_cases k3 : gt x.1 = 1
        · gi_wp2
          exact ⟨(KeepsOthers.refl _).from _, KB.refl _ _ _, ⟨by rw [List.map_append, List.map_singleton, eacc, if_neg (by exact fun h => h.2.2 k3)]; exact hh2, hB'⟩⟩
        · gi_wp2
          refine ⟨fun _ => by omega, (CallsIn.inRound l (add_in F _ h52 hro bt _ _ W hc hf)).mono ?_⟩
          rintro e W2 ⟨⟨v, rfl⟩, rfl⟩
          gi_wp2
          exact ⟨(KeepsOthers.setCell _ _ _).from _, (KB.refl _ _ _).set hB.size _, ⟨by rw [List.map_append, List.map_singleton, eacc, if_pos ⟨k1, k2, k3⟩]; exact heap_setCell_same W bt 0 _ et _ hh2, hB.set hB.size _⟩⟩
    · gi_wp2
      exact ⟨(KeepsOthers.refl _).from _, KB.refl _ _ _, ⟨by rw [List.map_append, List.map_singleton, eacc, if_neg (by exact fun h => k1 h.1)]; exact hh2, hB'⟩⟩
  case done =>
    rintro D ys W hD hys ⟨hh2, hB⟩ hK
    gi_wp2
    refine ⟨by simp, .inl ⟨_, _, rfl, run_takeDeferred hK, ?_⟩⟩
    refine ⟨_, results_none rfl _ _ _, rfl, ?_, ?_⟩
    · rw [← hys]
      exact (World.putObj_heap_other (fun e => by subst e; rw [hh2] at hK; cases hK)).trans hh2
    · have h2 : KB bt w.heap.size w W0 := ⟨hB0.os, hB0.tape, hB0.output, hB0.size, fun k h _ => hB0.block k h⟩
      have h3 : KB bt w.heap.size W0 W := ⟨hB.os, hB.tape, hB.output, hB.size, fun k h hn => hB.block k (by omega) hn⟩
      exact (h2.trans h3).of_grown (grownBy_putObj' W D (.deferred none)) (by have := hB.size; omega) (fun k e h => by cases e; omega)
  case stop =>
    rintro D c pre W hD _ h _
    exact h.elim
end Hw
end Go.Proofs.Ytjcacgainbjopaa
