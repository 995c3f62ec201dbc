/- What a law writes over what it was handed: the walk of the functions that do so. -/
import Derived.Shelf.Abstract
import Derived.RangeFuncBox
import Derived.WalkKit
import Derived.OwnWalkIn
import Derived.TacticsInMore
import Derived.LoopNIn
import Derived.LoopIn
import Derived.Test.YtfboldbfbmmahaaProg
import Derived.Test.YtfboldbfbmmahaaX25
namespace Go.Proofs.Ytfboldbfbmmahaa
namespace Hw
open Go Go.RowKit
attribute [local go_sem] Oper.semAt_some
set_option maxRecDepth 100000
set_option linter.unusedVariables false
set_option linter.unusedSimpArgs false
set_option maxHeartbeats 10000000
def like (u v : Value) : Prop := v = u ∨ (∃ n m, u = .int .i64 n ∧ v = .int .i64 m) ∨ ∃ b c, u = .bool b ∧ v = .bool c
theorem like.trans {u v x : Value} (h : like u v) (k : like v x) : like u x := by
  rcases h with rfl | ⟨n, m, rfl, rfl⟩ | ⟨b, c, rfl, rfl⟩
  · exact k
  · rcases k with rfl | ⟨n', m', h1, rfl⟩ | ⟨b', c', h1, rfl⟩
    · exact .inr (.inl ⟨_, _, rfl, rfl⟩)
    · exact .inr (.inl ⟨_, _, rfl, rfl⟩)
    · cases h1
  · rcases k with rfl | ⟨n', m', h1, rfl⟩ | ⟨b', c', h1, rfl⟩
    · exact .inr (.inr ⟨_, _, rfl, rfl⟩)
    · cases h1
    · exact .inr (.inr ⟨_, _, rfl, rfl⟩)
structure Mk (R : Nat → Prop) (w W : World) : Prop where
  os : W.os = w.os
  tape : W.tape = w.tape
  output : W.output = w.output
  size : w.heap.size ≤ W.heap.size
  block : ∀ b, b < w.heap.size → ¬ R b → W.heap[b]? = w.heap[b]?
  cell : ∀ p u, w.cell? p = some u → ∃ v, W.cell? p = some v ∧ like u v
  unf : ∀ (b : Nat), (∀ o : Obj, w.heap[b]? = some o → Unf o) → ∀ o : Obj, W.heap[b]? = some o → Unf o
theorem Mk.refl (R : Nat → Prop) (w : World) : Mk R w w := ⟨rfl, rfl, rfl, Nat.le_refl _, fun _ _ _ => rfl, fun p u h => ⟨u, h, .inl rfl⟩, fun b h => h⟩
theorem Mk.trans {R : Nat → Prop} {x y z : World} (h : Mk R x y) (k : Mk R y z) : Mk R x z := ⟨k.os.trans h.os, k.tape.trans h.tape, k.output.trans h.output, Nat.le_trans h.size k.size, fun b hl hb => (k.block b (Nat.lt_of_lt_of_le hl h.size) hb).trans (h.block b hl hb), fun p u hp => by
  obtain ⟨v, h1, h2⟩ := h.cell p u hp
  obtain ⟨v', h3, h4⟩ := k.cell p v h1
  exact ⟨v', h3, h2.trans h4⟩, fun b hb => k.unf b (h.unf b hb)⟩
theorem setCell_other {w : World} {b o k : Nat} {v : Value} (h : k ≠ b) : (w.setCell ⟨b, o, none⟩ v).heap[k]? = w.heap[k]? := by
  show (w.heap.modify b _)[k]? = _
  rw [Array.getElem?_modify, if_neg (Ne.symm h)]
theorem Mk.set {R : Nat → Prop} {w : World} {b o : Nat} {u v : Value} (hR : R b) (hc : w.cell? ⟨b, o, none⟩ = some u) (hl : like u v) : Mk R w (w.setCell ⟨b, o, none⟩ v) where
  os := rfl
  tape := rfl
  output := rfl
  size := Nat.le_of_eq (by show _ = (w.heap.modify b _).size; simp)
  block := fun k _ hk => setCell_other fun e => hk (by rw [e]; exact hR)
  cell := fun p x hp => by
    by_cases e : (⟨b, o, none⟩ : Addr) = p
    · subst e
      rw [hc] at hp
      cases hp
      exact ⟨v, World.cell?_setCell_same _ _ _ hc, hl⟩
    · exact ⟨x, (World.cell?_setCell_other _ _ _ _ e).trans hp, .inl rfl⟩
  unf := fun k h0 x hx => by
    have hx : (w.heap.modify b _)[k]? = some x := hx
    rw [Array.getElem?_modify] at hx
    split at hx
    · cases hw : w.heap[k]? with
      | none => rw [hw] at hx; cases hx
      | some y =>
        rw [hw] at hx
        have hy := h0 y hw
        simp only [Option.map_some, Option.some.injEq] at hx
        subst hx
        cases y with
        | cells c e r => exact hy
        | _ => exact hy
    · exact h0 x hx
theorem Mk.alloc {R : Nat → Prop} (w : World) {o : Obj} (ho : Unf o) : Mk R w (w.alloc o) where
  os := rfl
  tape := rfl
  output := rfl
  size := by simp
  block := fun k hk _ => Below.heap_alloc _ _ _ hk
  cell := fun p u hp => ⟨u, by
    have hl : p.block < w.heap.size := by
      rcases Nat.lt_or_ge p.block w.heap.size with h | h
      · exact h
      · unfold World.cell? at hp
        rw [Array.getElem?_eq_none h] at hp
        cases hp
    exact (World.cell?_of_block (Below.heap_alloc _ _ _ hl)).trans hp, .inl rfl⟩
  unf := fun b h0 x hx => by
    rcases Nat.lt_or_ge b w.heap.size with h | h
    · exact h0 x ((Below.heap_alloc _ _ _ h).symm.trans hx)
    · have hl := lt_of_block hx
      have : (w.alloc o).heap.size = w.heap.size + 1 := by simp
      obtain rfl : b = w.heap.size := by omega
      rw [World.alloc_heap_new] at hx
      cases hx
      exact ho
def UnfR (R : Nat → Prop) (w : World) : Prop := ∀ b, R b → ∀ o : Obj, w.heap[b]? = some o → Unf o
theorem UnfR.mk {R R' : Nat → Prop} {w W : World} (h : UnfR R w) (k : Mk R' w W) : UnfR R W := fun b hb => k.unf b (h b hb)
theorem UnfR.at {R : Nat → Prop} {w : World} (h : UnfR R w) {b o : Nat} (hb : R b) : w.frozen? ⟨b, o, none⟩ = false := by
  unfold World.frozen?
  cases hw : w.heap[b]? with
  | none => simp [hw]
  | some x =>
    have := h b hb x hw
    cases x with
    | cells c e r =>
      have : r = (0, 0) := this
      subst this
      simp [hw]
    | _ => simp [hw]
def RowW (W : World) (R : Nat → Prop) (v : Value) (n z : Nat) (P : Nat → Nat → Value → Prop) : Prop :=
  ∃ A c, v = .slice A n c ∧ (n : Int) ≤ 9223372036854775807 ∧ (0 < n → ∃ b off, A = some ⟨b, off, none⟩ ∧ R b ∧ ∀ k, k < n → ∀ j, j < z → ∃ u, W.cell? ⟨b, off + (k * z + j), none⟩ = some u ∧ P k j u)
theorem RowW.mk {W W' : World} {R R' : Nat → Prop} {v : Value} {n z : Nat} {P P' : Nat → Nat → Value → Prop} (k : Mk R' W W') (hP : ∀ i j u x, like u x → P i j u → P' i j x) (h : RowW W R v n z P) : RowW W' R v n z P' := by
  obtain ⟨A, c, rfl, h1, h2⟩ := h
  refine ⟨A, c, rfl, h1, fun h0 => ?_⟩
  obtain ⟨b, off, rfl, h3, h4⟩ := h2 h0
  refine ⟨b, off, rfl, h3, fun i hi j hj => ?_⟩
  obtain ⟨u, h5, h6⟩ := h4 i hi j hj
  obtain ⟨x, h7, h8⟩ := k.cell _ _ h5
  exact ⟨x, h7, hP i j u x h8 h6⟩
def isI (u : Value) : Prop := ∃ m, u = .int .i64 m
def isB (u : Value) : Prop := ∃ b, u = .bool b
theorem isI.like {u v : Value} (h : isI u) (k : Hw.like u v) : isI v := by
  obtain ⟨m, rfl⟩ := h
  rcases k with rfl | ⟨_, m', _, rfl⟩ | ⟨_, _, h, _⟩
  · exact ⟨m, rfl⟩
  · exact ⟨m', rfl⟩
  · cases h
theorem isB.like {u v : Value} (h : isB u) (k : Hw.like u v) : isB v := by
  obtain ⟨m, rfl⟩ := h
  rcases k with rfl | ⟨_, _, h, _⟩ | ⟨_, m', _, rfl⟩
  · exact ⟨m, rfl⟩
  · cases h
  · exact ⟨m', rfl⟩
def IntsW (W : World) (R : Nat → Prop) (n : Nat) (v : Value) : Prop := RowW W R v n 1 fun _ _ u => isI u
def BoolsW (W : World) (R : Nat → Prop) (n : Nat) (v : Value) : Prop := RowW W R v n 1 fun _ _ u => isB u
def PktsW (W : World) (R : Nat → Prop) (n : Nat) (v : Value) : Prop := RowW W R v n 7 fun _ _ u => isI u
theorem sl_like {A : Option Addr} {n c : Nat} {v : Value} (k : like (.slice A n c) v) : v = .slice A n c := by
  rcases k with rfl | ⟨_, _, h, _⟩ | ⟨_, _, h, _⟩
  · rfl
  · cases h
  · cases h
theorem row_like {W W' : World} {R R' : Nat → Prop} {u v : Value} {n z : Nat} {P P' : Nat → Nat → Value → Prop} (k : Mk R' W W') (hP : ∀ i j u x, like u x → P i j u → P' i j x) (h : RowW W R u n z P) (hl : like u v) : RowW W' R v n z P' := by
  obtain ⟨A, c, rfl, h1, h2⟩ := id h
  rw [sl_like hl]
  exact h.mk k hP
theorem Mk.put {R : Nat → Prop} {w W : World} {b o : Nat} {y m : Int} (h : Mk R w W) (hR : R b) (hc : w.cell? ⟨b, o, none⟩ = some (.int .i64 y)) : Mk R w (W.setCell ⟨b, o, none⟩ (.int .i64 m)) := by
  obtain ⟨v, h1, h2⟩ := h.cell _ _ hc
  obtain ⟨y', rfl⟩ := isI.like ⟨y, rfl⟩ h2
  exact h.trans (Mk.set hR h1 (.inr (.inl ⟨_, _, rfl, rfl⟩)))
theorem markInts_in (F : Fence) (n : Nat) (hf : F.fn 25) (hro : F.round = none) (R : Nat → Prop) (l : Nat) (v : Value) (k : Int) (W : World) (hu : UnfR R W) (hv : IntsW W R l v) (h0 : 0 ≤ k) (hk : k + (l : Int) ≤ 9223372036854775807) :
    CallsIn F n Try.prog 25 #[v, .int .i64 k] W fun e W' => e = .returned (.int .i64 (k + l)) ∧ Mk R W W' ∧ ∀ b off c, v = .slice (some ⟨b, off, none⟩) l c → ∀ t, t < l → W'.cell? ⟨b, off + t, none⟩ = some (.int .i64 (k + t)) := by
  obtain ⟨A, c, rfl, hl, hrow⟩ := hv
  refine callsIn_of_wp Try.func25 rfl hf ?_ hro
  simp only [Try.ntmps25, List.size_toArray, List.length_cons, List.length_nil, Nat.reduceAdd, Nat.reduceSub, Array.replicate_succ, Array.replicate_zero, List.push_toArray, List.append_toArray, List.nil_append, List.cons_append]
  gi_wp2
  gi_loopw [1, 5] (fun kk i wr => ∃ j : Nat, j ≤ l ∧ kk = .int .i64 (k + j) ∧ i = .int .i64 j ∧ Mk R W wr ∧ ∀ b off, A = some ⟨b, off, none⟩ → ∀ t, t < j → wr.cell? ⟨b, off + t, none⟩ = some (.int .i64 (k + t)))
    (fun _ i _ => l - (intOf i).toNat)
  case atStart => exact ⟨0, Nat.zero_le _, by simp, rfl, Mk.refl _ _, fun _ _ _ t ht => absurd ht (Nat.not_lt_zero t)⟩
  case round =>
    obtain ⟨j, hj, rfl, rfl, hm, he⟩ := hrel
    by_cases hlt : j < l
    · obtain ⟨b, off, rfl, hR, hc⟩ := hrow (by omega)
      obtain ⟨u, hu1, x, rfl⟩ := hc j hlt 0 (by decide)
      rw [Nat.mul_one, Nat.add_zero] at hu1
      obtain ⟨u2, hc2, hl2⟩ := hm.cell _ _ hu1
      obtain ⟨y, rfl⟩ := isI.like ⟨x, rfl⟩ hl2
      have hz : wr.frozen? ⟨b, off + j, none⟩ = false := (hu.mk hm).at hR
      gi_wp2
      go_roundw
      case rel =>
        refine ⟨j + 1, by omega, ?_, ?_, hm.trans (Mk.set hR hc2 (.inr (.inl ⟨_, _, rfl, rfl⟩))), ?_⟩
        · rw [show k + (j : Int) + 1 = k + ((j + 1 : Nat) : Int) by omega]
        · rw [show (j : Int) + 1 = ((j + 1 : Nat) : Int) by omega]
        · intro b' off' e t ht
          cases e
          by_cases htj : t = j
          · subst htj
            exact World.cell?_setCell_same _ _ _ hc2
          · exact (World.cell?_setCell_other _ _ _ _ (fun e => by have := congrArg Addr.off e; simp at this; omega)).trans (he _ _ rfl t (by omega))
      case measure => simp [intOf]; omega
    · obtain rfl : j = l := by omega
      gi_wp2
      go_ret
      exact ⟨rfl, hm, fun b off c e => by cases e; exact he b off rfl⟩
theorem markBools_in (F : Fence) (n : Nat) (hf : F.fn 74) (hro : F.round = none) (R : Nat → Prop) (l : Nat) (v : Value) (k : Int) (W : World) (hu : UnfR R W) (hv : BoolsW W R l v) (h0 : 0 ≤ k) (hk : k + (l : Int) ≤ 9223372036854775807) :
    CallsIn F n Try.prog 74 #[v, .int .i64 k] W fun e W' => e = .returned (.int .i64 (k + l)) ∧ Mk R W W' := by
  obtain ⟨A, c, rfl, hl, hrow⟩ := hv
  refine callsIn_of_wp Try.func74 rfl hf ?_ hro
  simp only [Try.ntmps74, List.size_toArray, List.length_cons, List.length_nil, Nat.reduceAdd, Nat.reduceSub, Array.replicate_succ, Array.replicate_zero, List.push_toArray, List.append_toArray, List.nil_append, List.cons_append]
  gi_wp2
  gi_loopw [1, 5] (fun kk i wr => ∃ j : Nat, j ≤ l ∧ kk = .int .i64 (k + j) ∧ i = .int .i64 j ∧ Mk R W wr)
    (fun _ i _ => l - (intOf i).toNat)
  case atStart => exact ⟨0, Nat.zero_le _, by simp, rfl, Mk.refl _ _⟩
  case round =>
    obtain ⟨j, hj, rfl, rfl, hm⟩ := hrel
    by_cases hlt : j < l
    · obtain ⟨b, off, rfl, hR, hc⟩ := hrow (by omega)
      obtain ⟨u, hu1, x, rfl⟩ := hc j hlt 0 (by decide)
      rw [Nat.mul_one, Nat.add_zero] at hu1
      obtain ⟨u2, hc2, hl2⟩ := hm.cell _ _ hu1
      obtain ⟨y, rfl⟩ := isB.like ⟨x, rfl⟩ hl2
      have hz : wr.frozen? ⟨b, off + j, none⟩ = false := (hu.mk hm).at hR
      gi_wp2
      go_roundw
      case rel =>
        refine ⟨j + 1, by omega, ?_, ?_, hm.trans (Mk.set hR hc2 (.inr (.inr ⟨_, _, rfl, rfl⟩)))⟩
        · rw [show k + (j : Int) + 1 = k + ((j + 1 : Nat) : Int) by omega]
        · rw [show (j : Int) + 1 = ((j + 1 : Nat) : Int) by omega]
      case measure => simp [intOf]; omega
    · obtain rfl : j = l := by omega
      gi_wp2
      go_ret
      exact ⟨rfl, hm⟩
theorem markPkts_in (F : Fence) (n : Nat) (hf : F.fn 73) (hro : F.round = none) (R : Nat → Prop) (l : Nat) (v : Value) (k : Int) (W : World) (hu : UnfR R W) (hv : PktsW W R l v) (h0 : 0 ≤ k) (hk : k + 7 * (l : Int) ≤ 9223372036854775807) (hreach : l * 56 ≤ 140737488351232) :
    CallsIn F n Try.prog 73 #[v, .int .i64 k] W fun e W' => e = .returned (.int .i64 (k + 7 * l)) ∧ Mk R W W' := by
  obtain ⟨A, c, rfl, hl, hrow⟩ := hv
  refine callsIn_of_wp Try.func73 rfl hf ?_ hro
  simp only [Try.ntmps73, List.size_toArray, List.length_cons, List.length_nil, Nat.reduceAdd, Nat.reduceSub, Array.replicate_succ, Array.replicate_zero, List.push_toArray, List.append_toArray, List.nil_append, List.cons_append]
  gi_wp2
  gi_loopw [1, 5] (fun kk i wr => ∃ j : Nat, j ≤ l ∧ kk = .int .i64 (k + 7 * j) ∧ i = .int .i64 j ∧ Mk R W wr)
    (fun _ i _ => l - (intOf i).toNat)
  case atStart => exact ⟨0, Nat.zero_le _, by simp, rfl, Mk.refl _ _⟩
  case round =>
    obtain ⟨j, hj, rfl, rfl, hm⟩ := hrel
    by_cases hlt : j < l
    · obtain ⟨b, off, rfl, hR, hc⟩ := hrow (by omega)
      have key : ∀ i, i < 7 → ∃ y, wr.cell? ⟨b, off + j * 7 + i, none⟩ = some (.int .i64 y) := fun i hi => by
        obtain ⟨u, hu1, x, rfl⟩ := hc j hlt i hi
        rw [← Nat.add_assoc] at hu1
        obtain ⟨u2, hc2, hl2⟩ := hm.cell _ _ hu1
        obtain ⟨y, rfl⟩ := isI.like ⟨x, rfl⟩ hl2
        exact ⟨y, hc2⟩
      have hz : ∀ o, wr.frozen? ⟨b, o, none⟩ = false := fun o => (hu.mk hm).at hR
      obtain ⟨y0, c0⟩ := key 0 (by decide)
      obtain ⟨y1, c1⟩ := key 1 (by decide)
      obtain ⟨y2, c2⟩ := key 2 (by decide)
      obtain ⟨y3, c3⟩ := key 3 (by decide)
      obtain ⟨y4, c4⟩ := key 4 (by decide)
      obtain ⟨y5, c5⟩ := key 5 (by decide)
      obtain ⟨y6, c6⟩ := key 6 (by decide)
      have z0 := hz (off + j * 7)
      have z1 := hz (off + j * 7 + 1)
      have z2 := hz (off + j * 7 + 2)
      have z3 := hz (off + j * 7 + 3)
      have z4 := hz (off + j * 7 + 4)
      have z5 := hz (off + j * 7 + 5)
      have z6 := hz (off + j * 7 + 6)
      have c0 : wr.cell? ⟨b, off + j * 7, none⟩ = some (.int .i64 y0) := c0
      gi_wp2
      go_roundw
      case rel =>
        refine ⟨j + 1, by omega, ?_, ?_, hm.trans ((((((((Mk.refl R wr).put hR c0).put hR c1).put hR c2).put hR c3).put hR c4).put hR c5).put hR c6)⟩
        · rw [show k + 7 * (j : Int) + 1 + 1 + 1 + 1 + 1 + 1 + 1 = k + 7 * ((j + 1 : Nat) : Int) by omega]
        · rw [show (j : Int) + 1 = ((j + 1 : Nat) : Int) by omega]
      case measure => simp [intOf]; omega
    · obtain rfl : j = l := by omega
      gi_wp2
      go_ret
      exact ⟨rfl, hm⟩
def stN (s : St) : Nat := 3 + 7 * s.sent.length + s.live.length + s.back.length + s.got.length
def stsN (l : List St) : Nat → Nat
  | 0 => 0
  | k + 1 => stsN l k + stN (l.getD k zSt)
def StW (W : World) (R : Nat → Prop) (s : St) (j : Nat) (u : Value) : Prop := match j with
  | 3 => PktsW W R s.sent.length u
  | 4 => BoolsW W R s.live.length u
  | 5 => BoolsW W R s.back.length u
  | 6 => IntsW W R s.got.length u
  | _ => isI u
theorem StW.mk {W W' : World} {R R' : Nat → Prop} (k : Mk R' W W') {s : St} {j : Nat} {u v : Value} (hl : like u v) (h : StW W R s j u) : StW W' R s j v := by
  unfold StW at h ⊢
  split at h
  · exact row_like k (fun _ _ _ _ a b => b.like a) h hl
  · exact row_like k (fun _ _ _ _ a b => b.like a) h hl
  · exact row_like k (fun _ _ _ _ a b => b.like a) h hl
  · exact row_like k (fun _ _ _ _ a b => b.like a) h hl
  · exact h.like hl
def StsW (W : World) (R : Nat → Prop) (l : List St) (v : Value) : Prop := RowW W R v l.length 7 fun k j u => StW W R (l.getD k zSt) j u
theorem StsW.mk {W W' : World} {R R' : Nat → Prop} (k : Mk R' W W') {l : List St} {v : Value} (h : StsW W R l v) : StsW W' R l v := RowW.mk k (fun _ _ _ _ a b => b.mk k a) h
theorem stsN_le {l : List St} {a b : Nat} (h : a ≤ b) : stsN l a ≤ stsN l b := by
  induction b with
  | zero => rw [show a = 0 by omega]; exact Nat.le_refl _
  | succ b ih =>
    rcases Nat.lt_or_ge a (b + 1) with g | g
    · exact Nat.le_trans (ih (by omega)) (Nat.le_add_right _ _)
    · rw [show a = b + 1 by omega]; exact Nat.le_refl _
theorem markSts_in (F : Fence) (n : Nat) (hf : F.fn 75) (hp : F.fn 73) (hb : F.fn 74) (hi : F.fn 25) (hro : F.round = none) (hn : 1 ≤ n) (R : Nat → Prop) (l : List St) (v : Value) (k : Int) (W : World) (hu : UnfR R W) (hv : StsW W R l v) (h0 : 0 ≤ k) (hk : k + (stsN l l.length : Int) ≤ 1000000000000) (hs : ∀ j, j < l.length → (l.getD j zSt).sent.length ≤ 4294967296) :
    CallsIn F n Try.prog 75 #[v, .int .i64 k] W fun e W' => e = .returned (.int .i64 (k + stsN l l.length)) ∧ Mk R W W' := by
  obtain ⟨A, c, rfl, hl, hrow⟩ := id hv
  refine callsIn_of_wp Try.func75 rfl hf ?_ hro
  simp only [Try.ntmps75, List.size_toArray, List.length_cons, List.length_nil, Nat.reduceAdd, Nat.reduceSub, Array.replicate_succ, Array.replicate_zero, List.push_toArray, List.append_toArray, List.nil_append, List.cons_append]
  gi_wp2
  gi_loopw [1, 5] (fun kk i wr => ∃ j : Nat, j ≤ l.length ∧ kk = .int .i64 (k + stsN l j) ∧ i = .int .i64 j ∧ Mk R W wr)
    (fun _ i _ => l.length - (intOf i).toNat)
  case atStart => exact ⟨0, Nat.zero_le _, by simp [stsN], rfl, Mk.refl _ _⟩
  case round =>
    obtain ⟨j, hj, rfl, rfl, hm⟩ := hrel
    by_cases hlt : j < l.length
    · obtain ⟨b, off, rfl, hR, -⟩ := hrow (by omega)
      have hle : stsN l j + stN (l.getD j zSt) ≤ stsN l l.length := stsN_le (l := l) (a := j + 1) (by omega)
      have hsj := hs j hlt
      obtain ⟨s, es⟩ : ∃ s, l.getD j zSt = s := ⟨_, rfl⟩
      have e1 : stsN l (j + 1) = stsN l j + stN s := by rw [← es]; rfl
      rw [es] at hle hsj
      have hst : stN s = 3 + 7 * s.sent.length + s.live.length + s.back.length + s.got.length := rfl
      have at_ : ∀ {x : World}, Mk R W x → ∀ i, i < 7 → ∃ u, x.cell? ⟨b, off + j * 7 + i, none⟩ = some u ∧ StW x R s i u := fun {x} hx i hi => by
        obtain ⟨A', c', e, -, h2⟩ := hv.mk hx
        cases e
        obtain ⟨b', off', e, -, h3⟩ := h2 (by omega)
        cases e
        have h4 := h3 j hlt i hi
        rw [← Nat.add_assoc] at h4
        rw [← es]
        exact h4
      have hz : ∀ {x : World}, Mk R W x → ∀ o, x.frozen? ⟨b, o, none⟩ = false := fun hx o => (hu.mk hx).at hR
      obtain ⟨_, c0, y0, rfl⟩ := at_ hm 0 (by decide)
      obtain ⟨_, c1, y1, rfl⟩ := at_ hm 1 (by decide)
      obtain ⟨_, c2, y2, rfl⟩ := at_ hm 2 (by decide)
      obtain ⟨u3, c3, s3⟩ := at_ hm 3 (by decide)
      have z0 := hz hm (off + j * 7)
      have z1 := hz hm (off + j * 7 + 1)
      have z2 := hz hm (off + j * 7 + 2)
      have c0 : wr.cell? ⟨b, off + j * 7, none⟩ = some (.int .i64 y0) := c0
      have q0 : Mk R wr _ := (((Mk.refl R wr).put (m := k + stsN l j) hR c0).put (m := k + stsN l j + 1) hR c1).put (m := k + stsN l j + 1 + 1) hR c2
      have m0 := hm.trans q0
      gi_wp2
      refine (markPkts_in F (n - 1) hp hro R _ u3 _ _ (hu.mk m0) (StW.mk q0 (.inl rfl) s3) (by omega) (by omega) (by omega)).mono ?_
      rintro e w1 ⟨rfl, q1⟩
      have m1 := m0.trans q1
      obtain ⟨u4, c4, s4⟩ := at_ m1 4 (by decide)
      clear c0 c1 c2 c3 s3 z0 z1 z2 q0 q1 m0
      gi_wp2
      refine (markBools_in F (n - 1) hb hro R _ u4 _ _ (hu.mk m1) s4 (by omega) (by omega)).mono ?_
      rintro e w2 ⟨rfl, q2⟩
      have m2 := m1.trans q2
      obtain ⟨u5, c5, s5⟩ := at_ m2 5 (by decide)
      clear c4 s4 q2 m1
      gi_wp2
      refine (markBools_in F (n - 1) hb hro R _ u5 _ _ (hu.mk m2) s5 (by omega) (by omega)).mono ?_
      rintro e w3 ⟨rfl, q3⟩
      have m3 := m2.trans q3
      obtain ⟨u6, c6, s6⟩ := at_ m3 6 (by decide)
      clear c5 s5 q3 m2
      gi_wp2
      refine (markInts_in F (n - 1) hi hro R _ u6 _ _ (hu.mk m3) s6 (by omega) (by omega)).mono ?_
      rintro e w4 ⟨rfl, q4, -⟩
      have m4 := m3.trans q4
      clear c6 s6 q4 m3
      gi_wp2
      go_roundw
      case rel =>
        refine ⟨j + 1, by omega, ?_, ?_, m4⟩
        · rw [e1]
          congr 1
          omega
        · rw [show (j : Int) + 1 = ((j + 1 : Nat) : Int) by omega]
      case measure => simp [intOf]; omega
    · obtain rfl : j = l.length := by omega
      gi_wp2
      go_ret
      exact ⟨rfl, hm⟩
theorem heldInts_in (F : Fence) (n : Nat) (hf : F.fn 26) (hro : F.round = none) (l : Nat) (A : Option Addr) (c : Nat) (k : Int) (W : World) (hv : 0 < l → ∃ b off, A = some ⟨b, off, none⟩ ∧ ∀ t, t < l → W.cell? ⟨b, off + t, none⟩ = some (.int .i64 (k + t))) (h0 : 0 ≤ k) (hk : k + (l : Int) ≤ 9223372036854775807) :
    CallsIn F n Try.prog 26 #[.slice A l c, .int .i64 k] W fun e W' => e = .returned (.int .i64 (k + l)) ∧ W' = W := by
  refine callsIn_of_wp Try.func26 rfl hf ?_ hro
  simp only [Try.ntmps26, List.size_toArray, List.length_cons, List.length_nil, Nat.reduceAdd, Nat.reduceSub, Array.replicate_succ, Array.replicate_zero, List.push_toArray, List.append_toArray, List.nil_append, List.cons_append]
  gi_wp2
  gi_loopw [1, 5] (fun kk i wr => ∃ j : Nat, j ≤ l ∧ kk = .int .i64 (k + j) ∧ i = .int .i64 j ∧ wr = W)
    (fun _ i _ => l - (intOf i).toNat)
  case atStart => exact ⟨0, Nat.zero_le _, by simp, rfl, rfl⟩
  case round =>
    obtain ⟨j, hj, rfl, rfl, rfl⟩ := hrel
    by_cases hlt : j < l
    · obtain ⟨b, off, rfl, hc⟩ := hv (by omega)
      have hc2 := hc j hlt
      clear hc
      gi_wp2
      go_roundw
      case rel =>
        refine ⟨j + 1, by omega, ?_, ?_, trivial⟩
        · rw [show k + (j : Int) + 1 = k + ((j + 1 : Nat) : Int) by omega]
        · rw [show (j : Int) + 1 = ((j + 1 : Nat) : Int) by omega]
      case measure => simp [intOf]; omega
    · obtain rfl : j = l := by omega
      gi_wp2
      go_ret
      exact ⟨rfl, rfl⟩
end Hw
end Go.Proofs.Ytfboldbfbmmahaa
