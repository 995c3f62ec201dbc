/- Sums of what is away, by the program: made by gen.py. -/
import Derived.Test.YtjcacgainbjopaaUA
import Derived.Test.YtjcacgainbjopaaXC
set_option linter.unusedVariables false
set_option linter.unusedSimpArgs false
set_option maxRecDepth 100000
set_option maxHeartbeats 400000
namespace Go.Proofs.Ytjcacgainbjopaa
namespace Hw
open Go
noncomputable section
attribute [local irreducible] evFn evBody wrap wxor
def awayV (n : Int) (s o : St) (k : Int) : Int := n + awayF s o k s.sent.length
theorem add_none (b off n : Nat) : (⟨b, off, none⟩ : Addr).add n = ⟨b, off + n, none⟩ := by unfold Addr.add; split <;> simp_all
theorem spot_none {w : World} {ad : Addr} {u : Value} (h : w.cell? ad = some u) : ad.spot = none := by
  unfold World.cell? at h
  cases hs : ad.spot with
  | none => rfl
  | some x =>
    rw [hs] at h
    split at h
    · simp at h
    · cases h
theorem row_at {w : World} {S : Nat → Prop} {d : Nat} {a : Arr} {v : Value} (h : arrR w S (d + 1) a v) (h0 : 0 < a.len) (hc : ∃ x, ((a.get 0).cells true)[0]? = some x) : ∃ b off c, v = .slice (some ⟨b, off, none⟩) a.len c ∧ S b ∧ ∀ k, k < a.len → ∀ (j : Nat) (x : Cell), ((a.get k).cells true)[j]? = some x → ∃ u, w.cell? ⟨b, off + (k * a.esz + j), none⟩ = some u ∧ elC (arrR w S d) x u := by
  obtain ⟨A, c, rfl, h1, h2, h3⟩ := h
  obtain ⟨ad, rfl, h4, h5⟩ := h3 0 h0
  obtain ⟨x, hx⟩ := hc
  obtain ⟨u, h6, -⟩ := h5 0 x hx
  have hs := spot_none h6
  have hs' : ad.spot = none := by
    have e : ad.add (0 * a.esz + 0) = ad := by unfold Addr.add; simp
    rwa [e] at hs
  obtain ⟨b, off, sp⟩ := ad
  have hs' : sp = none := hs'
  subst hs'
  refine ⟨b, off, c, rfl, h4, fun k hk j y hy => ?_⟩
  obtain ⟨ad', e', h7, h8⟩ := h3 k hk
  cases e'
  obtain ⟨u, h9, h10⟩ := h8 j y hy
  rw [add_none] at h9
  exact ⟨u, h9, h10⟩
def pkF (s : St) (j i : Nat) : Int := match i with
  | 0 => (s.sent.getD j zPkt).seq
  | 1 => (s.sent.getD j zPkt).kind
  | 2 => (s.sent.getD j zPkt).frm
  | 3 => (s.sent.getD j zPkt).to
  | 4 => (s.sent.getD j zPkt).sum
  | 5 => (s.sent.getD j zPkt).til
  | _ => (s.sent.getD j zPkt).ver
theorem pk_row {C : Cx} {z : Bool} {s : St} {v : Value} {bt N : Nat} (h : cellR C (.arr z (.pkts s.sent)) v) (hS : ∀ b, C.S z b → b < N ∧ b ≠ bt) : PkRow bt N C.w v s.sent.length (pkF s) := by
  have h : arrR C.w (C.S z) 4 (.pkts s.sent) v := h
  rcases Nat.eq_zero_or_pos s.sent.length with h0 | h0
  · obtain ⟨A, c, rfl, -⟩ := h
    have e : (Arr.pkts s.sent).len = 0 := h0
    rw [e]
    exact .inl ⟨h0, A, c, rfl⟩
  · obtain ⟨b, off, c, e, h1, h2⟩ := row_at h h0 ⟨_, rfl⟩
    refine .inr ⟨b, off, c, e, hS b h1, fun j hj i hi => ?_⟩
    rw [Nat.add_assoc]
    match i, hi with
    | 0, _ => obtain ⟨u, h3, h4⟩ := h2 j hj 0 _ rfl; cases h4; exact h3
    | 1, _ => obtain ⟨u, h3, h4⟩ := h2 j hj 1 _ rfl; cases h4; exact h3
    | 2, _ => obtain ⟨u, h3, h4⟩ := h2 j hj 2 _ rfl; cases h4; exact h3
    | 3, _ => obtain ⟨u, h3, h4⟩ := h2 j hj 3 _ rfl; cases h4; exact h3
    | 4, _ => obtain ⟨u, h3, h4⟩ := h2 j hj 4 _ rfl; cases h4; exact h3
    | 5, _ => obtain ⟨u, h3, h4⟩ := h2 j hj 5 _ rfl; cases h4; exact h3
    | 6, _ => obtain ⟨u, h3, h4⟩ := h2 j hj 6 _ rfl; cases h4; exact h3
theorem bool_row {C : Cx} {z : Bool} {l : List Bool} {v : Value} (h : cellR C (.arr z (.bools l)) v) : ∃ A c, v = .slice A l.length c ∧ (0 < l.length → ∃ b off, A = some ⟨b, off, none⟩ ∧ C.S z b ∧ ∀ j, j < l.length → C.w.cell? ⟨b, off + j, none⟩ = some (.bool (l.getD j false))) := by
  have h : arrR C.w (C.S z) 4 (.bools l) v := h
  obtain ⟨A, c, rfl, h1⟩ := id h
  refine ⟨A, c, rfl, fun h0 => ?_⟩
  obtain ⟨b, off, c', e, h2, h3⟩ := row_at h h0 ⟨_, rfl⟩
  cases e
  refine ⟨b, off, rfl, h2, fun j hj => ?_⟩
  obtain ⟨u, h4, h5⟩ := h3 j hj 0 _ rfl
  cases h5
  have e : off + (j * (Arr.bools l).esz + 0) = off + j := by show off + (j * 1 + 0) = _; omega
  rwa [e] at h4
theorem int_row {C : Cx} {z : Bool} {l : List Int} {v : Value} (h : cellR C (.arr z (.ints l)) v) : ∃ A c, v = .slice A l.length c ∧ (0 < l.length → ∃ b off, A = some ⟨b, off, none⟩ ∧ C.S z b ∧ ∀ j, j < l.length → C.w.cell? ⟨b, off + j, none⟩ = some (.int .i64 (l.getD j 0))) := by
  have h : arrR C.w (C.S z) 4 (.ints l) v := h
  obtain ⟨A, c, rfl, h1⟩ := id h
  refine ⟨A, c, rfl, fun h0 => ?_⟩
  obtain ⟨b, off, c', e, h2, h3⟩ := row_at h h0 ⟨_, rfl⟩
  cases e
  refine ⟨b, off, rfl, h2, fun j hj => ?_⟩
  obtain ⟨u, h4, h5⟩ := h3 j hj 0 _ rfl
  cases h5
  have e : off + (j * (Arr.ints l).esz + 0) = off + j := by show off + (j * 1 + 0) = _; omega
  rwa [e] at h4
theorem acc_away {s o : St} {k x0 : Int} (h : StOk s) (h0 : 0 ≤ x0 ∧ x0 ≤ 1000000) {n : Nat} (hn : n ≤ s.sent.length) : accF (pkF s) (fun j => s.live.getD j false) (fun j => o.got.getD j 0) k x0 (List.range n) = x0 + awayF s o k n := by
  induction n with
  | zero => show x0 = x0 + 0; omega
  | succ n ih =>
    have h1 := ih (by omega)
    have h2 := (stK5 h (i := (n : Int)) (by omega) (by omega)).1.2.2.2.2.1
    have h3 := awayF_rng (o := o) (k := k) h (n := n) (by omega)
    have h4 := h.2.2.1
    have e : ((n : Int)).toNat = n := by omega
    rw [e] at h2
    rw [List.range_succ, accF_snoc, h1, awayF]
    show (if (s.sent.getD n zPkt).kind = k ∧ s.live.getD n false = true ∧ ¬ o.got.getD n 0 = 1 then RowKit.wrap64 (x0 + awayF s o k n + (s.sent.getD n zPkt).sum) else x0 + awayF s o k n) = _
    split
    · unfold RowKit.wrap64
      omega
    · omega
theorem live0 {i : Nat} {n : Int} (h : (hpOf [.raw 1 [.int n]] i).live) : i = 0 := by
  cases i with
  | zero => rfl
  | succ i => exact h.elim
theorem after1 {C : Cx} {W : World} {n m : Int} {bt et : Nat} (hI : Inv C (hpOf [.raw 1 [.int n]])) (hr : C.ρ 0 = some (some bt, 1)) (hz : ¬ C.frz bt) (hv : ¬ C.vis bt) (hh : C.w.heap[bt]? = some (.cells #[.int .i64 n] et (0, 0))) (hW : W.heap[bt]? = some (.cells #[.int .i64 m] et (0, 0))) (hK : KB bt C.w.heap.size C.w W) :
    After C ⟨W, C.frz, C.vis, C.ρ⟩ [.raw 1 [.int n]] [.raw 1 [.int m]] where
  inv := ⟨fun i => by
      cases i with
      | zero => exact ⟨bt, _, et, hr, hz, hv, hW, rfl, fun j x hj => by cases j with
        | zero => cases hj; exact ⟨_, rfl, rfl⟩
        | succ j => cases hj⟩
      | succ i => trivial,
    fun i j b n m h1 h2 _ _ => (live0 h1).trans (live0 h2).symm,
    fun b h => Nat.lt_of_lt_of_le (hI.frz b h) hK.size, fun b h => Nat.lt_of_lt_of_le (hI.vis b h) hK.size⟩
  ext := ⟨hK.os, hK.tape, hK.output, hK.size, fun b hb hT => hK.block b hb fun e => hT ⟨0, 1, trivial, by rw [e]; exact hr⟩,
    fun b vs e h => by
      by_cases hb : b = bt
      · subst hb
        rw [hh] at h
        cases h
        exact ⟨_, hW, rfl⟩
      · exact ⟨vs, (hK.block b (Array.getElem?_eq_some_iff.1 h).1 hb).trans h, rfl⟩,
    fun b h => h, fun b h => .inl h, rfl, fun i p h => h⟩
  new := fun i p h => .inl h
def restT (l : List Int) (i : Int) : Int := (if i ≤ 0 then l.getD 0 0 else 0) + (if i ≤ 1 then l.getD 1 0 else 0) + (if i ≤ 2 then l.getD 2 0 else 0)
theorem all_step {l : List Int} {x y i j : Int} (h : Parts l) (h0 : 0 ≤ i) (h1 : i < (l.length : Int)) (ej : j = i + 1) (hy : 0 ≤ y ∧ y ≤ 1000000 + 30 * i) (q : x = wrap (y + l.getD i.toNat 0)) : x + restT l j = y + restT l i ∧ 0 ≤ x ∧ x ≤ 1000000 + 30 * j := by
  have h3 := h.three
  have hl := h.1
  have hi : i = 0 ∨ i = 1 ∨ i = 2 := by omega
  unfold restT
  rcases hi with rfl | rfl | rfl
  · have e : l.getD (0 : Int).toNat 0 = l.getD 0 0 := rfl
    rw [e, wrap_id (by omega) (by omega)] at q
    subst ej
    simp only [show ¬ ((0 : Int) + 1 ≤ 0) by omega, show (0 : Int) + 1 ≤ 1 by omega, show (0 : Int) + 1 ≤ 2 by omega, if_true, if_false, Int.le_refl, show (0 : Int) ≤ 1 by omega, show (0 : Int) ≤ 2 by omega]
    omega
  · have e : l.getD (1 : Int).toNat 0 = l.getD 1 0 := rfl
    rw [e, wrap_id (by omega) (by omega)] at q
    subst ej
    simp only [show ¬ ((1 : Int) + 1 ≤ 0) by omega, show ¬ ((1 : Int) + 1 ≤ 1) by omega, show (1 : Int) + 1 ≤ 2 by omega, if_true, if_false, Int.le_refl, show ¬ ((1 : Int) ≤ 0) by omega, show (1 : Int) ≤ 2 by omega]
    omega
  · have e : l.getD (2 : Int).toNat 0 = l.getD 2 0 := rfl
    rw [e, wrap_id (by omega) (by omega)] at q
    subst ej
    simp only [show ¬ ((2 : Int) + 1 ≤ 0) by omega, show ¬ ((2 : Int) + 1 ≤ 1) by omega, show ¬ ((2 : Int) + 1 ≤ 2) by omega, if_true, if_false, Int.le_refl, show ¬ ((2 : Int) ≤ 0) by omega, show ¬ ((2 : Int) ≤ 1) by omega]
    omega
theorem all_end {l : List Int} {y i : Int} (h : Parts l) (h1 : ¬ i < (l.length : Int)) : y = y + restT l i := by
  have hl := h.1
  unfold restT
  rw [if_neg (by omega), if_neg (by omega), if_neg (by omega)]
  omega
theorem rest_0 {l : List Int} : restT l 0 = tot l := rfl
theorem nt_impl {w : List Ch} {n r : Int} (hw : WOk w) (hn : 1 ≤ n ∧ n ≤ 2) (e : r = tot (w.getD (2 - n).toNat zCh).bank.notes + awayF (stAt w (n - 1)) (stAt w (2 - n)) 1 (stAt w (n - 1)).sent.length + awayF (stAt w (2 - n)) (stAt w (n - 1)) 2 (stAt w (2 - n)).sent.length) : NtQ w n r := by
  refine ⟨fun _ => ?_, fun g => absurd ⟨hw, hn⟩ g⟩
  have e1 : 3 - n - 1 = 2 - n := by omega
  have e2 : 2 - (3 - n) = n - 1 := by omega
  rw [e]
  unfold notesW awaysW
  rw [e1, e2]
theorem aw_no {w : List Ch} {n k : Int} {x : Bool} (hf : chsFact w) (q : x = true ↔ 1 ≤ n ∧ n ≤ 2) (h : (¬ x = true ∨ ¬ k = 1 ∧ ¬ k = 2) ∨ ¬ Z2.S w = true) : AwQ w n k (-1) := awQ_n fun g => h.elim (fun h => h.elim (fun h => h (q.2 g.2.1)) fun h => g.2.2.elim h.1 h.2) fun h => h ((implW hf).2 g.1)
theorem nt_no {w : List Ch} {n : Int} {x : Bool} (hf : chsFact w) (q : x = true ↔ 1 ≤ n ∧ n ≤ 2) (h : ¬ x = true ∨ ¬ Z2.S w = true) : NtQ w n (-1) := ntQ_n fun g => h.elim (fun h => h (q.2 g.2)) fun h => h ((implW hf).2 g.1)

def Zdg.L : FL := fCons (fC (cPtr 1 (cCons cInt (cNil)) rfl)) (fCons (fSh sInt) (fNil))
def Zdg : (Int × Unit) × Int × Unit → FR (Int) := fun ((a0, ()), a1, ()) => ⟨True, fun X => X (wrap (a0 + a1)), fun r => (r = wrap (a0 + a1)) ∧ True, fun r => (.tup [], [.raw 1 [.int r]])⟩
theorem Zdg.X : XF Zdg := mkF (0) fun ((a0, ()), a1, ()) hp => by
  clear hp
  dsimp only [Zdg]
  refine May.ret ⟨?_, trivial⟩
  all_goals try dsimp only
  all_goals first | with_reducible assumption | omega | rfl | assumption | (simp only [List.length_append, List.length_cons, List.length_nil, List.length_set, List.length_replicate, Int.natCast_add, Int.natCast_one] at *; omega) | grind
abbrev Zdg.S := Classical.choose Zdg.X
def Zdg.c : Ctr := fc0 39 [false, false] Zdg.L Zdg Zdg.S
theorem Zdg.good : Good Try.prog Zdg.c := mkFG0 (fn := Try.f39) {} Zdg.X noG (by kernel_rfl) (by kernel_rfl) (l0 (by kernel_rfl)) (c0 (by kernel_rfl)) (fun _ => trivial) fun s K => by kernel_rfl
def Zdh.L : FL := fCons (fC (cClo 39 1 (cCons cInt (cNil)) rfl)) (fCons (fSh sSt) (fCons (fSh sSt) (fCons (fSh sInt) (fNil))))
def Zdh : (Int × Unit) × St × St × Int × Unit → FR (Int) := fun ((a0, ()), a1, a2, a3, ()) => ⟨(0 ≤ a0 ∧ a0 ≤ 1000000) ∧ (StOk a1) ∧ (StOk a2) ∧ True, fun X => X (awayV a0 a1 a2 a3), fun r => (r = a0 + awayF a1 a2 a3 a1.sent.length) ∧ True, fun r => (.tup [], [.raw 1 [.int r]])⟩
theorem Zdh.X : XF Zdh := mkF (0) fun ((a0, ()), a1, a2, a3, ()) hp => by
  obtain ⟨p0, p1, p2, -⟩ := hp
  dsimp only [Zdh]
  refine May.ret ⟨?_, trivial⟩
  all_goals try dsimp only
  all_goals first | with_reducible assumption | omega | (rfl; done)
abbrev Zdh.S := Classical.choose Zdh.X
def Zdh.c : Ctr := fc 38 [false, true, true, false] Zdh.L Zdh Zdh.S
theorem Zdh.good : Good Try.prog Zdh.c where
  fn := ⟨Try.f38, by kernel_rfl, by kernel_rfl, by kernel_rfl⟩
  dec := fun bs args s h => ⟨(Zdh.L.hdec h).1, fun C vs hv => ((Zdh.L.hdec h).2).vals hv⟩
  run := fun ((n, ()), s, o, k, ()) C vs hI hfr hv hp => by
    have hpre : (Zdh ((n, ()), s, o, k, ())).P := hp _ rfl
    obtain ⟨p0, p1, p2, -⟩ := id hpre
    have hS : Zdh.S ((n, ()), s, o, k, ()) = awayV n s o k := (qF Zdh.X _ hpre).1
    have hI' : Inv C (hpOf [.raw 1 [.int n]]) := hI
    obtain ⟨v0, v1, v2, v3, rfl, h0, h1, h2, h3⟩ : ∃ v0 v1 v2 v3, vs = [v0, v1, v2, v3] ∧ cellR C (.clo 39 0) v0 ∧ fvR C (.agg (stCells false s)) v1 ∧ fvR C (.agg (stCells false o)) v2 ∧ cellR C (.int k) v3 := by
      match vs, hv with
      | [v0, v1, v2, v3], hv => exact ⟨v0, v1, v2, v3, rfl, hv.1, hv.2.1, hv.2.2.1, hv.2.2.2.1⟩
    obtain ⟨bt, ws, et, r1, r2, r3, r4, r5, r6⟩ := hI'.own 0
    obtain ⟨bt', m', r7, rfl⟩ := h0
    obtain ⟨u0, hu0, hu1⟩ := r6 0 _ rfl
    have eb : bt' = bt := by
      have := r7.symm.trans r1
      simp only [Option.some.injEq, Prod.mk.injEq] at this
      exact this.1
    subst eb
    have ew : ws = #[.int .i64 n] := by
      have : ws.size = 1 := r5
      apply Array.ext
      · exact this
      · intro i h1 h2
        have hi : i = 0 := by omega
        subst hi
        have := (Array.getElem?_eq_some_iff.1 hu0).2
        rw [this]
        exact hu1
    subst ew
    obtain ⟨a, rfl, ha, hac⟩ := h1
    obtain ⟨b, rfl, hb, hbc⟩ := h2
    obtain ⟨a0, a1, a2, a3, a4, a5, a6, rfl⟩ : ∃ a0 a1 a2 a3 a4 a5 a6, a = #[a0, a1, a2, a3, a4, a5, a6] := by
      have hl : a.toList.length = 7 := by rw [Array.length_toList]; exact ha
      obtain ⟨l⟩ := a
      match l, hl with
      | [a0, a1, a2, a3, a4, a5, a6], _ => exact ⟨a0, a1, a2, a3, a4, a5, a6, rfl⟩
    obtain ⟨b0, b1, b2, b3, b4, b5, b6, rfl⟩ : ∃ b0 b1 b2 b3 b4 b5 b6, b = #[b0, b1, b2, b3, b4, b5, b6] := by
      have hl : b.toList.length = 7 := by rw [Array.length_toList]; exact hb
      obtain ⟨l⟩ := b
      match l, hl with
      | [b0, b1, b2, b3, b4, b5, b6], _ => exact ⟨b0, b1, b2, b3, b4, b5, b6, rfl⟩
    obtain ⟨x3, e3, c3⟩ := hac 3 _ rfl
    cases e3
    obtain ⟨x4, e4, c4⟩ := hac 4 _ rfl
    cases e4
    obtain ⟨y6, e6, d6⟩ := hbc 6 _ rfl
    cases e6
    have h3 : v3 = .int .i64 k := h3
    subst h3
    have hvis : ∀ b, C.S false b → b < C.w.heap.size ∧ b ≠ bt' := fun b h => ⟨hI'.vis b h, fun e => r3 (by rw [← e]; exact h)⟩
    have k3 := pk_row (bt := bt') (N := C.w.heap.size) c3 hvis
    obtain ⟨AL, cl, rfl, kl⟩ := bool_row c4
    obtain ⟨AG, cg, rfl, kg⟩ := int_row d6
    have ll := p1.2.2.2.1
    have lg := p2.2.2.2.2.2.1
    have l8 := p1.2.2.1
    have hlen : 0 < s.sent.length → (∃ b off, AL = some ⟨b, off, none⟩ ∧ C.S false b ∧ ∀ j, j < s.live.length → C.w.cell? ⟨b, off + j, none⟩ = some (.bool (s.live.getD j false))) := fun h => kl (by omega)
    obtain ⟨bl, ol, hl⟩ : ∃ bl ol, 0 < s.sent.length → AL = some ⟨bl, ol, none⟩ ∧ bl < C.w.heap.size ∧ bl ≠ bt' ∧ s.sent.length ≤ s.live.length ∧ ∀ j, j < s.sent.length → C.w.cell? ⟨bl, ol + j, none⟩ = some (.bool ((fun j => s.live.getD j false) j)) := by
      rcases Nat.eq_zero_or_pos s.sent.length with h | h
      · exact ⟨0, 0, fun h' => by omega⟩
      · obtain ⟨bl, ol, e1, e2, e3⟩ := hlen h
        exact ⟨bl, ol, fun _ => ⟨e1, (hvis _ e2).1, (hvis _ e2).2, by omega, fun j hj => e3 j (by omega)⟩⟩
    obtain ⟨bg, og, g1, g2, g3⟩ := kg (by omega)
    have hg : 0 < s.sent.length → AG = some ⟨bg, og, none⟩ ∧ bg < C.w.heap.size ∧ bg ≠ bt' ∧ s.sent.length ≤ o.got.length ∧ ∀ j, j < s.sent.length → C.w.cell? ⟨bg, og + j, none⟩ = some (.int .i64 ((fun j => o.got.getD j 0) j)) := fun _ => ⟨g1, (hvis _ g2).1, (hvis _ g2).2, by omega, fun j hj => g3 j (by omega)⟩
    have hseq : ∀ j, j < s.sent.length → pkF s j 0 = (j : Int) + 1 := fun j hj => by
      have h := (stK5 p1 (i := (j : Int)) (by omega) (by omega)).2.1
      have e : ((j : Int)).toNat = j := by omega
      rw [e] at h
      exact h
    have hc := callsIn_wide.1 (away_in Fence.wide 4 trivial trivial trivial trivial rfl (Nat.le_refl _) bt' s.sent.length s.live.length o.got.length bl ol bg og n k a0 a1 a2 a3 a5 a6 b0 b1 b2 b3 b4 b5 AL AG cl cg (pkF s) (fun j => s.live.getD j false) (fun j => o.got.getD j 0) C.w et r4 (by omega) k3 hseq hl hg)
    refine hc.mono fun e W' ⟨he, hW, hK⟩ => ⟨.tuple #[], ⟨W', C.frz, C.vis, C.ρ⟩, he, rfl, ⟨#[], rfl, rfl, fun j x hj => by cases j <;> cases hj⟩, ?_⟩
    rw [acc_away (o := o) (k := k) p1 p0 (Nat.le_refl _)] at hW
    show After C _ [.raw 1 [.int n]] [.raw 1 [.int (Zdh.S ((n, ()), s, o, k, ()))]]
    rw [hS]
    exact after1 hI' r1 r2 r3 r4 hW hK

theorem Zdi.G : GG [Zdg.c] := (consG Zdg.good noG)
def Zdj.L : FL := fCons (fC (cClo 39 1 (cCons cInt (cNil)) rfl)) (fCons (fC (cArr false kInts)) (fCons (fC cInt) (fCons (fC cInt) (fNil))))
def Zdj : (Int × Unit) × List Int × Int × Int × Unit → LR ((Int × Unit) × List Int × Int × Int × Unit) (Nat × Int × Unit) := fun ((y0, ()), y1, y2, y3, ()) => ⟨(0 ≤ y3) ∧ (y2 ≤ 9223372036854775807) ∧ (y2 = (y1.length : Int)) ∧ (Parts y1) ∧ (0 ≤ y0 ∧ y0 ≤ 1000000 + 30 * y3) ∧ True, (y2 - y3).toNat, fun X => And (Imp ((decide (y3 < y2)) = true) (And ((0 : Int) ≤ y3 ∧ y3 < (y1.length : Int)) (Call0 Zdg.X ((y0, ()), y1.getD (y3).toNat 0, ()) fun x1 => Lt (wrap (y3 + 1)) fun x2 => X (.inl ((x1, ()), y1, y2, x2, ()))))) (Imp ((decide (y3 < y2)) = false) (X (.inr (0, y0, ())))), fun r => (r.2.1 = y0 + restT y1 y3) ∧ True, fun r => [], fun r => (.exit 0, [.c (.clo 39 0)], [.raw 1 [.int r.2.1]])⟩
theorem Zdj.X : XL Zdj := mkL (0, 0, ()) fun ((y0, ()), y1, y2, y3, ()) hp => by
  obtain ⟨p0, p1, p2, p3, p4, -⟩ := hp
  unfold ML; dsimp only [Zdj]
  refine May.iff (B.dec) (fun h1 => ?_) (fun h1 => ?_)
  refine May.chk ?_ fun c1 => May.call0 trivial fun x1 q1 => have q1 := q1.1; May.lw ⟨?_, ?_⟩ fun x2 e2 => May.nx ⟨?_, ?_, ?_, ?_, ?_, trivial⟩ ?_ ?_ fun r => rfl; rotate_left 10
  refine May.ex ⟨?_, trivial⟩
  all_goals try dsimp only [Zdj]
  all_goals first | with_reducible assumption | omega | exact fun _ q => q | (exact (all_step p3 p0 (by omega) e2 p4 q1).2; done) | ((intro r hr; obtain ⟨k1, -⟩ := hr; exact ⟨k1.trans (all_step p3 p0 (by omega) e2 p4 q1).1, trivial⟩); done) | (exact all_end p3 (by omega); done)
abbrev Zdj.R := Classical.choose Zdj.X
def Zdj.k : LCtr := (ld 1 [0, 6, 7, 8] [] Zdj.L Zdj 1 (fun _ => [0]) (fun _ => []) Zdj.R).ctr
theorem Zdj.g : LGood Try.prog Try.f40.ntmps Zdj.k (bodyAt Try.f40 0) := mkLG {} Zdj.X Zdi.G (by kernel_rfl) (l0 (by kernel_rfl)) (c0 (by kernel_rfl)) fun S s => by kernel_rfl
def Zdi.L : FL := fCons (fC (cClo 39 1 (cCons cInt (cNil)) rfl)) (fCons (fSh sInts) (fNil))
def Zdi : (Int × Unit) × List Int × Unit → FR (Int) := fun ((a0, ()), a1, ()) => ⟨(0 ≤ a0 ∧ a0 ≤ 1000000) ∧ (Parts a1) ∧ True, fun X => CallL Zdj.X ((a0, ()), a1, (a1.length : Int), 0, ()) fun x3 => X x3.2.1, fun r => (r = a0 + tot a1) ∧ True, fun r => (.tup [], [.raw 1 [.int r]])⟩
theorem Zdi.X : XF Zdi := mkF (0) fun ((a0, ()), a1, ()) hp => by
  obtain ⟨p0, p1, -⟩ := hp
  dsimp only [Zdi]
  refine May.loop ⟨?_, ?_, ?_, ?_, ?_, trivial⟩ fun x3 q3 => have q3 := q3.1; May.ret ⟨?_, trivial⟩
  all_goals try dsimp only
  all_goals first | with_reducible assumption | omega | ((rw [p1.1]; decide); done) | (exact q3; done)
abbrev Zdi.S := Classical.choose Zdi.X
def Zdi.c : Ctr := fc 40 [false, true] Zdi.L Zdi Zdi.S
theorem Zdi.good : Good Try.prog Zdi.c := mkFG (fn := Try.f40) {LL := [Zdj.k]} Zdi.X Zdi.G (by kernel_rfl) (by kernel_rfl) (lG (by kernel_rfl) (consL (by kernel_rfl) Zdj.g (noL rfl))) (c0 (by kernel_rfl)) fun s K => by kernel_rfl
def Zdk.L : FL := fCons (fAgg (cCons (cArr false kChs) (cNil))) (fCons (fSh sInt) (fNil))
def Zdk : (List Ch × Unit) × Int × Unit → FR (Ch × Ch) := fun ((a0, ()), a1, ()) => ⟨(a0.length = 2) ∧ (1 ≤ a1 ∧ a1 ≤ 2) ∧ True, fun X => Lt (wrap (a1 - 1)) fun x1 => And ((0 : Int) ≤ x1 ∧ x1 < (a0.length : Int)) (Lt (wrap (2 - a1)) fun x2 => And ((0 : Int) ≤ x2 ∧ x2 < (a0.length : Int)) (X ((a0.getD (x1).toNat zCh), (a0.getD (x2).toNat zCh)))), fun r => (r.1 = a0.getD (a1 - 1).toNat zCh) ∧ (r.2 = a0.getD (2 - a1).toNat zCh) ∧ True, fun r => (.tup [.agg [.int r.1.id, .arr false (.ints r.1.bank.own), .arr false (.ints r.1.bank.notes), .int r.1.bank.locked, .int r.1.st.way, .int r.1.st.ver, .int r.1.st.want, .arr false (.pkts r.1.st.sent), .arr false (.bools r.1.st.live), .arr false (.bools r.1.st.back), .arr false (.ints r.1.st.got), .arr false (.sts r.1.past), .arr false (.ints r.1.knows)], .agg [.int r.2.id, .arr false (.ints r.2.bank.own), .arr false (.ints r.2.bank.notes), .int r.2.bank.locked, .int r.2.st.way, .int r.2.st.ver, .int r.2.st.want, .arr false (.pkts r.2.st.sent), .arr false (.bools r.2.st.live), .arr false (.bools r.2.st.back), .arr false (.ints r.2.st.got), .arr false (.sts r.2.past), .arr false (.ints r.2.knows)]], [])⟩
theorem Zdk.X : XF Zdk := mkF (zCh, zCh) fun ((a0, ()), a1, ()) hp => by
  obtain ⟨p0, p1, -⟩ := hp
  dsimp only [Zdk]
  refine May.lw ⟨?_, ?_⟩ fun x1 e1 => May.chk ?_ fun c1 => May.lw ⟨?_, ?_⟩ fun x2 e2 => May.chk ?_ fun c2 => May.ret ⟨?_, ?_, trivial⟩
  all_goals try dsimp only
  all_goals first | with_reducible assumption | omega | ((rw [e1]); done) | ((rw [e2]); done)
abbrev Zdk.S := Classical.choose Zdk.X
def Zdk.c : Ctr := fc 37 [false, false] Zdk.L Zdk Zdk.S
theorem Zdk.good : Good Try.prog Zdk.c := mkFG (fn := Try.f37) {sh := [[none, some (.int, 3), some (.int, 3), none, none, none, none, some (.pkt, 71), some (.bool, 4), some (.bool, 4), some (.int, 3), some (.st, 39), some (.int, 3)], [none, some (.int, 3), some (.int, 3), none, none, none, none, some (.pkt, 71), some (.bool, 4), some (.bool, 4), some (.int, 3), some (.st, 39), some (.int, 3)]]} Zdk.X noG (by kernel_rfl) (by kernel_rfl) (l0 (by kernel_rfl)) (c0 (by kernel_rfl)) fun s K => by kernel_rfl
def Zdl.L : FL := fCons (fSh sW) (fCons (fSh sInt) (fCons (fSh sInt) (fNil)))
def Zdl : List Ch × Int × Int × Unit → FR (Int) := fun (a0, a1, a2, ()) => ⟨(chsFact a0) ∧ (chsRng a0) ∧ True, fun X => Call0 Zdb.X (a1, ()) fun x1 => Lt (bif !x1 then true else bif a2 != 1 then a2 != 2 else false) fun x2 => And (Imp ((bif x2 then true else !(Z2.S a0)) = true) (X (-1))) (Imp ((bif x2 then true else !(Z2.S a0)) = false) (Call Zdk.X ((a0, ()), a1, ()) fun x3 => Call Zdh.X ((0, ()), x3.1.st, x3.2.st, a2, ()) fun x4 => X x4)), fun r => (AwQ a0 a1 a2 r) ∧ True, fun r => (.v (.c (.int r)), [])⟩
theorem Zdl.X : XF Zdl := mkF (0) fun (a0, a1, a2, ()) hp => by
  obtain ⟨p0, p1, -⟩ := hp
  dsimp only [Zdl]
  refine May.call0 trivial fun x1 q1 => have q1 := q1.1; May.lp (B.or (B.not (Iff.rfl)) (B.and (B.ne) (B.ne))) fun x2 e2 => May.iff (B.or (e2) (B.not (Iff.rfl))) (fun h1 => ?_) (fun h1 => ?_)
  refine May.ret ⟨?_, trivial⟩; rotate_left 1
  refine May.call ⟨?_, ?_, trivial⟩ fun x3 q3 => have q3_0 := q3.1; have q3_1 := q3.2.1; May.call ⟨?_, ?_, ?_, trivial⟩ fun x4 q4 => have q4 := q4.1; May.ret ⟨?_, trivial⟩
  all_goals try dsimp only
  all_goals first | with_reducible assumption | omega | (exact aw_no p0 q1 h1; done) | ((have hw := (implW p0).1 (nn fun g => h1 (.inr g)); have hn := q1.1 (nn fun g => h1 (.inl (.inl g))); exact wok_len hw); done) | ((have hw := (implW p0).1 (nn fun g => h1 (.inr g)); have hn := q1.1 (nn fun g => h1 (.inl (.inl g))); exact hn); done) | ((have hw := (implW p0).1 (nn fun g => h1 (.inr g)); have hn := q1.1 (nn fun g => h1 (.inl (.inl g))); rw [q3_0]; exact wok_st hw (by omega) (by omega)); done) | ((have hw := (implW p0).1 (nn fun g => h1 (.inr g)); have hn := q1.1 (nn fun g => h1 (.inl (.inl g))); rw [q3_1]; exact wok_st hw (by omega) (by omega)); done) | ((have hw := (implW p0).1 (nn fun g => h1 (.inr g)); have hn := q1.1 (nn fun g => h1 (.inl (.inl g))); have hk : ¬ (¬ a2 = 1 ∧ ¬ a2 = 2) := fun g => h1 (.inl (.inr g)); exact awQ_t hw hn (by omega) (by rw [q4, q3_0, q3_1]; exact Int.zero_add _)); done)
abbrev Zdl.S := Classical.choose Zdl.X
def Zdl.c : Ctr := fc 17 [true, false, false] Zdl.L Zdl Zdl.S
theorem Zdl.good : Good Try.prog Zdl.c := mkFG (fn := Try.f17) {} Zdl.X (consG Zdb.good (consG Z2.good (consG Zdk.good (consG Zdh.good noG)))) (by kernel_rfl) (by kernel_rfl) (l0 (by kernel_rfl)) (c0 (by kernel_rfl)) fun s K => by kernel_rfl
def Zdm.L : FL := fCons (fSh sW) (fCons (fSh sInt) (fNil))
def Zdm : List Ch × Int × Unit → FR (Int) := fun (a0, a1, ()) => ⟨(chsFact a0) ∧ (chsRng a0) ∧ True, fun X => Call0 Zdb.X (a1, ()) fun x1 => And (Imp ((bif !x1 then true else !(Z2.S a0)) = true) (X (-1))) (Imp ((bif !x1 then true else !(Z2.S a0)) = false) (Call Zdk.X ((a0, ()), a1, ()) fun x2 => Call Zdi.X ((0, ()), x2.2.bank.notes, ()) fun x3 => Call Zdh.X ((x3, ()), x2.1.st, x2.2.st, 1, ()) fun x4 => Call Zdh.X ((x4, ()), x2.2.st, x2.1.st, 2, ()) fun x5 => X x5)), fun r => (NtQ a0 a1 r) ∧ True, fun r => (.v (.c (.int r)), [])⟩
theorem Zdm.X : XF Zdm := mkF (0) fun (a0, a1, ()) hp => by
  obtain ⟨p0, p1, -⟩ := hp
  dsimp only [Zdm]
  refine May.call0 trivial fun x1 q1 => have q1 := q1.1; May.iff (B.or (B.not (Iff.rfl)) (B.not (Iff.rfl))) (fun h1 => ?_) (fun h1 => ?_)
  refine May.ret ⟨?_, trivial⟩; rotate_left 1
  refine May.call ⟨?_, ?_, trivial⟩ fun x2 q2 => have q2_0 := q2.1; have q2_1 := q2.2.1; May.call ⟨?_, ?_, trivial⟩ fun x3 q3 => have q3 := q3.1; May.call ⟨?_, ?_, ?_, trivial⟩ fun x4 q4 => have q4 := q4.1; May.call ⟨?_, ?_, ?_, trivial⟩ fun x5 q5 => have q5 := q5.1; May.ret ⟨?_, trivial⟩
  all_goals try dsimp only
  all_goals first | with_reducible assumption | omega | (exact nt_no p0 q1 h1; done) | ((have hw := (implW p0).1 (nn fun g => h1 (.inr g)); have hn := q1.1 (nn fun g => h1 (.inl g)); exact wok_len hw); done) | ((have hw := (implW p0).1 (nn fun g => h1 (.inr g)); have hn := q1.1 (nn fun g => h1 (.inl g)); exact hn); done) | ((have hw := (implW p0).1 (nn fun g => h1 (.inr g)); have hn := q1.1 (nn fun g => h1 (.inl g)); rw [q2_1]; exact (wok_ch hw (i := 2 - a1) (by omega) (by omega)).2.1.2.1); done) | ((have hw := (implW p0).1 (nn fun g => h1 (.inr g)); have hn := q1.1 (nn fun g => h1 (.inl g)); rw [q2_0]; exact wok_st hw (by omega) (by omega)); done) | ((have hw := (implW p0).1 (nn fun g => h1 (.inr g)); have hn := q1.1 (nn fun g => h1 (.inl g)); rw [q2_1]; exact wok_st hw (by omega) (by omega)); done) | ((have hw := (implW p0).1 (nn fun g => h1 (.inr g)); have hn := q1.1 (nn fun g => h1 (.inl g)); have z := notes_at hw hn rfl; rw [q2_1] at q3; omega); done) | ((have hw := (implW p0).1 (nn fun g => h1 (.inr g)); have hn := q1.1 (nn fun g => h1 (.inl g)); have z := notes_at hw hn rfl; have z2 := awaysW_rng (k := 1) hw hn; rw [q2_1] at q3; rw [q2_0, q2_1] at q4; have q4 : x4 = x3 + awaysW a0 a1 1 := q4; omega); done) | ((have hw := (implW p0).1 (nn fun g => h1 (.inr g)); have hn := q1.1 (nn fun g => h1 (.inl g)); exact nt_impl hw hn (by rw [q5, q4, q3, q2_0, q2_1, Int.zero_add]; rfl)); done)
abbrev Zdm.S := Classical.choose Zdm.X
def Zdm.c : Ctr := fc 19 [true, false] Zdm.L Zdm Zdm.S
theorem Zdm.good : Good Try.prog Zdm.c := mkFG (fn := Try.f19) {} Zdm.X (consG Zdb.good (consG Z2.good (consG Zdk.good (consG Zdi.good (consG Zdh.good noG))))) (by kernel_rfl) (by kernel_rfl) (l0 (by kernel_rfl)) (c0 (by kernel_rfl)) fun s K => by kernel_rfl
end
end Hw
end Go.Proofs.Ytjcacgainbjopaa
