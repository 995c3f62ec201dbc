/- Draws, 4: made by gen.py. -/
import Derived.Test.YtmhighcagpbmeaaE2
set_option linter.unusedVariables false
set_option linter.unusedSimpArgs false
set_option maxRecDepth 100000
set_option maxHeartbeats 400000
namespace Go.Proofs.Ytmhighcagpbmeaa
namespace Hw
open Go
attribute [local irreducible] evFn evBody wrap wxor
theorem getD_lt {α : Type} {l m : List α} {k : Nat} {d : α} (h : k < l.length) : (l ++ m).getD k d = l.getD k d := by simp [List.getD_eq_getElem?_getD, List.getElem?_append_left h]
theorem getD_at {α : Type} {l : List α} {k : Nat} {x d : α} (h : k = l.length) : (l ++ [x]).getD k d = x := by subst h; simp [List.getD_eq_getElem?_getD]
theorem getD_ge {α : Type} {l : List α} {k : Nat} {d : α} (h : l.length ≤ k) : l.getD k d = d := by simp [List.getD_eq_getElem?_getD, List.getElem?_eq_none h]
theorem cin_mk {c : Ch} {i : Int} {b : Bk} {s : St} (h : CIn c) (hb : BIn b) (hs : SIn s) : CIn ⟨i, b, s, c.past, c.knows⟩ := ⟨hb, hs, h.2.2⟩
theorem cin_past {c : Ch} {i : Int} {s : St} (h : CIn c) (hs : SIn s) (hl : (c.past.length : Int) < 90) : CIn ⟨i, c.bank, c.st, c.past ++ [s], c.knows⟩ := by
  refine ⟨h.1, h.2.1, by simp only [List.length_append, List.length_cons, List.length_nil]; omega, fun k hk => ?_, h.2.2.2.2⟩
  simp only [List.length_append, List.length_cons, List.length_nil] at hk
  show SIn ((c.past ++ [s]).getD k zSt)
  rcases Nat.lt_or_ge k c.past.length with h1 | h1
  · rw [getD_lt h1]
    exact h.2.2.2.1 k h1
  · rw [getD_at (by omega)]
    exact hs
theorem sin_set {s : St} {w v n : Int} {l b : List Bool} {g : List Int} (h : SIn s) (hl : l.length = s.live.length) (hb : b.length = s.back.length) (hg : g.length = s.got.length) : SIn ⟨w, v, n, s.sent, l, b, g⟩ :=
  ⟨h.1, hl.trans h.2.1, hb.trans h.2.2.1, hg.trans h.2.2.2.1, h.2.2.2.2⟩
theorem sin_send {s : St} {w v n : Int} {p : Pkt} {t f : Bool} (h : SIn s) (hp : PIn p) (hl : s.sent.length < 8) : SIn ⟨w, v, n, s.sent ++ [p], s.live ++ [t], s.back ++ [f], s.got⟩ := by
  obtain ⟨h1, h2, h3, h4, h5⟩ := h
  refine ⟨?_, ?_, ?_, h4, fun k hk => ?_⟩
  · simp only [List.length_append, List.length_cons, List.length_nil]; omega
  · simp only [List.length_append, List.length_cons, List.length_nil]; omega
  · simp only [List.length_append, List.length_cons, List.length_nil]; omega
  simp only [List.length_append, List.length_cons, List.length_nil] at hk
  show PIn ((s.sent ++ [p]).getD k zPkt)
  rcases Nat.lt_or_ge k s.sent.length with h1 | h1
  · rw [getD_lt h1]
    exact h5 k h1
  · rw [getD_at (by omega)]
    exact hp
theorem pok_in {p : Pkt} (h : PktOk p) : PIn p := by
  unfold PktOk at h
  unfold PIn
  omega
theorem sin_sm {s : St} (h : SIn s) : s.sm := by
  unfold SIn at h
  unfold St.sm
  omega
theorem sin_get {c : Ch} {i : Int} (h : CIn c) (h0 : 0 ≤ i) (h1 : i < (c.past.length : Int)) : SIn (c.past.getD i.toNat zSt) := h.2.2.2.1 _ (by omega)
theorem pin_get {s : St} {i : Int} (h : SIn s) (h0 : 0 ≤ i) (h1 : i < (s.sent.length : Int)) : PIn (s.sent.getD i.toNat zPkt) := h.2.2.2.2 _ (by omega)
theorem bin_sm {b : Bk} (h : BIn b) : b.sm := by
  unfold BIn at h
  unfold Bk.sm
  omega
theorem cin_sm {c : Ch} (h : CIn c) : c.sm := by
  obtain ⟨b, s, k1, k2, k3, k4⟩ := h
  refine ⟨bin_sm b, sin_sm s, ⟨by omega, fun k => ?_⟩, by omega⟩
  rcases Nat.lt_or_ge k c.past.length with h | h
  · exact sin_sm (k2 k h)
  · rw [getD_ge h]
    exact ⟨by decide, by decide, by decide, by decide⟩
theorem hasIff {s : St} {p : Pkt} {x : Int} {b : Bool} (hs : s.sent.length ≤ 8) (e1 : -9223372036854775808 ≤ p.seq - 1 ∧ p.seq - 1 ≤ 9223372036854775807 → x = p.seq - 1) (e3 : b = true ↔ ((1 ≤ p.seq ∧ p.seq ≤ (s.sent.length : Int)) ∧ s.sent.getD x.toNat zPkt = p) ∧ s.live.getD x.toNat false = true) :
    b = true ↔ (1 ≤ p.seq ∧ p.seq ≤ (s.sent.length : Int)) ∧ s.sent.getD (p.seq - 1).toNat zPkt = p ∧ s.live.getD (p.seq - 1).toNat false = true := by
  refine e3.trans ⟨fun h => ?_, fun h => ?_⟩
  · have e := e1 (by omega)
    rw [← e]
    exact ⟨h.1.1, h.1.2, h.2⟩
  · have e := e1 (by omega)
    rw [e]
    exact ⟨⟨h.1, h.2.1⟩, h.2.2⟩
/-- Just this packet was sent, and is not settled. -/
def Has0 (s : St) (p : Pkt) : Prop := (1 ≤ p.seq ∧ p.seq ≤ (s.sent.length : Int)) ∧ s.sent.getD (p.seq - 1).toNat zPkt = p ∧ s.live.getD (p.seq - 1).toNat false = true
theorem stOk_in {s : St} (h : StOk s) : SIn s := by
  refine ⟨h.2.2.1, h.2.2.2.1, h.2.2.2.2.1, h.2.2.2.2.2.1, fun k hk => ?_⟩
  have := (h.2.2.2.2.2.2.1 k hk).1
  unfold PktOk at this
  unfold PIn
  omega
def IdleS (s : St) : Prop := ∀ k, k < s.live.length → s.live.getD k false = false
theorem liveCt {s : St} (hl : s.live.length ≤ 8) : 0 ≤ spec_l3Live.S s ∧ spec_l3Live.S s ≤ 8 ∧ (spec_l3Live.S s = 0 ↔ IdleS s) := by
  have hacc : ∀ k, k ≤ s.live.length → 0 ≤ spec_l3Live_l3.acc s 0 k ∧ spec_l3Live_l3.acc s 0 k ≤ k ∧ (spec_l3Live_l3.acc s 0 k = 0 ↔ ∀ j, j < k → s.live.getD j false = false) := by
    intro k
    induction k with
    | zero => intro _; exact ⟨Int.le_refl 0, Int.le_refl 0, ⟨fun _ j hj => by omega, fun _ => rfl⟩⟩
    | succ k ih =>
      intro hk
      obtain ⟨h1, h2, h3⟩ := ih (by omega)
      simp only [spec_l3Live_l3.acc, spec_l3Live_l3.A]
      cases hb : s.live.getD k false with
      | true =>
        rw [cond_true, wrap_id (by omega) (by omega)]
        refine ⟨by omega, by omega, ⟨fun h => by omega, fun h => ?_⟩⟩
        have := h k (by omega)
        rw [hb] at this
        cases this
      | false =>
        rw [cond_false]
        refine ⟨h1, by omega, h3.trans ⟨fun h j hj => ?_, fun h j hj => h j (by omega)⟩⟩
        rcases Nat.lt_or_ge j k with h' | h'
        · exact h j h'
        · obtain rfl : j = k := by omega
          exact hb
  unfold spec_l3Live.S
  rcases spec_l3Live_l3.law s (0 : Int) s.live.length rfl (by omega) with ⟨h1, h2⟩ | ⟨k, r, hk, h1, -, h2⟩
  · rw [h2]
    obtain ⟨a1, a2, a3⟩ := hacc s.live.length (Nat.le_refl _)
    exact ⟨a1, by show spec_l3Live_l3.acc s 0 s.live.length ≤ 8; omega, a3⟩
  · simp [spec_l3Live_l3.E] at h1
/-- A step may be done. -/
def MayK (s o : St) (k : Int) : Prop := (k = 1 ∧ s.way = 0) ∨ (k = 2 ∧ s.way ≤ 1 ∧ (o.way = 1 ∨ o.way = 2)) ∨ (k = 3 ∧ s.way = 1 ∧ 2 ≤ o.way) ∨ (k = 4 ∧ s.way = 2 ∧ 2 ≤ o.way) ∨ (k = 5 ∧ s.way = 3 ∧ s.ver < 9) ∨ (k = 6 ∧ s.way = 3 ∧ o.way = 4 ∧ o.want = wrap (s.ver + 1)) ∨ (k = 7 ∧ s.way = 4 ∧ IdleS s ∧ (o.way = 4 ∧ o.want = s.want ∧ IdleS o ∨ o.ver = s.want))
abbrev MayW (s o : St) (k : Int) : Prop := (StOk s ∧ StOk o) ∧ MayK s o k
open Classical in
/-- The steps that may be done, up to one. -/
noncomputable def mays (s o : St) : Nat → List Int
  | 0 => []
  | k + 1 => mays s o k ++ (if MayW s o ((k : Int) + 1) then [(k : Int) + 1] else [])
theorem mays_t {s o : St} {i : Int} (h0 : 1 ≤ i) (h : MayW s o i) : mays s o (i - 1).toNat ++ [i] = mays s o i.toNat := by
  have e : i.toNat = (i - 1).toNat + 1 := by omega
  have e2 : ((i - 1).toNat : Int) + 1 = i := by omega
  rw [e, mays, e2, if_pos h]
theorem mays_f {s o : St} {i : Int} (h0 : 1 ≤ i) (h : ¬ MayW s o i) : mays s o (i - 1).toNat = mays s o i.toNat := by
  have e : i.toNat = (i - 1).toNat + 1 := by omega
  have e2 : ((i - 1).toNat : Int) + 1 = i := by omega
  rw [e, mays, e2, if_neg h, List.append_nil]
theorem mays_len {s o : St} : ∀ k, (mays s o k).length ≤ k
  | 0 => Nat.le_refl 0
  | k + 1 => by
    have := mays_len (s := s) (o := o) k
    rw [mays]
    split <;> simp only [List.length_append, List.length_cons, List.length_nil] <;> omega
theorem wayMay {s o : St} {k : Int} {b x : Bool} (e : b = true ↔ StOk s ∧ StOk o) (q : SIn s ∧ SIn o → (x = true ↔ MayK s o k)) : (bif b then x else false) = true ↔ MayW s o k := by
  by_cases h : StOk s ∧ StOk o
  · rw [e.2 h, cond_true, q ⟨stOk_in h.1, stOk_in h.2⟩]
    exact ⟨fun h' => ⟨h, h'⟩, fun h' => h'.2⟩
  · rw [Bool.eq_false_iff.2 (fun h' => h (e.1 h')), cond_false]
    exact ⟨fun h' => absurd h' (by simp), fun h' => absurd h'.1 h⟩

/-! ### spec.l3Has -/
def spec_l3Has.enc (a0 : St) (a1 : Pkt) (r : Bool) : AV × List Blk := (.v (.c (.bool r)), [])
abbrev spec_l3Has.P (a0 : St) (a1 : Pkt) : Prop := (SIn a0)
abbrev spec_l3Has.Q (a0 : St) (a1 : Pkt) (r : Bool) : Prop := (r = true → 1 ≤ a1.seq ∧ a1.seq ≤ (a0.sent.length : Int)) ∧ (r = true ↔ Has0 a0 a1)
def spec_l3Has.L : FL := fCons (fSh sSt) (fCons (fSh sPkt) (fNil))
def spec_l3Has.f (a0 : St) (a1 : Pkt) (X : AV × List Blk → Prop) : Prop := Lt (wrap (a1.seq - 1)) fun x1 => And (Imp (And ((spec_l6In.S a1.seq 1 (a0.sent.length : Int)) = true) (True)) ((0 : Int) ≤ x1 ∧ x1 < (a0.sent.length : Int))) (Lt (bif (spec_l6In.S a1.seq 1 (a0.sent.length : Int)) then decide ((a0.sent.getD (x1).toNat zPkt) = a1) else false) fun x2 => And (Imp (And (x2 = true) (True)) ((0 : Int) ≤ x1 ∧ x1 < (a0.live.length : Int))) (Lt (bif x2 then a0.live.getD (x1).toNat false else false) fun x3 => X (.v (.c (.bool x3)), [])))
theorem spec_l3Has.w (a0 : St) (a1 : Pkt) (K : AV → List Blk → Prop) : evFn (envC [spec_l6In.c] [] []) [] [] [] Try.f59 (spec_l3Has.L.inp (a0, (a1, ()))).1 (spec_l3Has.L.inp (a0, (a1, ()))).2 K = spec_l3Has.f a0 a1 (fun v => K v.1 v.2) := by kernel_rfl
theorem spec_l3Has.x (a0 : St) (a1 : Pkt) (hp : spec_l3Has.P a0 a1) : May (spec_l3Has.Q a0 a1) (spec_l3Has.enc a0 a1) (spec_l3Has.f a0 a1) := by
  have p0 := hp
  have p1 := p0.2.1
  have p2 := p0.1
  delta spec_l3Has.f
  refine May.lwi fun x1 e1 => May.chk (fun hπ => have g1 := Iff.mp (in_iff) hπ.1; ?_) fun c1 => May.lp (B.and (in_iff) (B.dec)) fun x2 e2 => May.chk (fun hπ => have g1 := Iff.mp (e2) hπ.1; ?_) fun c2 => May.lp (B.and (e2) (Iff.rfl)) fun x3 e3 => ⟨(x3), ⟨?_, ?_⟩, fun X h => h⟩
  all_goals try dsimp only
  all_goals first | with_reducible assumption | omega | (exact hasIff p2 e1 e3; done) | (exact fun h => (e3.1 h).1.1; done) | rfl | assumption | (simp only [List.length_append, List.length_cons, List.length_nil, List.length_set, List.length_replicate, Int.natCast_add, Int.natCast_one] at *; omega) | grind
theorem spec_l3Has.X : ∃ S : spec_l3Has.L.α → Bool, ∀ s, spec_l3Has.P s.1 s.2.1 → spec_l3Has.Q s.1 s.2.1 (S s) ∧ ∀ X, X (spec_l3Has.enc s.1 s.2.1 (S s)) → spec_l3Has.f s.1 s.2.1 X := mayS (false) fun s => spec_l3Has.x s.1 s.2.1
noncomputable def spec_l3Has.S (a0 : St) (a1 : Pkt) : Bool := Classical.choose spec_l3Has.X (a0, (a1, ()))
theorem spec_l3Has.q (a0 : St) (a1 : Pkt) (hp : spec_l3Has.P a0 a1) : spec_l3Has.Q a0 a1 (spec_l3Has.S a0 a1) := (Classical.choose_spec spec_l3Has.X (a0, (a1, ())) hp).1
noncomputable def spec_l3Has.c : Ctr := hctr 59 [true, false] spec_l3Has.L (some fun s => spec_l3Has.P s.1 s.2.1) (fun s => spec_l3Has.enc s.1 s.2.1 (spec_l3Has.S s.1 s.2.1))
theorem spec_l3Has.good : Good Try.prog spec_l3Has.c :=
  hgoodC (sh := []) (tk := []) (sp := []) (ct := []) (LL := []) (consG spec_l6In.good noG) (fn := Try.f59) (by kernel_rfl) (by kernel_rfl) (by rw [show loopsOf (bodyOf Try.f59) = [] from by kernel_rfl]; exact noL rfl) (consC' (bs := []) (by kernel_rfl) noC) fun s hp => Eq.mpr (spec_l3Has.w s.1 s.2.1 (fun r bs' => And (r = (spec_l3Has.c.out s).1) (bs' = (spec_l3Has.c.out s).2))) ((Classical.choose_spec spec_l3Has.X s (hp _ rfl)).2 _ ⟨rfl, rfl⟩)
/-! ### spec.l13Mine -/
def spec_l13Mine.enc (a0 : Ch) (a1 : Int) (r : Bool) : AV × List Blk := (.v (.c (.bool r)), [])
abbrev spec_l13Mine.P (a0 : Ch) (a1 : Int) : Prop := (SIn a0.st)
abbrev spec_l13Mine.Q (a0 : Ch) (a1 : Int) (r : Bool) : Prop := (r = true → 1 ≤ a1 ∧ a1 ≤ (a0.st.sent.length : Int))
def spec_l13Mine.L : FL := fCons (fSh sCh) (fCons (fSh sInt) (fNil))
def spec_l13Mine.f (a0 : Ch) (a1 : Int) (X : AV × List Blk → Prop) : Prop := Lt (wrap (a1 - 1)) fun x1 => And (Imp (And ((spec_l6In.S a1 1 (a0.st.sent.length : Int)) = true) (True)) ((0 : Int) ≤ x1 ∧ x1 < (a0.st.live.length : Int))) (Lt (bif (spec_l6In.S a1 1 (a0.st.sent.length : Int)) then a0.st.live.getD (x1).toNat false else false) fun x2 => X (.v (.c (.bool x2)), []))
theorem spec_l13Mine.w (a0 : Ch) (a1 : Int) (K : AV → List Blk → Prop) : evFn (envC [spec_l6In.c] [] []) [] [] [] Try.f133 (spec_l13Mine.L.inp (a0, (a1, ()))).1 (spec_l13Mine.L.inp (a0, (a1, ()))).2 K = spec_l13Mine.f a0 a1 (fun v => K v.1 v.2) := by kernel_rfl
theorem spec_l13Mine.x (a0 : Ch) (a1 : Int) (hp : spec_l13Mine.P a0 a1) : May (spec_l13Mine.Q a0 a1) (spec_l13Mine.enc a0 a1) (spec_l13Mine.f a0 a1) := by
  have p0 := hp
  have p1 := p0.2.1
  have p2 := p0.1
  delta spec_l13Mine.f
  refine May.lwi fun x1 e1 => May.chk (fun hπ => have g1 := Iff.mp (in_iff) hπ.1; ?_) fun c1 => May.lp (B.and (in_iff) (Iff.rfl)) fun x2 e2 => ⟨(x2), ?_, fun X h => h⟩
  all_goals try dsimp only
  all_goals first | with_reducible assumption | omega | rfl | assumption | (simp only [List.length_append, List.length_cons, List.length_nil, List.length_set, List.length_replicate, Int.natCast_add, Int.natCast_one] at *; omega) | grind
theorem spec_l13Mine.X : ∃ S : spec_l13Mine.L.α → Bool, ∀ s, spec_l13Mine.P s.1 s.2.1 → spec_l13Mine.Q s.1 s.2.1 (S s) ∧ ∀ X, X (spec_l13Mine.enc s.1 s.2.1 (S s)) → spec_l13Mine.f s.1 s.2.1 X := mayS (false) fun s => spec_l13Mine.x s.1 s.2.1
noncomputable def spec_l13Mine.S (a0 : Ch) (a1 : Int) : Bool := Classical.choose spec_l13Mine.X (a0, (a1, ()))
theorem spec_l13Mine.q (a0 : Ch) (a1 : Int) (hp : spec_l13Mine.P a0 a1) : spec_l13Mine.Q a0 a1 (spec_l13Mine.S a0 a1) := (Classical.choose_spec spec_l13Mine.X (a0, (a1, ())) hp).1
noncomputable def spec_l13Mine.c : Ctr := hctr 133 [true, false] spec_l13Mine.L (some fun s => spec_l13Mine.P s.1 s.2.1) (fun s => spec_l13Mine.enc s.1 s.2.1 (spec_l13Mine.S s.1 s.2.1))
theorem spec_l13Mine.good : Good Try.prog spec_l13Mine.c :=
  hgoodC (sh := []) (tk := []) (sp := []) (ct := []) (LL := []) (consG spec_l6In.good noG) (fn := Try.f133) (by kernel_rfl) (by kernel_rfl) (by rw [show loopsOf (bodyOf Try.f133) = [] from by kernel_rfl]; exact noL rfl) (consC' (bs := []) (by kernel_rfl) noC) fun s hp => Eq.mpr (spec_l13Mine.w s.1 s.2.1 (fun r bs' => And (r = (spec_l13Mine.c.out s).1) (bs' = (spec_l13Mine.c.out s).2))) ((Classical.choose_spec spec_l13Mine.X s (hp _ rfl)).2 _ ⟨rfl, rfl⟩)
/-! ### spec.l21Among -/
abbrev spec_l21Among_l2.P (x2_0 : List Int) (x2_1 : Int) (x2_2 : Bool) (x2_3 : Int) : Prop := (0 ≤ x2_3) ∧ ((x2_0.length : Int) ≤ 9223372036854775807) ∧ (∀ k, k < x2_0.length → 1 ≤ x2_0.getD k 0)
abbrev spec_l21Among_l2.Q (x2_0 : List Int) (x2_1 : Int) (x2_2 : Bool) (x2_3 : Int) (r : Nat × Bool × Unit) : Prop := (r.1 = 0 → r.2.1 = true → 1 ≤ x2_1)
def spec_l21Among_l2.M (x2_0 : List Int) (x2_1 : Int) (x2_2 : Bool) (x2_3 : Int) : Nat := ((x2_0.length : Int) - x2_3).toNat
def spec_l21Among_l2.L : FL := fCons (fC (cArr false kInts)) (fCons (fC cInt) (fCons (fC cBool) (fCons (fC cInt) (fNil))))
def spec_l21Among_l2.o0 (x2_0 : List Int) (x2_1 : Int) (x2_2 : Bool) (x2_3 : Int) (r : Nat × Bool × Unit) : Ex × List FV × List Blk := (.ret, [.c (.bool r.2.1)], [])
def spec_l21Among_l2.o1 (x2_0 : List Int) (x2_1 : Int) (x2_2 : Bool) (x2_3 : Int) (r : Nat × Bool × Unit) : Ex × List FV × List Blk := (.exit 0, [], [])
def spec_l21Among_l2.o (x2_0 : List Int) (x2_1 : Int) (x2_2 : Bool) (x2_3 : Int) (r : Nat × Bool × Unit) : Ex × List FV × List Blk := pickAlt [(Nat.beq r.1 0, spec_l21Among_l2.o0 x2_0 x2_1 x2_2 x2_3 r)] (spec_l21Among_l2.o1 x2_0 x2_1 x2_2 x2_3 r)
def spec_l21Among_l2.f (x2_0 : List Int) (x2_1 : Int) (x2_2 : Bool) (x2_3 : Int) (X : (spec_l21Among_l2.L.α ⊕ (Ex × List FV × List Blk) → Prop)) : Prop := And (Imp ((decide (x2_3 < (x2_0.length : Int))) = true) (And ((0 : Int) ≤ x2_3 ∧ x2_3 < (x2_0.length : Int)) (And (Imp (((x2_0.getD (x2_3).toNat 0) == x2_1) = true) (X (.inr (.ret, [.c (.bool true)], [])))) (Imp (((x2_0.getD (x2_3).toNat 0) == x2_1) = false) (Lt (wrap (x2_3 + 1)) fun x1 => X (.inl (x2_0, (x2_1, (x2_2, (x1, ())))))))))) (Imp ((decide (x2_3 < (x2_0.length : Int))) = false) (X (.inr (.exit 0, [], []))))
def spec_l21Among_l2.d (S : spec_l21Among_l2.L.α → Nat × Bool × Unit) : LDat := ldat 2 [0, 1, 4, 5] [] spec_l21Among_l2.L (fun s => spec_l21Among_l2.P s.1 s.2.1 s.2.2.1 s.2.2.2.1) (fun s => [(Nat.beq (S s).1 0, spec_l21Among_l2.o0 s.1 s.2.1 s.2.2.1 s.2.2.2.1 (S s))]) (fun s => spec_l21Among_l2.o1 s.1 s.2.1 s.2.2.1 s.2.2.2.1 (S s)) (fun s => spec_l21Among_l2.M s.1 s.2.1 s.2.2.1 s.2.2.2.1) 0 (fun e => match e with | .ret => [4] | _ => []) (fun _ => [])
theorem spec_l21Among_l2.w (S : spec_l21Among_l2.L.α → Nat × Bool × Unit) (x2_0 : List Int) (x2_1 : Int) (x2_2 : Bool) (x2_3 : Int) : evBody (envC [] [] []) [] (bodyAt Try.f127 0) (spec_l21Among_l2.d S) (x2_0, (x2_1, (x2_2, (x2_3, ())))) = spec_l21Among_l2.f x2_0 x2_1 x2_2 x2_3 (lpx (spec_l21Among_l2.d S).pre (spec_l21Among_l2.d S).μ (spec_l21Among_l2.d S).out (x2_0, (x2_1, (x2_2, (x2_3, ()))))) := by kernel_rfl
theorem spec_l21Among_l2.x (x2_0 : List Int) (x2_1 : Int) (x2_2 : Bool) (x2_3 : Int) (hp : spec_l21Among_l2.P x2_0 x2_1 x2_2 x2_3) : May (R := spec_l21Among_l2.L.α ⊕ (Nat × Bool × Unit)) (lpq (fun s => spec_l21Among_l2.P s.1 s.2.1 s.2.2.1 s.2.2.2.1) (fun s => spec_l21Among_l2.M s.1 s.2.1 s.2.2.1 s.2.2.2.1) (fun s => spec_l21Among_l2.Q s.1 s.2.1 s.2.2.1 s.2.2.2.1) (fun s => spec_l21Among_l2.o s.1 s.2.1 s.2.2.1 s.2.2.2.1) (x2_0, (x2_1, (x2_2, (x2_3, ()))))) (lpo (fun s => spec_l21Among_l2.o s.1 s.2.1 s.2.2.1 s.2.2.2.1) (x2_0, (x2_1, (x2_2, (x2_3, ()))))) (spec_l21Among_l2.f x2_0 x2_1 x2_2 x2_3) := by
  obtain ⟨p0, p1, p2⟩ := hp
  delta spec_l21Among_l2.f
  refine May.iff (B.dec) (fun h1 => ?_) (fun h1 => ?_)
  refine May.chk ?_ fun c1 => May.iff (B.eq) (fun h2 => ?_) (fun h2 => ?_); rotate_left 1
  refine ⟨.inr (0, (true, ())), (show spec_l21Among_l2.Q x2_0 x2_1 x2_2 x2_3 (0, (true, ())) from ?_), fun X h => h⟩; rotate_left 1
  refine May.lw ⟨?_, ?_⟩ fun x1 e1 => ⟨.inl (x2_0, (x2_1, (x2_2, (x1, ())))), ⟨⟨?_, ?_, ?_⟩, ?_, ?_, fun r => rfl⟩, fun X h => h⟩; rotate_left 7
  refine ⟨.inr (1, (false, ())), (show spec_l21Among_l2.Q x2_0 x2_1 x2_2 x2_3 (1, (false, ())) from ?_), fun X h => h⟩
  all_goals try dsimp only
  all_goals first | with_reducible assumption | omega | exact fun _ q => q | (unfold spec_l21Among_l2.M; omega) | rfl | assumption | (simp only [List.length_append, List.length_cons, List.length_nil, List.length_set, List.length_replicate, Int.natCast_add, Int.natCast_one] at *; omega) | grind
theorem spec_l21Among_l2.X : ∃ S : spec_l21Among_l2.L.α → Nat × Bool × Unit, ∀ s, spec_l21Among_l2.P s.1 s.2.1 s.2.2.1 s.2.2.2.1 → spec_l21Among_l2.Q s.1 s.2.1 s.2.2.1 s.2.2.2.1 (S s) ∧ spec_l21Among_l2.f s.1 s.2.1 s.2.2.1 s.2.2.2.1 (lpx (fun s => spec_l21Among_l2.P s.1 s.2.1 s.2.2.1 s.2.2.2.1) (fun s => spec_l21Among_l2.M s.1 s.2.1 s.2.2.1 s.2.2.2.1) (fun s => spec_l21Among_l2.o s.1 s.2.1 s.2.2.1 s.2.2.2.1 (S s)) s) := loopS (0, (false, ())) fun s => spec_l21Among_l2.x s.1 s.2.1 s.2.2.1 s.2.2.2.1
noncomputable def spec_l21Among_l2.R (x2_0 : List Int) (x2_1 : Int) (x2_2 : Bool) (x2_3 : Int) : Nat × Bool × Unit := Classical.choose spec_l21Among_l2.X (x2_0, (x2_1, (x2_2, (x2_3, ()))))
theorem spec_l21Among_l2.q (x2_0 : List Int) (x2_1 : Int) (x2_2 : Bool) (x2_3 : Int) (hp : spec_l21Among_l2.P x2_0 x2_1 x2_2 x2_3) : spec_l21Among_l2.Q x2_0 x2_1 x2_2 x2_3 (spec_l21Among_l2.R x2_0 x2_1 x2_2 x2_3) := (Classical.choose_spec spec_l21Among_l2.X (x2_0, (x2_1, (x2_2, (x2_3, ())))) hp).1
noncomputable def spec_l21Among_l2.k : LCtr := (spec_l21Among_l2.d (fun s => spec_l21Among_l2.R s.1 s.2.1 s.2.2.1 s.2.2.2.1)).ctr
theorem spec_l21Among_l2.g (hG : ∀ c ∈ [], Good Try.prog c) : LGood Try.prog Try.f127.ntmps spec_l21Among_l2.k (bodyAt Try.f127 0) := lgoodC (sp := []) (ct := []) (LL := []) hG (by kernel_rfl) (by rw [show loopsOf (bodyAt Try.f127 0) = [] from by kernel_rfl]; exact noL rfl) (consC' (bs := []) (by kernel_rfl) noC) fun s hp => Eq.mpr (spec_l21Among_l2.w (fun s => spec_l21Among_l2.R s.1 s.2.1 s.2.2.1 s.2.2.2.1) s.1 s.2.1 s.2.2.1 s.2.2.2.1) (Classical.choose_spec spec_l21Among_l2.X s hp).2
def spec_l21Among.enc (a0 : List Int) (a1 : Int) (r : Bool) : AV × List Blk := (.v (.c (.bool r)), [])
abbrev spec_l21Among.P (a0 : List Int) (a1 : Int) : Prop := (a0.length ≤ 1000000) ∧ (∀ k, k < a0.length → 1 ≤ a0.getD k 0)
abbrev spec_l21Among.Q (a0 : List Int) (a1 : Int) (r : Bool) : Prop := (r = true → 1 ≤ a1)
def spec_l21Among.L : FL := fCons (fSh sInts) (fCons (fSh sInt) (fNil))
def spec_l21Among.f (a0 : List Int) (a1 : Int) (X : AV × List Blk → Prop) : Prop := And (spec_l21Among_l2.P a0 a1 false 0) (Lt (spec_l21Among_l2.R a0 a1 false 0) fun x2 => And (Imp (Nat.beq x2.1 0 = true) (X (.v (.c (.bool x2.2.1)), []))) (Imp (Nat.beq x2.1 0 = false) (X (.v (.c (.bool false)), []))))
theorem spec_l21Among.w (a0 : List Int) (a1 : Int) (K : AV → List Blk → Prop) : evFn (envC [] [] []) [spec_l21Among_l2.k] [] [] Try.f127 (spec_l21Among.L.inp (a0, (a1, ()))).1 (spec_l21Among.L.inp (a0, (a1, ()))).2 K = spec_l21Among.f a0 a1 (fun v => K v.1 v.2) := by kernel_rfl
theorem spec_l21Among.x (a0 : List Int) (a1 : Int) (hp : spec_l21Among.P a0 a1) : May (spec_l21Among.Q a0 a1) (spec_l21Among.enc a0 a1) (spec_l21Among.f a0 a1) := by
  obtain ⟨p0, p1⟩ := hp
  delta spec_l21Among.f
  refine May.chk ⟨?_, ?_, ?_⟩ fun c1 => May.lq (spec_l21Among_l2.Q a0 a1 false 0) (spec_l21Among_l2.q a0 a1 false 0 c1) fun x2 q2 => May.iff B.nbeq (fun h1 => ?_) (fun h1 => ?_); rotate_left 3
  refine ⟨(x2.2.1), ?_, fun X h => h⟩; rotate_left 1
  refine ⟨(false), ?_, fun X h => h⟩
  all_goals try dsimp only
  all_goals first | with_reducible assumption | omega | rfl | assumption | (simp only [List.length_append, List.length_cons, List.length_nil, List.length_set, List.length_replicate, Int.natCast_add, Int.natCast_one] at *; omega) | grind
theorem spec_l21Among.X : ∃ S : spec_l21Among.L.α → Bool, ∀ s, spec_l21Among.P s.1 s.2.1 → spec_l21Among.Q s.1 s.2.1 (S s) ∧ ∀ X, X (spec_l21Among.enc s.1 s.2.1 (S s)) → spec_l21Among.f s.1 s.2.1 X := mayS (false) fun s => spec_l21Among.x s.1 s.2.1
noncomputable def spec_l21Among.S (a0 : List Int) (a1 : Int) : Bool := Classical.choose spec_l21Among.X (a0, (a1, ()))
theorem spec_l21Among.q (a0 : List Int) (a1 : Int) (hp : spec_l21Among.P a0 a1) : spec_l21Among.Q a0 a1 (spec_l21Among.S a0 a1) := (Classical.choose_spec spec_l21Among.X (a0, (a1, ())) hp).1
noncomputable def spec_l21Among.c : Ctr := hctr 127 [true, false] spec_l21Among.L (some fun s => spec_l21Among.P s.1 s.2.1) (fun s => spec_l21Among.enc s.1 s.2.1 (spec_l21Among.S s.1 s.2.1))
theorem spec_l21Among.good : Good Try.prog spec_l21Among.c :=
  hgoodC (sh := []) (tk := []) (sp := []) (ct := []) (LL := [spec_l21Among_l2.k]) noG (fn := Try.f127) (by kernel_rfl) (by kernel_rfl) (by rw [show loopsOf (bodyOf Try.f127) = [(bodyAt Try.f127 0)] from by kernel_rfl]; exact consL (l := spec_l21Among_l2.k) (by kernel_rfl) (spec_l21Among_l2.g noG) (noL rfl)) (consC' (bs := []) (by kernel_rfl) noC) fun s hp => Eq.mpr (spec_l21Among.w s.1 s.2.1 (fun r bs' => And (r = (spec_l21Among.c.out s).1) (bs' = (spec_l21Among.c.out s).2))) ((Classical.choose_spec spec_l21Among.X s (hp _ rfl)).2 _ ⟨rfl, rfl⟩)
/-! ### spec.l11May -/
def spec_l11May.enc (a0 : St) (a1 : St) (a2 : Int) (r : Bool) : AV × List Blk := (.v (.c (.bool r)), [])
abbrev spec_l11May.P (a0 : St) (a1 : St) (a2 : Int) : Prop := (SIn a0) ∧ (SIn a1)
abbrev spec_l11May.Q (a0 : St) (a1 : St) (a2 : Int) (r : Bool) : Prop := (r = true ↔ MayK a0 a1 a2)
def spec_l11May.L : FL := fCons (fSh sSt) (fCons (fSh sSt) (fCons (fSh sInt) (fNil)))
def spec_l11May.f (a0 : St) (a1 : St) (a2 : Int) (X : AV × List Blk → Prop) : Prop := And (Imp ((a2 == 1) = true) (X (.v (.c (.bool (a0.way == 0))), []))) (Imp ((a2 == 1) = false) (And (Imp ((a2 == 2) = true) (Lt (bif decide (a0.way ≤ 1) then bif a1.way == 1 then true else a1.way == 2 else false) fun x1 => X (.v (.c (.bool x1)), []))) (Imp ((a2 == 2) = false) (And (Imp ((a2 == 3) = true) (Lt (bif a0.way == 1 then decide (a1.way ≥ 2) else false) fun x2 => X (.v (.c (.bool x2)), []))) (Imp ((a2 == 3) = false) (And (Imp ((a2 == 4) = true) (Lt (bif a0.way == 2 then decide (a1.way ≥ 2) else false) fun x3 => X (.v (.c (.bool x3)), []))) (Imp ((a2 == 4) = false) (And (Imp ((a2 == 5) = true) (Lt (bif a0.way == 3 then decide (a0.ver < 9) else false) fun x4 => X (.v (.c (.bool x4)), []))) (Imp ((a2 == 5) = false) (And (Imp ((a2 == 6) = true) (Lt (bif bif a0.way == 3 then a1.way == 4 else false then a1.want == (wrap (a0.ver + 1)) else false) fun x5 => X (.v (.c (.bool x5)), []))) (Imp ((a2 == 6) = false) (And (Imp ((a2 == 7) = true) (Lt (bif a0.way == 4 then (spec_l3Live.S a0) == 0 else false) fun x6 => Lt (bif bif a1.way == 4 then a1.want == a0.want else false then (spec_l3Live.S a1) == 0 else false) fun x7 => Lt (bif x6 then bif x7 then true else a1.ver == a0.want else false) fun x8 => X (.v (.c (.bool x8)), []))) (Imp ((a2 == 7) = false) (X (.v (.c (.bool false)), [])))))))))))))))
theorem spec_l11May.w (a0 : St) (a1 : St) (a2 : Int) (K : AV → List Blk → Prop) : evFn (envC [spec_l3Live.c] [] []) [] [] [] Try.f67 (spec_l11May.L.inp (a0, (a1, (a2, ())))).1 (spec_l11May.L.inp (a0, (a1, (a2, ())))).2 K = spec_l11May.f a0 a1 a2 (fun v => K v.1 v.2) := by kernel_rfl
theorem spec_l11May.x (a0 : St) (a1 : St) (a2 : Int) (hp : spec_l11May.P a0 a1 a2) : May (spec_l11May.Q a0 a1 a2) (spec_l11May.enc a0 a1 a2) (spec_l11May.f a0 a1 a2) := by
  obtain ⟨p0, p1⟩ := hp
  have l1 := (liveCt (s := a0) (by unfold SIn at p0; omega)).2.2
  have l2 := (liveCt (s := a1) (by unfold SIn at p1; omega)).2.2
  delta spec_l11May.f
  refine May.iff (B.eq) (fun h1 => ?_) (fun h1 => ?_)
  refine ⟨(a0.way == 0), ?_, fun X h => h⟩; rotate_left 1
  refine May.iff (B.eq) (fun h2 => ?_) (fun h2 => ?_)
  refine May.lp (B.and (B.dec) (B.or (B.eq) (B.eq))) fun x1 e1 => ⟨(x1), ?_, fun X h => h⟩; rotate_left 1
  refine May.iff (B.eq) (fun h3 => ?_) (fun h3 => ?_)
  refine May.lp (B.and (B.eq) (B.dec)) fun x2 e2 => ⟨(x2), ?_, fun X h => h⟩; rotate_left 1
  refine May.iff (B.eq) (fun h4 => ?_) (fun h4 => ?_)
  refine May.lp (B.and (B.eq) (B.dec)) fun x3 e3 => ⟨(x3), ?_, fun X h => h⟩; rotate_left 1
  refine May.iff (B.eq) (fun h5 => ?_) (fun h5 => ?_)
  refine May.lp (B.and (B.eq) (B.dec)) fun x4 e4 => ⟨(x4), ?_, fun X h => h⟩; rotate_left 1
  refine May.iff (B.eq) (fun h6 => ?_) (fun h6 => ?_)
  refine May.lp (B.and (B.and (B.eq) (B.eq)) (B.eq)) fun x5 e5 => ⟨(x5), ?_, fun X h => h⟩; rotate_left 1
  refine May.iff (B.eq) (fun h7 => ?_) (fun h7 => ?_)
  refine May.lp (B.and (B.eq) (B.eq)) fun x6 e6 => May.lp (B.and (B.and (B.eq) (B.eq)) (B.eq)) fun x7 e7 => May.lp (B.and (e6) (B.or (e7) (B.eq))) fun x8 e8 => ⟨(x8), ?_, fun X h => h⟩; rotate_left 1
  refine ⟨(false), ?_, fun X h => h⟩
  all_goals try dsimp only
  all_goals first | with_reducible assumption | omega | rfl | assumption | (simp only [List.length_append, List.length_cons, List.length_nil, List.length_set, List.length_replicate, Int.natCast_add, Int.natCast_one] at *; omega) | grind [MayK]
theorem spec_l11May.X : ∃ S : spec_l11May.L.α → Bool, ∀ s, spec_l11May.P s.1 s.2.1 s.2.2.1 → spec_l11May.Q s.1 s.2.1 s.2.2.1 (S s) ∧ ∀ X, X (spec_l11May.enc s.1 s.2.1 s.2.2.1 (S s)) → spec_l11May.f s.1 s.2.1 s.2.2.1 X := mayS (false) fun s => spec_l11May.x s.1 s.2.1 s.2.2.1
noncomputable def spec_l11May.S (a0 : St) (a1 : St) (a2 : Int) : Bool := Classical.choose spec_l11May.X (a0, (a1, (a2, ())))
theorem spec_l11May.q (a0 : St) (a1 : St) (a2 : Int) (hp : spec_l11May.P a0 a1 a2) : spec_l11May.Q a0 a1 a2 (spec_l11May.S a0 a1 a2) := (Classical.choose_spec spec_l11May.X (a0, (a1, (a2, ()))) hp).1
noncomputable def spec_l11May.c : Ctr := hctr 67 [true, true, false] spec_l11May.L (some fun s => spec_l11May.P s.1 s.2.1 s.2.2.1) (fun s => spec_l11May.enc s.1 s.2.1 s.2.2.1 (spec_l11May.S s.1 s.2.1 s.2.2.1))
theorem spec_l11May.good : Good Try.prog spec_l11May.c :=
  hgoodC (sh := []) (tk := []) (sp := []) (ct := []) (LL := []) (consG spec_l3Live.good noG) (fn := Try.f67) (by kernel_rfl) (by kernel_rfl) (by rw [show loopsOf (bodyOf Try.f67) = [] from by kernel_rfl]; exact noL rfl) (consC' (bs := []) (by kernel_rfl) noC) fun s hp => Eq.mpr (spec_l11May.w s.1 s.2.1 s.2.2.1 (fun r bs' => And (r = (spec_l11May.c.out s).1) (bs' = (spec_l11May.c.out s).2))) ((Classical.choose_spec spec_l11May.X s (hp _ rfl)).2 _ ⟨rfl, rfl⟩)
/-! ### spec.WayMay -/
def spec_WayMay.enc (a0 : St) (a1 : St) (a2 : Int) (r : Bool) : AV × List Blk := (.v (.c (.bool r)), [])
abbrev spec_WayMay.P (a0 : St) (a1 : St) (a2 : Int) : Prop := True
abbrev spec_WayMay.Q (a0 : St) (a1 : St) (a2 : Int) (r : Bool) : Prop := (r = true ↔ MayW a0 a1 a2)
def spec_WayMay.L : FL := fCons (fSh sSt) (fCons (fSh sSt) (fCons (fSh sInt) (fNil)))
def spec_WayMay.f (a0 : St) (a1 : St) (a2 : Int) (X : AV × List Blk → Prop) : Prop := Lt (bif (spec_StateOk.S a0) then (spec_StateOk.S a1) else false) fun x1 => And (Imp (And (x1 = true) (True)) (spec_l11May.P a0 a1 a2)) (Lt ((spec_l11May.S a0 a1 a2)) fun x2 => X (.v (.c (.bool (bif x1 then x2 else false))), []))
theorem spec_WayMay.w (a0 : St) (a1 : St) (a2 : Int) (K : AV → List Blk → Prop) : evFn (envC [spec_StateOk.c, spec_l11May.c] [] []) [] [] [] Try.f35 (spec_WayMay.L.inp (a0, (a1, (a2, ())))).1 (spec_WayMay.L.inp (a0, (a1, (a2, ())))).2 K = spec_WayMay.f a0 a1 a2 (fun v => K v.1 v.2) := by kernel_rfl
theorem spec_WayMay.x (a0 : St) (a1 : St) (a2 : Int) (hp : spec_WayMay.P a0 a1 a2) : May (spec_WayMay.Q a0 a1 a2) (spec_WayMay.enc a0 a1 a2) (spec_WayMay.f a0 a1 a2) := by
  delta spec_WayMay.f
  refine May.lp (B.and (specSt) (specSt)) fun x1 e1 => May.chk (fun hπ => have g1 := Iff.mp (e1) hπ.1; ⟨?_, ?_⟩) fun c1 => May.lq (fun x => spec_l11May.P a0 a1 a2 → spec_l11May.Q a0 a1 a2 x) (spec_l11May.q a0 a1 a2) fun x2 q2 => ⟨(bif x1 then x2 else false), ?_, fun X h => h⟩
  all_goals try dsimp only
  all_goals first | with_reducible assumption | omega | (exact stOk_in g1.1; done) | (exact stOk_in g1.2; done) | (exact wayMay e1 q2; done)
theorem spec_WayMay.X : ∃ S : spec_WayMay.L.α → Bool, ∀ s, spec_WayMay.P s.1 s.2.1 s.2.2.1 → spec_WayMay.Q s.1 s.2.1 s.2.2.1 (S s) ∧ ∀ X, X (spec_WayMay.enc s.1 s.2.1 s.2.2.1 (S s)) → spec_WayMay.f s.1 s.2.1 s.2.2.1 X := mayS (false) fun s => spec_WayMay.x s.1 s.2.1 s.2.2.1
noncomputable def spec_WayMay.S (a0 : St) (a1 : St) (a2 : Int) : Bool := Classical.choose spec_WayMay.X (a0, (a1, (a2, ())))
theorem spec_WayMay.q (a0 : St) (a1 : St) (a2 : Int) : spec_WayMay.Q a0 a1 a2 (spec_WayMay.S a0 a1 a2) := (Classical.choose_spec spec_WayMay.X (a0, (a1, (a2, ()))) trivial).1
noncomputable def spec_WayMay.c : Ctr := hctr 35 [true, true, false] spec_WayMay.L none (fun s => spec_WayMay.enc s.1 s.2.1 s.2.2.1 (spec_WayMay.S s.1 s.2.1 s.2.2.1))
theorem spec_WayMay.good : Good Try.prog spec_WayMay.c :=
  hgoodC (sh := []) (tk := []) (sp := []) (ct := []) (LL := []) (consG spec_StateOk.good (consG spec_l11May.good noG)) (fn := Try.f35) (by kernel_rfl) (by kernel_rfl) (by rw [show loopsOf (bodyOf Try.f35) = [] from by kernel_rfl]; exact noL rfl) (consC' (bs := []) (by kernel_rfl) noC) fun s hp => Eq.mpr (spec_WayMay.w s.1 s.2.1 s.2.2.1 (fun r bs' => And (r = (spec_WayMay.c.out s).1) (bs' = (spec_WayMay.c.out s).2))) ((Classical.choose_spec spec_WayMay.X s trivial).2 _ ⟨rfl, rfl⟩)
/-! ### spec.WayNext -/
abbrev spec_WayNext_l3.P (x3_0 : St) (x3_1 : St) (x3_2 : List Int) (x3_3 : Int) : Prop := (0 ≤ x3_3) ∧ (x3_3 ≤ 8) ∧ (1 ≤ x3_3) ∧ (x3_2 = mays x3_0 x3_1 (x3_3 - 1).toNat)
abbrev spec_WayNext_l3.Q (x3_0 : St) (x3_1 : St) (x3_2 : List Int) (x3_3 : Int) (r : Nat × (List Int) × Unit) : Prop := (r.2.1 = mays x3_0 x3_1 7) ∧ (r.2.1.length ≤ 7)
def spec_WayNext_l3.M (x3_0 : St) (x3_1 : St) (x3_2 : List Int) (x3_3 : Int) : Nat := (7 + 1 - x3_3).toNat
def spec_WayNext_l3.L : FL := fCons (fC (cPtr 1 (cStE false) rfl)) (fCons (fC (cPtr 1 (cStE false) rfl)) (fCons (fC (cOwn kInts 3)) (fCons (fC cInt) (fNil))))
def spec_WayNext_l3.o0 (x3_0 : St) (x3_1 : St) (x3_2 : List Int) (x3_3 : Int) (r : Nat × (List Int) × Unit) : Ex × List FV × List Blk := (.exit 0, [.c (.own 0 1 3)], [.arr (.ints r.2.1)])
def spec_WayNext_l3.o (x3_0 : St) (x3_1 : St) (x3_2 : List Int) (x3_3 : Int) (r : Nat × (List Int) × Unit) : Ex × List FV × List Blk := pickAlt [] (spec_WayNext_l3.o0 x3_0 x3_1 x3_2 x3_3 r)
def spec_WayNext_l3.f (x3_0 : St) (x3_1 : St) (x3_2 : List Int) (x3_3 : Int) (X : (spec_WayNext_l3.L.α ⊕ (Ex × List FV × List Blk) → Prop)) : Prop := And (Imp ((decide (x3_3 ≤ 7)) = true) (Lt ((spec_WayMay.S x3_0 x3_1 x3_3)) fun x1 => And (Imp (x1 = true) (And ((x3_2 ++ ([x3_3])).length ≤ 4294967296) (Lt (wrap (x3_3 + 1)) fun x2 => X (.inl (x3_0, (x3_1, ((x3_2 ++ ([x3_3])), (x2, ())))))))) (Imp (x1 = false) (Lt (wrap (x3_3 + 1)) fun x3 => X (.inl (x3_0, (x3_1, (x3_2, (x3, ()))))))))) (Imp ((decide (x3_3 ≤ 7)) = false) (X (.inr (.exit 0, [.c (.own 0 1 3)], [.arr (.ints x3_2)]))))
def spec_WayNext_l3.d (S : spec_WayNext_l3.L.α → Nat × (List Int) × Unit) : LDat := ldat 3 [2, 3, 5, 6] [] spec_WayNext_l3.L (fun s => spec_WayNext_l3.P s.1 s.2.1 s.2.2.1 s.2.2.2.1) (fun s => []) (fun s => spec_WayNext_l3.o0 s.1 s.2.1 s.2.2.1 s.2.2.2.1 (S s)) (fun s => spec_WayNext_l3.M s.1 s.2.1 s.2.2.1 s.2.2.2.1) 0 (fun _ => [5]) (fun _ => [])
theorem spec_WayNext_l3.w (S : spec_WayNext_l3.L.α → Nat × (List Int) × Unit) (x3_0 : St) (x3_1 : St) (x3_2 : List Int) (x3_3 : Int) : evBody (envC [spec_WayMay.c] [] []) [] (bodyAt Try.f46 0) (spec_WayNext_l3.d S) (x3_0, (x3_1, (x3_2, (x3_3, ())))) = spec_WayNext_l3.f x3_0 x3_1 x3_2 x3_3 (lpx (spec_WayNext_l3.d S).pre (spec_WayNext_l3.d S).μ (spec_WayNext_l3.d S).out (x3_0, (x3_1, (x3_2, (x3_3, ()))))) := by kernel_rfl
theorem spec_WayNext_l3.x (x3_0 : St) (x3_1 : St) (x3_2 : List Int) (x3_3 : Int) (hp : spec_WayNext_l3.P x3_0 x3_1 x3_2 x3_3) : May (R := spec_WayNext_l3.L.α ⊕ (Nat × (List Int) × Unit)) (lpq (fun s => spec_WayNext_l3.P s.1 s.2.1 s.2.2.1 s.2.2.2.1) (fun s => spec_WayNext_l3.M s.1 s.2.1 s.2.2.1 s.2.2.2.1) (fun s => spec_WayNext_l3.Q s.1 s.2.1 s.2.2.1 s.2.2.2.1) (fun s => spec_WayNext_l3.o s.1 s.2.1 s.2.2.1 s.2.2.2.1) (x3_0, (x3_1, (x3_2, (x3_3, ()))))) (lpo (fun s => spec_WayNext_l3.o s.1 s.2.1 s.2.2.1 s.2.2.2.1) (x3_0, (x3_1, (x3_2, (x3_3, ()))))) (spec_WayNext_l3.f x3_0 x3_1 x3_2 x3_3) := by
  obtain ⟨p0, p1, p2, p3⟩ := hp
  delta spec_WayNext_l3.f
  refine May.iff (B.dec) (fun h1 => ?_) (fun h1 => ?_)
  refine May.lq (spec_WayMay.Q x3_0 x3_1 x3_3) (spec_WayMay.q x3_0 x3_1 x3_3) fun x1 q1 => May.iff (Iff.rfl) (fun h2 => ?_) (fun h2 => ?_)
  refine May.chk ?_ fun c1 => May.lw ⟨?_, ?_⟩ fun x2 e2 => ⟨.inl (x3_0, (x3_1, ((x3_2 ++ ([x3_3])), (x2, ())))), ⟨⟨?_, ?_, ?_, ?_⟩, ?_, ?_, fun r => rfl⟩, fun X h => h⟩; rotate_left 9
  refine May.lw ⟨?_, ?_⟩ fun x3 e3 => ⟨.inl (x3_0, (x3_1, (x3_2, (x3, ())))), ⟨⟨?_, ?_, ?_, ?_⟩, ?_, ?_, fun r => rfl⟩, fun X h => h⟩; rotate_left 8
  refine ⟨.inr (0, (x3_2, ())), ⟨?_, ?_⟩, fun X h => h⟩
  all_goals try dsimp only
  all_goals first | with_reducible assumption | omega | exact fun _ q => q | (unfold spec_WayNext_l3.M; omega) | (rw [p3, mays_t p2 (q1.1 h2)]; congr 1; omega; done) | (rw [p3, mays_f p2 (fun h => h2 (q1.2 h))]; congr 1; omega; done) | (rw [p3, show x3_3 = 8 by omega]; exact ⟨rfl, mays_len 7⟩; done) | (rw [p3, show x3_3 = 8 by omega]; rfl; done) | (rw [p3, show x3_3 = 8 by omega]; exact mays_len 7; done) | (rw [p3]; have := mays_len (s := x3_0) (o := x3_1) (x3_3 - 1).toNat; simp only [List.length_append, List.length_cons, List.length_nil]; omega; done) | rfl | assumption | (simp only [List.length_append, List.length_cons, List.length_nil, List.length_set, List.length_replicate, Int.natCast_add, Int.natCast_one] at *; omega) | grind
theorem spec_WayNext_l3.X : ∃ S : spec_WayNext_l3.L.α → Nat × (List Int) × Unit, ∀ s, spec_WayNext_l3.P s.1 s.2.1 s.2.2.1 s.2.2.2.1 → spec_WayNext_l3.Q s.1 s.2.1 s.2.2.1 s.2.2.2.1 (S s) ∧ spec_WayNext_l3.f s.1 s.2.1 s.2.2.1 s.2.2.2.1 (lpx (fun s => spec_WayNext_l3.P s.1 s.2.1 s.2.2.1 s.2.2.2.1) (fun s => spec_WayNext_l3.M s.1 s.2.1 s.2.2.1 s.2.2.2.1) (fun s => spec_WayNext_l3.o s.1 s.2.1 s.2.2.1 s.2.2.2.1 (S s)) s) := loopS (0, ([], ())) fun s => spec_WayNext_l3.x s.1 s.2.1 s.2.2.1 s.2.2.2.1
noncomputable def spec_WayNext_l3.R (x3_0 : St) (x3_1 : St) (x3_2 : List Int) (x3_3 : Int) : Nat × (List Int) × Unit := Classical.choose spec_WayNext_l3.X (x3_0, (x3_1, (x3_2, (x3_3, ()))))
theorem spec_WayNext_l3.q (x3_0 : St) (x3_1 : St) (x3_2 : List Int) (x3_3 : Int) (hp : spec_WayNext_l3.P x3_0 x3_1 x3_2 x3_3) : spec_WayNext_l3.Q x3_0 x3_1 x3_2 x3_3 (spec_WayNext_l3.R x3_0 x3_1 x3_2 x3_3) := (Classical.choose_spec spec_WayNext_l3.X (x3_0, (x3_1, (x3_2, (x3_3, ())))) hp).1
noncomputable def spec_WayNext_l3.k : LCtr := (spec_WayNext_l3.d (fun s => spec_WayNext_l3.R s.1 s.2.1 s.2.2.1 s.2.2.2.1)).ctr
theorem spec_WayNext_l3.g (hG : ∀ c ∈ [spec_WayMay.c], Good Try.prog c) : LGood Try.prog Try.f46.ntmps spec_WayNext_l3.k (bodyAt Try.f46 0) := lgoodC (sp := []) (ct := []) (LL := []) hG (by kernel_rfl) (by rw [show loopsOf (bodyAt Try.f46 0) = [] from by kernel_rfl]; exact noL rfl) (consC' (bs := []) (by kernel_rfl) noC) fun s hp => Eq.mpr (spec_WayNext_l3.w (fun s => spec_WayNext_l3.R s.1 s.2.1 s.2.2.1 s.2.2.2.1) s.1 s.2.1 s.2.2.1 s.2.2.2.1) (Classical.choose_spec spec_WayNext_l3.X s hp).2
def spec_WayNext.enc (a0 : St) (a1 : St) (r : (List Int)) : AV × List Blk := (.v (.c (.own 0 1 3)), [.arr (.ints r)])
abbrev spec_WayNext.P (a0 : St) (a1 : St) : Prop := True
abbrev spec_WayNext.Q (a0 : St) (a1 : St) (r : (List Int)) : Prop := (r = mays a0 a1 7) ∧ (r.length ≤ 7)
def spec_WayNext.L : FL := fCons (fSh sSt) (fCons (fSh sSt) (fNil))
def spec_WayNext.f (a0 : St) (a1 : St) (X : AV × List Blk → Prop) : Prop := And (spec_WayNext_l3.P a0 a1 [] 1) (Lt (spec_WayNext_l3.R a0 a1 [] 1) fun x4 => X (.v (.c (.own 0 1 3)), [.arr (.ints x4.2.1)]))
theorem spec_WayNext.w (a0 : St) (a1 : St) (K : AV → List Blk → Prop) : evFn (envC [spec_WayMay.c] [] []) [spec_WayNext_l3.k] [[some (.int, 3)]] [] Try.f46 (spec_WayNext.L.inp (a0, (a1, ()))).1 (spec_WayNext.L.inp (a0, (a1, ()))).2 K = spec_WayNext.f a0 a1 (fun v => K v.1 v.2) := by kernel_rfl
theorem spec_WayNext.x (a0 : St) (a1 : St) (hp : spec_WayNext.P a0 a1) : May (spec_WayNext.Q a0 a1) (spec_WayNext.enc a0 a1) (spec_WayNext.f a0 a1) := by
  delta spec_WayNext.f
  refine May.chk ⟨?_, ?_, ?_, ?_⟩ fun c1 => May.lq (spec_WayNext_l3.Q a0 a1 [] 1) (spec_WayNext_l3.q a0 a1 [] 1 c1) fun x4 q4 => have q4_0 := q4.1; have q4_1 := q4.2; ⟨(x4.2.1), ⟨?_, ?_⟩, fun X h => h⟩
  all_goals try dsimp only
  all_goals first | with_reducible assumption | omega | rfl | assumption | (simp only [List.length_append, List.length_cons, List.length_nil, List.length_set, List.length_replicate, Int.natCast_add, Int.natCast_one] at *; omega) | grind
theorem spec_WayNext.X : ∃ S : spec_WayNext.L.α → (List Int), ∀ s, spec_WayNext.P s.1 s.2.1 → spec_WayNext.Q s.1 s.2.1 (S s) ∧ ∀ X, X (spec_WayNext.enc s.1 s.2.1 (S s)) → spec_WayNext.f s.1 s.2.1 X := mayS ([]) fun s => spec_WayNext.x s.1 s.2.1
noncomputable def spec_WayNext.S (a0 : St) (a1 : St) : (List Int) := Classical.choose spec_WayNext.X (a0, (a1, ()))
theorem spec_WayNext.q (a0 : St) (a1 : St) : spec_WayNext.Q a0 a1 (spec_WayNext.S a0 a1) := (Classical.choose_spec spec_WayNext.X (a0, (a1, ())) trivial).1
noncomputable def spec_WayNext.c : Ctr := hctr 46 [true, true] spec_WayNext.L none (fun s => spec_WayNext.enc s.1 s.2.1 (spec_WayNext.S s.1 s.2.1))
theorem spec_WayNext.good : Good Try.prog spec_WayNext.c :=
  hgoodC (sh := [[some (.int, 3)]]) (tk := []) (sp := []) (ct := []) (LL := [spec_WayNext_l3.k]) (consG spec_WayMay.good noG) (fn := Try.f46) (by kernel_rfl) (by kernel_rfl) (by rw [show loopsOf (bodyOf Try.f46) = [(bodyAt Try.f46 0)] from by kernel_rfl]; exact consL (l := spec_WayNext_l3.k) (by kernel_rfl) (spec_WayNext_l3.g (consG spec_WayMay.good noG)) (noL rfl)) (consC' (bs := []) (by kernel_rfl) noC) fun s hp => Eq.mpr (spec_WayNext.w s.1 s.2.1 (fun r bs' => And (r = (spec_WayNext.c.out s).1) (bs' = (spec_WayNext.c.out s).2))) ((Classical.choose_spec spec_WayNext.X s trivial).2 _ ⟨rfl, rfl⟩)
/-! ### spec.l12Block -/
def spec_l12Block.enc (a0 : Ch) (r : Ch) : AV × List Blk := (.v (.agg [.int r.id, .own 8 1 3, .own 9 1 3, .int r.bank.locked, .int r.st.way, .int r.st.ver, .int r.st.want, .own 10 7 44, .own 11 1 4, .own 12 1 4, .own 13 1 3, .own 14 7 29, .own 15 1 3]), [.dead, .dead, .dead, .dead, .dead, .dead, .dead, .dead, .arr (.ints r.bank.own), .arr (.ints r.bank.notes), .arr (.pkts r.st.sent), .arr (.bools r.st.live), .arr (.bools r.st.back), .arr (.ints r.st.got), .arr (.sts r.past), .arr (.ints r.knows)])
abbrev spec_l12Block.P (a0 : Ch) : Prop := (CIn a0)
abbrev spec_l12Block.Q (a0 : Ch) (r : Ch) : Prop := (CIn r) ∧ (r.knows = a0.knows)
def spec_l12Block.L : FL := fCons (fAgg cChO) (fNil)
def spec_l12Block.f (a0 : Ch) (X : AV × List Blk → Prop) : Prop := And (Imp ((decide ((a0.past.length : Int) < 90)) = true) (And (spec_l3Copy.P a0.st) (Lt ((spec_l3Copy.S a0.st)) fun x1 => And ((a0.past ++ ([x1])).length ≤ 4294967296) (X (.v (.agg [.int a0.id, .own 8 1 3, .own 9 1 3, .int a0.bank.locked, .int a0.st.way, .int a0.st.ver, .int a0.st.want, .own 10 7 44, .own 11 1 4, .own 12 1 4, .own 13 1 3, .own 14 7 29, .own 15 1 3]), [.dead, .dead, .dead, .dead, .dead, .dead, .dead, .dead, .arr (.ints a0.bank.own), .arr (.ints a0.bank.notes), .arr (.pkts a0.st.sent), .arr (.bools a0.st.live), .arr (.bools a0.st.back), .arr (.ints a0.st.got), .arr (.sts (a0.past ++ ([x1]))), .arr (.ints a0.knows)]))))) (Imp ((decide ((a0.past.length : Int) < 90)) = false) (X (.v (.agg [.int a0.id, .own 8 1 3, .own 9 1 3, .int a0.bank.locked, .int a0.st.way, .int a0.st.ver, .int a0.st.want, .own 10 7 44, .own 11 1 4, .own 12 1 4, .own 13 1 3, .own 14 7 29, .own 15 1 3]), [.dead, .dead, .dead, .dead, .dead, .dead, .dead, .dead, .arr (.ints a0.bank.own), .arr (.ints a0.bank.notes), .arr (.pkts a0.st.sent), .arr (.bools a0.st.live), .arr (.bools a0.st.back), .arr (.ints a0.st.got), .arr (.sts a0.past), .arr (.ints a0.knows)])))
theorem spec_l12Block.w (a0 : Ch) (K : AV → List Blk → Prop) : evFn (envC [spec_l3Copy.c] [] []) [] [[none, some (.int, 3), some (.int, 3), none, none, none, none, some (.pkt, 44), some (.bool, 4), some (.bool, 4), some (.int, 3), some (.st, 29), some (.int, 3)]] [0, 1, 2, 3, 4, 5, 6, 7] Try.f116 (spec_l12Block.L.inp (a0, ())).1 (spec_l12Block.L.inp (a0, ())).2 K = spec_l12Block.f a0 (fun v => K v.1 v.2) := by kernel_rfl
theorem spec_l12Block.x (a0 : Ch) (hp : spec_l12Block.P a0) : May (spec_l12Block.Q a0) (spec_l12Block.enc a0) (spec_l12Block.f a0) := by
  have p0 := hp
  obtain ⟨p0b, p0s, p0l, p0p, p0k, p0q⟩ := id p0
  obtain ⟨p0s1, p0s2, p0s3, p0s4, p0s5⟩ := id p0s
  delta spec_l12Block.f
  refine May.iff (B.dec) (fun h1 => ?_) (fun h1 => ?_)
  refine May.chk ?_ fun c1 => May.lq (spec_l3Copy.Q a0.st) (spec_l3Copy.q a0.st ?_) fun x1 q1 => May.chk ?_ fun c2 => ⟨((⟨a0.id, a0.bank, a0.st, (a0.past ++ ([x1])), a0.knows⟩ : Ch)), ⟨?_, ?_⟩, fun X h => h⟩; rotate_left 5
  refine ⟨(a0), ⟨?_, ?_⟩, fun X h => h⟩
  all_goals try dsimp only
  all_goals first | with_reducible assumption | omega | (exact sin_sm p0s; done) | (exact cin_past p0 (by rw [q1]; exact p0s) h1; done) | rfl | assumption | (simp only [List.length_append, List.length_cons, List.length_nil, List.length_set, List.length_replicate, Int.natCast_add, Int.natCast_one] at *; omega) | grind
theorem spec_l12Block.X : ∃ S : spec_l12Block.L.α → Ch, ∀ s, spec_l12Block.P s.1 → spec_l12Block.Q s.1 (S s) ∧ ∀ X, X (spec_l12Block.enc s.1 (S s)) → spec_l12Block.f s.1 X := mayS (zCh) fun s => spec_l12Block.x s.1
noncomputable def spec_l12Block.S (a0 : Ch) : Ch := Classical.choose spec_l12Block.X (a0, ())
theorem spec_l12Block.q (a0 : Ch) (hp : spec_l12Block.P a0) : spec_l12Block.Q a0 (spec_l12Block.S a0) := (Classical.choose_spec spec_l12Block.X (a0, ()) hp).1
noncomputable def spec_l12Block.c : Ctr := hctr 116 [false] spec_l12Block.L (some fun s => spec_l12Block.P s.1) (fun s => spec_l12Block.enc s.1 (spec_l12Block.S s.1))
theorem spec_l12Block.good : Good Try.prog spec_l12Block.c :=
  hgoodC (sh := [[none, some (.int, 3), some (.int, 3), none, none, none, none, some (.pkt, 44), some (.bool, 4), some (.bool, 4), some (.int, 3), some (.st, 29), some (.int, 3)]]) (tk := [0, 1, 2, 3, 4, 5, 6, 7]) (sp := []) (ct := []) (LL := []) (consG spec_l3Copy.good noG) (fn := Try.f116) (by kernel_rfl) (by kernel_rfl) (by rw [show loopsOf (bodyOf Try.f116) = [] from by kernel_rfl]; exact noL rfl) (consC' (bs := []) (by kernel_rfl) noC) fun s hp => Eq.mpr (spec_l12Block.w s.1 (fun r bs' => And (r = (spec_l12Block.c.out s).1) (bs' = (spec_l12Block.c.out s).2))) ((Classical.choose_spec spec_l12Block.X s (hp _ rfl)).2 _ ⟨rfl, rfl⟩)
/-! ### spec.l12Send -/
def spec_l12Send.enc (a0 : Ch) (a1 : Int) (a2 : Int) (a3 : Int) (a4 : Int) (a5 : Int) (r : Ch × Int × Bool) : AV × List Blk := (.tup [.agg [.int r.1.id, .own 8 1 3, .own 9 1 3, .int r.1.bank.locked, .int r.1.st.way, .int r.1.st.ver, .int r.1.st.want, .own 10 7 44, .own 11 1 4, .own 12 1 4, .own 13 1 3, .own 14 7 29, .own 15 1 3], .c (.int r.2.1), .c (.bool r.2.2)], [.dead, .dead, .dead, .dead, .dead, .dead, .dead, .dead, .arr (.ints r.1.bank.own), .arr (.ints r.1.bank.notes), .arr (.pkts r.1.st.sent), .arr (.bools r.1.st.live), .arr (.bools r.1.st.back), .arr (.ints r.1.st.got), .arr (.sts r.1.past), .arr (.ints r.1.knows)])
abbrev spec_l12Send.P (a0 : Ch) (a1 : Int) (a2 : Int) (a3 : Int) (a4 : Int) (a5 : Int) : Prop := (CIn a0)
abbrev spec_l12Send.Q (a0 : Ch) (a1 : Int) (a2 : Int) (a3 : Int) (a4 : Int) (a5 : Int) (r : Ch × Int × Bool) : Prop := (CIn r.1) ∧ (r.1.knows = a0.knows)
def spec_l12Send.L : FL := fCons (fAgg cChO) (fCons (fSh sInt) (fCons (fSh sInt) (fCons (fSh sInt) (fCons (fSh sInt) (fCons (fSh sInt) (fNil))))))
def spec_l12Send.f (a0 : Ch) (a1 : Int) (a2 : Int) (a3 : Int) (a4 : Int) (a5 : Int) (X : AV × List Blk → Prop) : Prop := Lt (wrap ((a0.st.sent.length : Int) + 1)) fun x1 => Lt (spec_PacketOk.S (⟨x1, a1, a2, a3, a4, a5, a0.st.ver⟩ : Pkt)) fun x2 => And (Imp ((bif a0.st.way != 3 then true else !x2) = true) (X (.tup [.agg [.int a0.id, .own 8 1 3, .own 9 1 3, .int a0.bank.locked, .int a0.st.way, .int a0.st.ver, .int a0.st.want, .own 10 7 44, .own 11 1 4, .own 12 1 4, .own 13 1 3, .own 14 7 29, .own 15 1 3], .c (.int 0), .c (.bool false)], [.dead, .dead, .dead, .dead, .dead, .dead, .dead, .dead, .arr (.ints a0.bank.own), .arr (.ints a0.bank.notes), .arr (.pkts a0.st.sent), .arr (.bools a0.st.live), .arr (.bools a0.st.back), .arr (.ints a0.st.got), .arr (.sts a0.past), .arr (.ints a0.knows)]))) (Imp ((bif a0.st.way != 3 then true else !x2) = false) (And (spec_l1Away.P a0.bank a1 a2 a4) (Lt ((spec_l1Away.S a0.bank a1 a2 a4)) fun x3 => And (Imp ((!x3.2) = true) (X (.tup [.agg [.int a0.id, .own 8 1 3, .own 9 1 3, .int a0.bank.locked, .int a0.st.way, .int a0.st.ver, .int a0.st.want, .own 10 7 44, .own 11 1 4, .own 12 1 4, .own 13 1 3, .own 14 7 29, .own 15 1 3], .c (.int 0), .c (.bool false)], [.dead, .dead, .dead, .dead, .dead, .dead, .dead, .dead, .arr (.ints x3.1.own), .arr (.ints x3.1.notes), .arr (.pkts a0.st.sent), .arr (.bools a0.st.live), .arr (.bools a0.st.back), .arr (.ints a0.st.got), .arr (.sts a0.past), .arr (.ints a0.knows)]))) (Imp ((!x3.2) = false) (And ((a0.st.sent ++ ([(⟨x1, a1, a2, a3, a4, a5, a0.st.ver⟩ : Pkt)])).length ≤ 4294967296) (And ((a0.st.live ++ ([true])).length ≤ 4294967296) (And ((a0.st.back ++ ([false])).length ≤ 4294967296) (X (.tup [.agg [.int a0.id, .own 8 1 3, .own 9 1 3, .int x3.1.locked, .int a0.st.way, .int a0.st.ver, .int a0.st.want, .own 10 7 44, .own 11 1 4, .own 12 1 4, .own 13 1 3, .own 14 7 29, .own 15 1 3], .c (.int x1), .c (.bool true)], [.dead, .dead, .dead, .dead, .dead, .dead, .dead, .dead, .arr (.ints x3.1.own), .arr (.ints x3.1.notes), .arr (.pkts (a0.st.sent ++ ([(⟨x1, a1, a2, a3, a4, a5, a0.st.ver⟩ : Pkt)]))), .arr (.bools (a0.st.live ++ ([true]))), .arr (.bools (a0.st.back ++ ([false]))), .arr (.ints a0.st.got), .arr (.sts a0.past), .arr (.ints a0.knows)])))))))))
theorem spec_l12Send.w (a0 : Ch) (a1 : Int) (a2 : Int) (a3 : Int) (a4 : Int) (a5 : Int) (K : AV → List Blk → Prop) : evFn (envC [spec_PacketOk.c, spec_l1Away.c] [] []) [] [[none, some (.int, 3), some (.int, 3), none, none, none, none, some (.pkt, 44), some (.bool, 4), some (.bool, 4), some (.int, 3), some (.st, 29), some (.int, 3)], [], []] [0, 1, 2, 3, 4, 5, 6, 7] Try.f118 (spec_l12Send.L.inp (a0, (a1, (a2, (a3, (a4, (a5, ()))))))).1 (spec_l12Send.L.inp (a0, (a1, (a2, (a3, (a4, (a5, ()))))))).2 K = spec_l12Send.f a0 a1 a2 a3 a4 a5 (fun v => K v.1 v.2) := by kernel_rfl
theorem spec_l12Send.x (a0 : Ch) (a1 : Int) (a2 : Int) (a3 : Int) (a4 : Int) (a5 : Int) (hp : spec_l12Send.P a0 a1 a2 a3 a4 a5) : May (spec_l12Send.Q a0 a1 a2 a3 a4 a5) (spec_l12Send.enc a0 a1 a2 a3 a4 a5) (spec_l12Send.f a0 a1 a2 a3 a4 a5) := by
  have p0 := hp
  obtain ⟨p0b, p0s, p0l, p0p, p0k, p0q⟩ := id p0
  obtain ⟨p0s1, p0s2, p0s3, p0s4, p0s5⟩ := id p0s
  delta spec_l12Send.f
  refine May.lw ⟨?_, ?_⟩ fun x1 e1 => May.lp (specPkt) fun x2 e2 => May.iff (B.or (B.ne) (B.not (e2))) (fun h1 => ?_) (fun h1 => ?_); rotate_left 2
  refine ⟨(a0, 0, false), ⟨?_, ?_⟩, fun X h => h⟩; rotate_left 2
  refine May.chk ⟨?_, ?_⟩ fun c1 => May.lq (spec_l1Away.Q a0.bank a1 a2 a4) (spec_l1Away.q a0.bank a1 a2 a4 ⟨?_, ?_⟩) fun x3 q3 => May.iff (B.not (Iff.rfl)) (fun h2 => ?_) (fun h2 => ?_); rotate_left 4
  refine ⟨((⟨a0.id, (⟨x3.1.own, x3.1.notes, a0.bank.locked⟩ : Bk), a0.st, a0.past, a0.knows⟩ : Ch), 0, false), ⟨?_, ?_⟩, fun X h => h⟩; rotate_left 2
  refine May.chk ?_ fun c2 => May.chk ?_ fun c3 => May.chk ?_ fun c4 => ⟨((⟨a0.id, x3.1, (⟨a0.st.way, a0.st.ver, a0.st.want, (a0.st.sent ++ ([(⟨x1, a1, a2, a3, a4, a5, a0.st.ver⟩ : Pkt)])), (a0.st.live ++ ([true])), (a0.st.back ++ ([false])), a0.st.got⟩ : St), a0.past, a0.knows⟩ : Ch), x1, true), ⟨?_, ?_⟩, fun X h => h⟩
  all_goals try dsimp only
  all_goals first | with_reducible assumption | omega | (exact cin_mk p0 q3 p0s; done) | (exact cin_mk p0 q3 (sin_send p0s (pok_in (by grind)) (by unfold PktOk at h1; grind)); done) | rfl | assumption | (simp only [List.length_append, List.length_cons, List.length_nil, List.length_set, List.length_replicate, Int.natCast_add, Int.natCast_one] at *; omega) | grind [PktOk]
theorem spec_l12Send.X : ∃ S : spec_l12Send.L.α → Ch × Int × Bool, ∀ s, spec_l12Send.P s.1 s.2.1 s.2.2.1 s.2.2.2.1 s.2.2.2.2.1 s.2.2.2.2.2.1 → spec_l12Send.Q s.1 s.2.1 s.2.2.1 s.2.2.2.1 s.2.2.2.2.1 s.2.2.2.2.2.1 (S s) ∧ ∀ X, X (spec_l12Send.enc s.1 s.2.1 s.2.2.1 s.2.2.2.1 s.2.2.2.2.1 s.2.2.2.2.2.1 (S s)) → spec_l12Send.f s.1 s.2.1 s.2.2.1 s.2.2.2.1 s.2.2.2.2.1 s.2.2.2.2.2.1 X := mayS (zCh, 0, false) fun s => spec_l12Send.x s.1 s.2.1 s.2.2.1 s.2.2.2.1 s.2.2.2.2.1 s.2.2.2.2.2.1
noncomputable def spec_l12Send.S (a0 : Ch) (a1 : Int) (a2 : Int) (a3 : Int) (a4 : Int) (a5 : Int) : Ch × Int × Bool := Classical.choose spec_l12Send.X (a0, (a1, (a2, (a3, (a4, (a5, ()))))))
theorem spec_l12Send.q (a0 : Ch) (a1 : Int) (a2 : Int) (a3 : Int) (a4 : Int) (a5 : Int) (hp : spec_l12Send.P a0 a1 a2 a3 a4 a5) : spec_l12Send.Q a0 a1 a2 a3 a4 a5 (spec_l12Send.S a0 a1 a2 a3 a4 a5) := (Classical.choose_spec spec_l12Send.X (a0, (a1, (a2, (a3, (a4, (a5, ())))))) hp).1
noncomputable def spec_l12Send.c : Ctr := hctr 118 [false, false, false, false, false, false] spec_l12Send.L (some fun s => spec_l12Send.P s.1 s.2.1 s.2.2.1 s.2.2.2.1 s.2.2.2.2.1 s.2.2.2.2.2.1) (fun s => spec_l12Send.enc s.1 s.2.1 s.2.2.1 s.2.2.2.1 s.2.2.2.2.1 s.2.2.2.2.2.1 (spec_l12Send.S s.1 s.2.1 s.2.2.1 s.2.2.2.1 s.2.2.2.2.1 s.2.2.2.2.2.1))
theorem spec_l12Send.good : Good Try.prog spec_l12Send.c :=
  hgoodC (sh := [[none, some (.int, 3), some (.int, 3), none, none, none, none, some (.pkt, 44), some (.bool, 4), some (.bool, 4), some (.int, 3), some (.st, 29), some (.int, 3)], [], []]) (tk := [0, 1, 2, 3, 4, 5, 6, 7]) (sp := []) (ct := []) (LL := []) (consG spec_PacketOk.good (consG spec_l1Away.good noG)) (fn := Try.f118) (by kernel_rfl) (by kernel_rfl) (by rw [show loopsOf (bodyOf Try.f118) = [] from by kernel_rfl]; exact noL rfl) (consC' (bs := []) (by kernel_rfl) noC) fun s hp => Eq.mpr (spec_l12Send.w s.1 s.2.1 s.2.2.1 s.2.2.2.1 s.2.2.2.2.1 s.2.2.2.2.2.1 (fun r bs' => And (r = (spec_l12Send.c.out s).1) (bs' = (spec_l12Send.c.out s).2))) ((Classical.choose_spec spec_l12Send.X s (hp _ rfl)).2 _ ⟨rfl, rfl⟩)
/-! ### spec.l11Do -/
def spec_l11Do.enc (a0 : St) (a1 : St) (a2 : Int) (r : St) : AV × List Blk := (.v (.agg [.int r.way, .int r.ver, .int r.want, .own 0 7 44, .own 1 1 4, .own 2 1 4, .own 3 1 3]), [.arr (.pkts r.sent), .arr (.bools r.live), .arr (.bools r.back), .arr (.ints r.got)])
abbrev spec_l11Do.P (a0 : St) (a1 : St) (a2 : Int) : Prop := (SIn a0)
abbrev spec_l11Do.Q (a0 : St) (a1 : St) (a2 : Int) (r : St) : Prop := (SIn r)
def spec_l11Do.L : FL := fCons (fAgg cStO) (fCons (fSh sSt) (fCons (fSh sInt) (fNil)))
def spec_l11Do.f (a0 : St) (a1 : St) (a2 : Int) (X : AV × List Blk → Prop) : Prop := And (Imp ((a2 == 1) = true) (X (.v (.agg [.int 1, .int a0.ver, .int a0.want, .own 0 7 44, .own 1 1 4, .own 2 1 4, .own 3 1 3]), [.arr (.pkts a0.sent), .arr (.bools a0.live), .arr (.bools a0.back), .arr (.ints a0.got)]))) (Imp ((a2 == 1) = false) (And (Imp ((a2 == 2) = true) (X (.v (.agg [.int 2, .int a0.ver, .int a0.want, .own 0 7 44, .own 1 1 4, .own 2 1 4, .own 3 1 3]), [.arr (.pkts a0.sent), .arr (.bools a0.live), .arr (.bools a0.back), .arr (.ints a0.got)]))) (Imp ((a2 == 2) = false) (And (Imp ((a2 == 3) = true) (And (Imp ((a2 == 3) = true) (X (.v (.agg [.int 3, .int a0.ver, .int a0.want, .own 0 7 44, .own 1 1 4, .own 2 1 4, .own 3 1 3]), [.arr (.pkts a0.sent), .arr (.bools a0.live), .arr (.bools a0.back), .arr (.ints a0.got)]))) (Imp ((a2 == 3) = false) (And (Imp ((a2 == 5) = true) (X (.v (.agg [.int 4, .int a0.ver, .int (wrap (a0.ver + 1)), .own 0 7 44, .own 1 1 4, .own 2 1 4, .own 3 1 3]), [.arr (.pkts a0.sent), .arr (.bools a0.live), .arr (.bools a0.back), .arr (.ints a0.got)]))) (Imp ((a2 == 5) = false) (And (Imp ((a2 == 6) = true) (X (.v (.agg [.int 4, .int a0.ver, .int a1.want, .own 0 7 44, .own 1 1 4, .own 2 1 4, .own 3 1 3]), [.arr (.pkts a0.sent), .arr (.bools a0.live), .arr (.bools a0.back), .arr (.ints a0.got)]))) (Imp ((a2 == 6) = false) (And (Imp ((a2 == 7) = true) (X (.v (.agg [.int 3, .int a0.want, .int 0, .own 0 7 44, .own 1 1 4, .own 2 1 4, .own 3 1 3]), [.arr (.pkts a0.sent), .arr (.bools a0.live), .arr (.bools a0.back), .arr (.ints a0.got)]))) (Imp ((a2 == 7) = false) (X (.v (.agg [.int a0.way, .int a0.ver, .int a0.want, .own 0 7 44, .own 1 1 4, .own 2 1 4, .own 3 1 3]), [.arr (.pkts a0.sent), .arr (.bools a0.live), .arr (.bools a0.back), .arr (.ints a0.got)]))))))))))) (Imp ((a2 == 3) = false) (And (Imp ((a2 == 4) = true) (X (.v (.agg [.int 3, .int a0.ver, .int a0.want, .own 0 7 44, .own 1 1 4, .own 2 1 4, .own 3 1 3]), [.arr (.pkts a0.sent), .arr (.bools a0.live), .arr (.bools a0.back), .arr (.ints a0.got)]))) (Imp ((a2 == 4) = false) (And (Imp ((a2 == 5) = true) (X (.v (.agg [.int 4, .int a0.ver, .int (wrap (a0.ver + 1)), .own 0 7 44, .own 1 1 4, .own 2 1 4, .own 3 1 3]), [.arr (.pkts a0.sent), .arr (.bools a0.live), .arr (.bools a0.back), .arr (.ints a0.got)]))) (Imp ((a2 == 5) = false) (And (Imp ((a2 == 6) = true) (X (.v (.agg [.int 4, .int a0.ver, .int a1.want, .own 0 7 44, .own 1 1 4, .own 2 1 4, .own 3 1 3]), [.arr (.pkts a0.sent), .arr (.bools a0.live), .arr (.bools a0.back), .arr (.ints a0.got)]))) (Imp ((a2 == 6) = false) (And (Imp ((a2 == 7) = true) (X (.v (.agg [.int 3, .int a0.want, .int 0, .own 0 7 44, .own 1 1 4, .own 2 1 4, .own 3 1 3]), [.arr (.pkts a0.sent), .arr (.bools a0.live), .arr (.bools a0.back), .arr (.ints a0.got)]))) (Imp ((a2 == 7) = false) (X (.v (.agg [.int a0.way, .int a0.ver, .int a0.want, .own 0 7 44, .own 1 1 4, .own 2 1 4, .own 3 1 3]), [.arr (.pkts a0.sent), .arr (.bools a0.live), .arr (.bools a0.back), .arr (.ints a0.got)])))))))))))))))
theorem spec_l11Do.w (a0 : St) (a1 : St) (a2 : Int) (K : AV → List Blk → Prop) : evFn (envC [] [] []) [] [[none, none, none, some (.pkt, 44), some (.bool, 4), some (.bool, 4), some (.int, 3)]] [] Try.f131 (spec_l11Do.L.inp (a0, (a1, (a2, ())))).1 (spec_l11Do.L.inp (a0, (a1, (a2, ())))).2 K = spec_l11Do.f a0 a1 a2 (fun v => K v.1 v.2) := by kernel_rfl
theorem spec_l11Do.x (a0 : St) (a1 : St) (a2 : Int) (hp : spec_l11Do.P a0 a1 a2) : May (spec_l11Do.Q a0 a1 a2) (spec_l11Do.enc a0 a1 a2) (spec_l11Do.f a0 a1 a2) := by
  have p0 := hp
  delta spec_l11Do.f
  refine May.iff (B.eq) (fun h1 => ?_) (fun h1 => ?_)
  refine ⟨((⟨1, a0.ver, a0.want, a0.sent, a0.live, a0.back, a0.got⟩ : St)), ?_, fun X h => h⟩; rotate_left 1
  refine May.iff (B.eq) (fun h2 => ?_) (fun h2 => ?_)
  refine ⟨((⟨2, a0.ver, a0.want, a0.sent, a0.live, a0.back, a0.got⟩ : St)), ?_, fun X h => h⟩; rotate_left 1
  refine May.iff (B.eq) (fun h3 => ?_) (fun h3 => ?_)
  refine May.iff (B.eq) (fun h4 => ?_) (fun h4 => ?_)
  refine ⟨((⟨3, a0.ver, a0.want, a0.sent, a0.live, a0.back, a0.got⟩ : St)), ?_, fun X h => h⟩; rotate_left 1
  refine May.no ?_; rotate_left 1
  refine May.iff (B.eq) (fun h4 => ?_) (fun h4 => ?_)
  refine ⟨((⟨3, a0.ver, a0.want, a0.sent, a0.live, a0.back, a0.got⟩ : St)), ?_, fun X h => h⟩; rotate_left 1
  refine May.iff (B.eq) (fun h5 => ?_) (fun h5 => ?_)
  refine ⟨((⟨4, a0.ver, wrap (a0.ver + 1), a0.sent, a0.live, a0.back, a0.got⟩ : St)), ?_, fun X h => h⟩; rotate_left 1
  refine May.iff (B.eq) (fun h6 => ?_) (fun h6 => ?_)
  refine ⟨((⟨4, a0.ver, a1.want, a0.sent, a0.live, a0.back, a0.got⟩ : St)), ?_, fun X h => h⟩; rotate_left 1
  refine May.iff (B.eq) (fun h7 => ?_) (fun h7 => ?_)
  refine ⟨((⟨3, a0.want, 0, a0.sent, a0.live, a0.back, a0.got⟩ : St)), ?_, fun X h => h⟩; rotate_left 1
  refine ⟨(a0), ?_, fun X h => h⟩
  all_goals try dsimp only
  all_goals first | with_reducible assumption | omega | (exact sin_set p0 rfl rfl rfl; done) | rfl | assumption | (simp only [List.length_append, List.length_cons, List.length_nil, List.length_set, List.length_replicate, Int.natCast_add, Int.natCast_one] at *; omega) | grind
theorem spec_l11Do.X : ∃ S : spec_l11Do.L.α → St, ∀ s, spec_l11Do.P s.1 s.2.1 s.2.2.1 → spec_l11Do.Q s.1 s.2.1 s.2.2.1 (S s) ∧ ∀ X, X (spec_l11Do.enc s.1 s.2.1 s.2.2.1 (S s)) → spec_l11Do.f s.1 s.2.1 s.2.2.1 X := mayS (zSt) fun s => spec_l11Do.x s.1 s.2.1 s.2.2.1
noncomputable def spec_l11Do.S (a0 : St) (a1 : St) (a2 : Int) : St := Classical.choose spec_l11Do.X (a0, (a1, (a2, ())))
theorem spec_l11Do.q (a0 : St) (a1 : St) (a2 : Int) (hp : spec_l11Do.P a0 a1 a2) : spec_l11Do.Q a0 a1 a2 (spec_l11Do.S a0 a1 a2) := (Classical.choose_spec spec_l11Do.X (a0, (a1, (a2, ()))) hp).1
noncomputable def spec_l11Do.c : Ctr := hctr 131 [false, true, false] spec_l11Do.L (some fun s => spec_l11Do.P s.1 s.2.1 s.2.2.1) (fun s => spec_l11Do.enc s.1 s.2.1 s.2.2.1 (spec_l11Do.S s.1 s.2.1 s.2.2.1))
theorem spec_l11Do.good : Good Try.prog spec_l11Do.c :=
  hgoodC (sh := [[none, none, none, some (.pkt, 44), some (.bool, 4), some (.bool, 4), some (.int, 3)]]) (tk := []) (sp := []) (ct := []) (LL := []) noG (fn := Try.f131) (by kernel_rfl) (by kernel_rfl) (by rw [show loopsOf (bodyOf Try.f131) = [] from by kernel_rfl]; exact noL rfl) (consC' (bs := []) (by kernel_rfl) noC) fun s hp => Eq.mpr (spec_l11Do.w s.1 s.2.1 s.2.2.1 (fun r bs' => And (r = (spec_l11Do.c.out s).1) (bs' = (spec_l11Do.c.out s).2))) ((Classical.choose_spec spec_l11Do.X s (hp _ rfl)).2 _ ⟨rfl, rfl⟩)
/-! ### spec.l13Step -/
def spec_l13Step.enc (a0 : Ch) (a1 : St) (a2 : Int) (r : Ch × Bool) : AV × List Blk := (.tup [.agg [.int r.1.id, .own 0 1 3, .own 1 1 3, .int r.1.bank.locked, .int r.1.st.way, .int r.1.st.ver, .int r.1.st.want, .own 2 7 44, .own 3 1 4, .own 4 1 4, .own 5 1 3, .own 6 7 29, .own 7 1 3], .c (.bool r.2)], [.arr (.ints r.1.bank.own), .arr (.ints r.1.bank.notes), .arr (.pkts r.1.st.sent), .arr (.bools r.1.st.live), .arr (.bools r.1.st.back), .arr (.ints r.1.st.got), .arr (.sts r.1.past), .arr (.ints r.1.knows)])
abbrev spec_l13Step.P (a0 : Ch) (a1 : St) (a2 : Int) : Prop := (CIn a0) ∧ (SIn a1)
abbrev spec_l13Step.Q (a0 : Ch) (a1 : St) (a2 : Int) (r : Ch × Bool) : Prop := (CIn r.1) ∧ (r.1.knows = a0.knows)
def spec_l13Step.L : FL := fCons (fAgg cChO) (fCons (fSh sSt) (fCons (fSh sInt) (fNil)))
def spec_l13Step.f (a0 : Ch) (a1 : St) (a2 : Int) (X : AV × List Blk → Prop) : Prop := And (spec_l11May.P a0.st a1 a2) (Lt ((spec_l11May.S a0.st a1 a2)) fun x1 => And (Imp ((!x1) = true) (X (.tup [.agg [.int a0.id, .own 0 1 3, .own 1 1 3, .int a0.bank.locked, .int a0.st.way, .int a0.st.ver, .int a0.st.want, .own 2 7 44, .own 3 1 4, .own 4 1 4, .own 5 1 3, .own 6 7 29, .own 7 1 3], .c (.bool false)], [.arr (.ints a0.bank.own), .arr (.ints a0.bank.notes), .arr (.pkts a0.st.sent), .arr (.bools a0.st.live), .arr (.bools a0.st.back), .arr (.ints a0.st.got), .arr (.sts a0.past), .arr (.ints a0.knows)]))) (Imp ((!x1) = false) (And (spec_l11Do.P a0.st a1 a2) (Lt ((spec_l11Do.S a0.st a1 a2)) fun x2 => X (.tup [.agg [.int a0.id, .own 0 1 3, .own 1 1 3, .int a0.bank.locked, .int x2.way, .int x2.ver, .int x2.want, .own 2 7 44, .own 3 1 4, .own 4 1 4, .own 5 1 3, .own 6 7 29, .own 7 1 3], .c (.bool true)], [.arr (.ints a0.bank.own), .arr (.ints a0.bank.notes), .arr (.pkts x2.sent), .arr (.bools x2.live), .arr (.bools x2.back), .arr (.ints x2.got), .arr (.sts a0.past), .arr (.ints a0.knows)])))))
theorem spec_l13Step.w (a0 : Ch) (a1 : St) (a2 : Int) (K : AV → List Blk → Prop) : evFn (envC [spec_l11May.c, spec_l11Do.c] [] []) [] [[none, some (.int, 3), some (.int, 3), none, none, none, none, some (.pkt, 44), some (.bool, 4), some (.bool, 4), some (.int, 3), some (.st, 29), some (.int, 3)], []] [] Try.f120 (spec_l13Step.L.inp (a0, (a1, (a2, ())))).1 (spec_l13Step.L.inp (a0, (a1, (a2, ())))).2 K = spec_l13Step.f a0 a1 a2 (fun v => K v.1 v.2) := by kernel_rfl
theorem spec_l13Step.x (a0 : Ch) (a1 : St) (a2 : Int) (hp : spec_l13Step.P a0 a1 a2) : May (spec_l13Step.Q a0 a1 a2) (spec_l13Step.enc a0 a1 a2) (spec_l13Step.f a0 a1 a2) := by
  obtain ⟨p0, p1⟩ := hp
  obtain ⟨p0b, p0s, p0l, p0p, p0k, p0q⟩ := id p0
  obtain ⟨p0s1, p0s2, p0s3, p0s4, p0s5⟩ := id p0s
  delta spec_l13Step.f
  refine May.chk ⟨?_, ?_⟩ fun c1 => May.lq (spec_l11May.Q a0.st a1 a2) (spec_l11May.q a0.st a1 a2 ⟨?_, ?_⟩) fun x1 q1 => May.iff (B.not (Iff.rfl)) (fun h1 => ?_) (fun h1 => ?_); rotate_left 4
  refine ⟨(a0, false), ⟨?_, ?_⟩, fun X h => h⟩; rotate_left 2
  refine May.chk ?_ fun c2 => May.lq (spec_l11Do.Q a0.st a1 a2) (spec_l11Do.q a0.st a1 a2 ?_) fun x2 q2 => ⟨((⟨a0.id, a0.bank, x2, a0.past, a0.knows⟩ : Ch), true), ⟨?_, ?_⟩, fun X h => h⟩
  all_goals try dsimp only
  all_goals first | with_reducible assumption | omega | (exact sin_sm (by assumption); done) | (exact cin_mk p0 (by assumption) (by assumption); done) | (exact cin_mk p0 (by assumption) (sin_set p0s (by simp only [List.length_set]) (by simp only [List.length_set]) (by simp only [List.length_set])); done) | rfl | assumption | (simp only [List.length_append, List.length_cons, List.length_nil, List.length_set, List.length_replicate, Int.natCast_add, Int.natCast_one] at *; omega) | grind
theorem spec_l13Step.X : ∃ S : spec_l13Step.L.α → Ch × Bool, ∀ s, spec_l13Step.P s.1 s.2.1 s.2.2.1 → spec_l13Step.Q s.1 s.2.1 s.2.2.1 (S s) ∧ ∀ X, X (spec_l13Step.enc s.1 s.2.1 s.2.2.1 (S s)) → spec_l13Step.f s.1 s.2.1 s.2.2.1 X := mayS (zCh, false) fun s => spec_l13Step.x s.1 s.2.1 s.2.2.1
noncomputable def spec_l13Step.S (a0 : Ch) (a1 : St) (a2 : Int) : Ch × Bool := Classical.choose spec_l13Step.X (a0, (a1, (a2, ())))
theorem spec_l13Step.q (a0 : Ch) (a1 : St) (a2 : Int) (hp : spec_l13Step.P a0 a1 a2) : spec_l13Step.Q a0 a1 a2 (spec_l13Step.S a0 a1 a2) := (Classical.choose_spec spec_l13Step.X (a0, (a1, (a2, ()))) hp).1
noncomputable def spec_l13Step.c : Ctr := hctr 120 [false, true, false] spec_l13Step.L (some fun s => spec_l13Step.P s.1 s.2.1 s.2.2.1) (fun s => spec_l13Step.enc s.1 s.2.1 s.2.2.1 (spec_l13Step.S s.1 s.2.1 s.2.2.1))
theorem spec_l13Step.good : Good Try.prog spec_l13Step.c :=
  hgoodC (sh := [[none, some (.int, 3), some (.int, 3), none, none, none, none, some (.pkt, 44), some (.bool, 4), some (.bool, 4), some (.int, 3), some (.st, 29), some (.int, 3)], []]) (tk := []) (sp := []) (ct := []) (LL := []) (consG spec_l11May.good (consG spec_l11Do.good noG)) (fn := Try.f120) (by kernel_rfl) (by kernel_rfl) (by rw [show loopsOf (bodyOf Try.f120) = [] from by kernel_rfl]; exact noL rfl) (consC' (bs := []) (by kernel_rfl) noC) fun s hp => Eq.mpr (spec_l13Step.w s.1 s.2.1 s.2.2.1 (fun r bs' => And (r = (spec_l13Step.c.out s).1) (bs' = (spec_l13Step.c.out s).2))) ((Classical.choose_spec spec_l13Step.X s (hp _ rfl)).2 _ ⟨rfl, rfl⟩)
/-! ### spec.l13Pay -/
def spec_l13Pay.enc (a0 : Bk) (a1 : Pkt) (r : Bk × Int) : AV × List Blk := (.tup [.agg [.own 0 1 3, .own 1 1 3, .int r.1.locked], .c (.int r.2)], [.arr (.ints r.1.own), .arr (.ints r.1.notes)])
abbrev spec_l13Pay.P (a0 : Bk) (a1 : Pkt) : Prop := (BIn a0) ∧ (PIn a1)
abbrev spec_l13Pay.Q (a0 : Bk) (a1 : Pkt) (r : Bk × Int) : Prop := (BIn r.1)
def spec_l13Pay.L : FL := fCons (fAgg cBkO) (fCons (fSh sPkt) (fNil))
def spec_l13Pay.f (a0 : Bk) (a1 : Pkt) (X : AV × List Blk → Prop) : Prop := And (Imp ((a1.kind == 2) = true) (And (Imp ((a1.to == 0) = true) (X (.tup [.agg [.own 0 1 3, .own 1 1 3, .int a0.locked], .c (.int 2)], [.arr (.ints a0.own), .arr (.ints a0.notes)]))) (Imp ((a1.to == 0) = false) (And (spec_l1Back.P a0 1 a1.to a1.sum) (Lt ((spec_l1Back.S a0 1 a1.to a1.sum)) fun x1 => And (Imp ((!x1.2) = true) (X (.tup [.agg [.own 0 1 3, .own 1 1 3, .int a0.locked], .c (.int 2)], [.arr (.ints x1.1.own), .arr (.ints x1.1.notes)]))) (Imp ((!x1.2) = false) (X (.tup [.agg [.own 0 1 3, .own 1 1 3, .int x1.1.locked], .c (.int 1)], [.arr (.ints x1.1.own), .arr (.ints x1.1.notes)])))))))) (Imp ((a1.kind == 2) = false) (And (Imp ((a1.to == 0) = true) (X (.tup [.agg [.own 0 1 3, .own 1 1 3, .int a0.locked], .c (.int 2)], [.arr (.ints a0.own), .arr (.ints a0.notes)]))) (Imp ((a1.to == 0) = false) (And (spec_l1Back.P a0 2 a1.to a1.sum) (Lt ((spec_l1Back.S a0 2 a1.to a1.sum)) fun x2 => And (Imp ((!x2.2) = true) (X (.tup [.agg [.own 0 1 3, .own 1 1 3, .int a0.locked], .c (.int 2)], [.arr (.ints x2.1.own), .arr (.ints x2.1.notes)]))) (Imp ((!x2.2) = false) (X (.tup [.agg [.own 0 1 3, .own 1 1 3, .int x2.1.locked], .c (.int 1)], [.arr (.ints x2.1.own), .arr (.ints x2.1.notes)]))))))))
theorem spec_l13Pay.w (a0 : Bk) (a1 : Pkt) (K : AV → List Blk → Prop) : evFn (envC [spec_l1Back.c] [] []) [] [[some (.int, 3), some (.int, 3), none], []] [] Try.f132 (spec_l13Pay.L.inp (a0, (a1, ()))).1 (spec_l13Pay.L.inp (a0, (a1, ()))).2 K = spec_l13Pay.f a0 a1 (fun v => K v.1 v.2) := by kernel_rfl
theorem spec_l13Pay.x (a0 : Bk) (a1 : Pkt) (hp : spec_l13Pay.P a0 a1) : May (spec_l13Pay.Q a0 a1) (spec_l13Pay.enc a0 a1) (spec_l13Pay.f a0 a1) := by
  obtain ⟨p0, p1⟩ := hp
  delta spec_l13Pay.f
  refine May.iff (B.eq) (fun h1 => ?_) (fun h1 => ?_)
  refine May.iff (B.eq) (fun h2 => ?_) (fun h2 => ?_)
  refine ⟨(a0, 2), ?_, fun X h => h⟩; rotate_left 1
  refine May.chk ⟨?_, ?_⟩ fun c1 => May.lq (spec_l1Back.Q a0 1 a1.to a1.sum) (spec_l1Back.q a0 1 a1.to a1.sum ⟨?_, ?_⟩) fun x1 q1 => May.iff (B.not (Iff.rfl)) (fun h3 => ?_) (fun h3 => ?_); rotate_left 4
  refine ⟨((⟨x1.1.own, x1.1.notes, a0.locked⟩ : Bk), 2), ?_, fun X h => h⟩; rotate_left 1
  refine ⟨(x1.1, 1), ?_, fun X h => h⟩; rotate_left 1
  refine May.iff (B.eq) (fun h2 => ?_) (fun h2 => ?_)
  refine ⟨(a0, 2), ?_, fun X h => h⟩; rotate_left 1
  refine May.chk ⟨?_, ?_⟩ fun c2 => May.lq (spec_l1Back.Q a0 2 a1.to a1.sum) (spec_l1Back.q a0 2 a1.to a1.sum ⟨?_, ?_⟩) fun x2 q2 => May.iff (B.not (Iff.rfl)) (fun h3 => ?_) (fun h3 => ?_); rotate_left 4
  refine ⟨((⟨x2.1.own, x2.1.notes, a0.locked⟩ : Bk), 2), ?_, fun X h => h⟩; rotate_left 1
  refine ⟨(x2.1, 1), ?_, fun X h => h⟩
  all_goals try dsimp only
  all_goals first | with_reducible assumption | omega | (exact sin_sm (by assumption); done) | (exact cin_mk p0 (by assumption) (by assumption); done) | (exact cin_mk p0 (by assumption) (sin_set p0s (by simp only [List.length_set]) (by simp only [List.length_set]) (by simp only [List.length_set])); done) | rfl | assumption | (simp only [List.length_append, List.length_cons, List.length_nil, List.length_set, List.length_replicate, Int.natCast_add, Int.natCast_one] at *; omega) | grind [PIn]
theorem spec_l13Pay.X : ∃ S : spec_l13Pay.L.α → Bk × Int, ∀ s, spec_l13Pay.P s.1 s.2.1 → spec_l13Pay.Q s.1 s.2.1 (S s) ∧ ∀ X, X (spec_l13Pay.enc s.1 s.2.1 (S s)) → spec_l13Pay.f s.1 s.2.1 X := mayS (zBk, 0) fun s => spec_l13Pay.x s.1 s.2.1
noncomputable def spec_l13Pay.S (a0 : Bk) (a1 : Pkt) : Bk × Int := Classical.choose spec_l13Pay.X (a0, (a1, ()))
theorem spec_l13Pay.q (a0 : Bk) (a1 : Pkt) (hp : spec_l13Pay.P a0 a1) : spec_l13Pay.Q a0 a1 (spec_l13Pay.S a0 a1) := (Classical.choose_spec spec_l13Pay.X (a0, (a1, ())) hp).1
noncomputable def spec_l13Pay.c : Ctr := hctr 132 [false, false] spec_l13Pay.L (some fun s => spec_l13Pay.P s.1 s.2.1) (fun s => spec_l13Pay.enc s.1 s.2.1 (spec_l13Pay.S s.1 s.2.1))
theorem spec_l13Pay.good : Good Try.prog spec_l13Pay.c :=
  hgoodC (sh := [[some (.int, 3), some (.int, 3), none], []]) (tk := []) (sp := []) (ct := []) (LL := []) (consG spec_l1Back.good noG) (fn := Try.f132) (by kernel_rfl) (by kernel_rfl) (by rw [show loopsOf (bodyOf Try.f132) = [] from by kernel_rfl]; exact noL rfl) (consC' (bs := []) (by kernel_rfl) noC) fun s hp => Eq.mpr (spec_l13Pay.w s.1 s.2.1 (fun r bs' => And (r = (spec_l13Pay.c.out s).1) (bs' = (spec_l13Pay.c.out s).2))) ((Classical.choose_spec spec_l13Pay.X s (hp _ rfl)).2 _ ⟨rfl, rfl⟩)
/-! ### spec.l13Get -/
def spec_l13Get.enc (a0 : Ch) (a1 : St) (a2 : Pkt) (r : Ch × Bool) : AV × List Blk := (.tup [.agg [.int r.1.id, .own 0 1 3, .own 1 1 3, .int r.1.bank.locked, .int r.1.st.way, .int r.1.st.ver, .int r.1.st.want, .own 2 7 44, .own 3 1 4, .own 4 1 4, .own 5 1 3, .own 6 7 29, .own 7 1 3], .c (.bool r.2)], [.arr (.ints r.1.bank.own), .arr (.ints r.1.bank.notes), .arr (.pkts r.1.st.sent), .arr (.bools r.1.st.live), .arr (.bools r.1.st.back), .arr (.ints r.1.st.got), .arr (.sts r.1.past), .arr (.ints r.1.knows)])
abbrev spec_l13Get.P (a0 : Ch) (a1 : St) (a2 : Pkt) : Prop := (CIn a0) ∧ (SIn a1) ∧ (PIn a2)
abbrev spec_l13Get.Q (a0 : Ch) (a1 : St) (a2 : Pkt) (r : Ch × Bool) : Prop := (CIn r.1) ∧ (r.1.knows = a0.knows)
def spec_l13Get.L : FL := fCons (fAgg cChO) (fCons (fSh sSt) (fCons (fSh sPkt) (fNil)))
def spec_l13Get.f (a0 : Ch) (a1 : St) (a2 : Pkt) (X : AV × List Blk → Prop) : Prop := And (Imp (And ((decide (a0.st.way < 3)) = false) (True)) (spec_l3Has.P a1 a2)) (Lt ((spec_l3Has.S a1 a2)) fun x1 => Lt (wrap (a2.seq - 1)) fun x2 => And (Imp (And ((bif decide (a0.st.way < 3) then true else !x1) = false) (True)) ((0 : Int) ≤ x2 ∧ x2 < (a0.st.got.length : Int))) (And (Imp (And ((bif decide (a0.st.way < 3) then true else !x1) = false) (True)) ((x2).toNat < a0.st.got.length)) (Lt (bif bif decide (a0.st.way < 3) then true else !x1 then true else (a0.st.got.getD (x2).toNat 0) != 0) fun x3 => Lt (wrap ((a0.past.length : Int) + 1)) fun x4 => Lt (bif bif x3 then true else a2.ver != a0.st.ver then true else decide (x4 ≥ a2.til)) fun x5 => And (Imp (x5 = true) (X (.tup [.agg [.int a0.id, .own 0 1 3, .own 1 1 3, .int a0.bank.locked, .int a0.st.way, .int a0.st.ver, .int a0.st.want, .own 2 7 44, .own 3 1 4, .own 4 1 4, .own 5 1 3, .own 6 7 29, .own 7 1 3], .c (.bool false)], [.arr (.ints a0.bank.own), .arr (.ints a0.bank.notes), .arr (.pkts a0.st.sent), .arr (.bools a0.st.live), .arr (.bools a0.st.back), .arr (.ints a0.st.got), .arr (.sts a0.past), .arr (.ints a0.knows)]))) (Imp (x5 = false) (And (spec_l13Pay.P a0.bank a2) (Lt ((spec_l13Pay.S a0.bank a2)) fun x6 => And ((0 : Int) ≤ x2 ∧ x2 < (a0.st.got.length : Int)) (And ((x2).toNat < a0.st.got.length) (X (.tup [.agg [.int a0.id, .own 0 1 3, .own 1 1 3, .int x6.1.locked, .int a0.st.way, .int a0.st.ver, .int a0.st.want, .own 2 7 44, .own 3 1 4, .own 4 1 4, .own 5 1 3, .own 6 7 29, .own 7 1 3], .c (.bool true)], [.arr (.ints x6.1.own), .arr (.ints x6.1.notes), .arr (.pkts a0.st.sent), .arr (.bools a0.st.live), .arr (.bools a0.st.back), .arr (.ints (a0.st.got.set (x2).toNat x6.2)), .arr (.sts a0.past), .arr (.ints a0.knows)])))))))))
theorem spec_l13Get.w (a0 : Ch) (a1 : St) (a2 : Pkt) (K : AV → List Blk → Prop) : evFn (envC [spec_l3Has.c, spec_l13Pay.c] [] []) [] [[none, some (.int, 3), some (.int, 3), none, none, none, none, some (.pkt, 44), some (.bool, 4), some (.bool, 4), some (.int, 3), some (.st, 29), some (.int, 3)], []] [] Try.f122 (spec_l13Get.L.inp (a0, (a1, (a2, ())))).1 (spec_l13Get.L.inp (a0, (a1, (a2, ())))).2 K = spec_l13Get.f a0 a1 a2 (fun v => K v.1 v.2) := by kernel_rfl
theorem spec_l13Get.x (a0 : Ch) (a1 : St) (a2 : Pkt) (hp : spec_l13Get.P a0 a1 a2) : May (spec_l13Get.Q a0 a1 a2) (spec_l13Get.enc a0 a1 a2) (spec_l13Get.f a0 a1 a2) := by
  obtain ⟨p0, p1, p2⟩ := hp
  obtain ⟨p0b, p0s, p0l, p0p, p0k, p0q⟩ := id p0
  obtain ⟨p0s1, p0s2, p0s3, p0s4, p0s5⟩ := id p0s
  obtain ⟨p11, p12, p13, p14, p15⟩ := id p1
  delta spec_l13Get.f
  refine May.chk (fun hπ => have g1 := B.neg (B.dec) hπ.1; ?_) fun c1 => May.lq (spec_l3Has.Q a1 a2) (spec_l3Has.q a1 a2 ?_) fun x1 q1 => have q1_0 := q1.1; have q1_1 := q1.2; May.lwi fun x2 e2 => May.chk (fun hπ => have g1 := B.neg (B.or (B.dec) (B.not (Iff.rfl))) hπ.1; ?_) fun c2 => May.chk (fun hπ => have g1 := B.neg (B.or (B.dec) (B.not (Iff.rfl))) hπ.1; ?_) fun c3 => May.lp (B.or (B.or (B.dec) (B.not (Iff.rfl))) (B.ne)) fun x3 e3 => May.lwi fun x4 e4 => May.lp (B.or (B.or (e3) (B.ne)) (B.dec)) fun x5 e5 => ?_; rotate_left 4
  refine May.iff (e5) (fun h1 => ?_) (fun h1 => ?_)
  refine ⟨(a0, false), ⟨?_, ?_⟩, fun X h => h⟩; rotate_left 2
  refine May.chk ⟨?_, ?_⟩ fun c4 => May.lq (spec_l13Pay.Q a0.bank a2) (spec_l13Pay.q a0.bank a2 ⟨?_, ?_⟩) fun x6 q6 => May.chk ?_ fun c5 => May.chk ?_ fun c6 => ⟨((⟨a0.id, x6.1, (⟨a0.st.way, a0.st.ver, a0.st.want, a0.st.sent, a0.st.live, a0.st.back, a0.st.got.set (x2).toNat x6.2⟩ : St), a0.past, a0.knows⟩ : Ch), true), ⟨?_, ?_⟩, fun X h => h⟩
  all_goals try dsimp only
  all_goals first | with_reducible assumption | omega | (exact sin_sm (by assumption); done) | (exact cin_mk p0 (by assumption) (by assumption); done) | (exact cin_mk p0 (by assumption) (sin_set p0s (by simp only [List.length_set]) (by simp only [List.length_set]) (by simp only [List.length_set])); done) | rfl | assumption | (simp only [List.length_append, List.length_cons, List.length_nil, List.length_set, List.length_replicate, Int.natCast_add, Int.natCast_one] at *; omega) | grind
theorem spec_l13Get.X : ∃ S : spec_l13Get.L.α → Ch × Bool, ∀ s, spec_l13Get.P s.1 s.2.1 s.2.2.1 → spec_l13Get.Q s.1 s.2.1 s.2.2.1 (S s) ∧ ∀ X, X (spec_l13Get.enc s.1 s.2.1 s.2.2.1 (S s)) → spec_l13Get.f s.1 s.2.1 s.2.2.1 X := mayS (zCh, false) fun s => spec_l13Get.x s.1 s.2.1 s.2.2.1
noncomputable def spec_l13Get.S (a0 : Ch) (a1 : St) (a2 : Pkt) : Ch × Bool := Classical.choose spec_l13Get.X (a0, (a1, (a2, ())))
theorem spec_l13Get.q (a0 : Ch) (a1 : St) (a2 : Pkt) (hp : spec_l13Get.P a0 a1 a2) : spec_l13Get.Q a0 a1 a2 (spec_l13Get.S a0 a1 a2) := (Classical.choose_spec spec_l13Get.X (a0, (a1, (a2, ()))) hp).1
noncomputable def spec_l13Get.c : Ctr := hctr 122 [false, true, false] spec_l13Get.L (some fun s => spec_l13Get.P s.1 s.2.1 s.2.2.1) (fun s => spec_l13Get.enc s.1 s.2.1 s.2.2.1 (spec_l13Get.S s.1 s.2.1 s.2.2.1))
theorem spec_l13Get.good : Good Try.prog spec_l13Get.c :=
  hgoodC (sh := [[none, some (.int, 3), some (.int, 3), none, none, none, none, some (.pkt, 44), some (.bool, 4), some (.bool, 4), some (.int, 3), some (.st, 29), some (.int, 3)], []]) (tk := []) (sp := []) (ct := []) (LL := []) (consG spec_l3Has.good (consG spec_l13Pay.good noG)) (fn := Try.f122) (by kernel_rfl) (by kernel_rfl) (by rw [show loopsOf (bodyOf Try.f122) = [] from by kernel_rfl]; exact noL rfl) (consC' (bs := []) (by kernel_rfl) noC) fun s hp => Eq.mpr (spec_l13Get.w s.1 s.2.1 s.2.2.1 (fun r bs' => And (r = (spec_l13Get.c.out s).1) (bs' = (spec_l13Get.c.out s).2))) ((Classical.choose_spec spec_l13Get.X s (hp _ rfl)).2 _ ⟨rfl, rfl⟩)
/-! ### spec.l13Settle -/
def spec_l13Settle.enc (a0 : Ch) (a1 : Int) (a2 : Bool) (r : Ch) : AV × List Blk := (.v (.agg [.int r.id, .own 0 1 3, .own 1 1 3, .int r.bank.locked, .int r.st.way, .int r.st.ver, .int r.st.want, .own 2 7 44, .own 3 1 4, .own 4 1 4, .own 5 1 3, .own 6 7 29, .own 7 1 3]), [.arr (.ints r.bank.own), .arr (.ints r.bank.notes), .arr (.pkts r.st.sent), .arr (.bools r.st.live), .arr (.bools r.st.back), .arr (.ints r.st.got), .arr (.sts r.past), .arr (.ints r.knows)])
abbrev spec_l13Settle.P (a0 : Ch) (a1 : Int) (a2 : Bool) : Prop := (CIn a0) ∧ (1 ≤ a1) ∧ (a1 ≤ (a0.st.sent.length : Int))
abbrev spec_l13Settle.Q (a0 : Ch) (a1 : Int) (a2 : Bool) (r : Ch) : Prop := (CIn r) ∧ (r.knows = a0.knows)
def spec_l13Settle.L : FL := fCons (fAgg cChO) (fCons (fSh sInt) (fCons (fSh sBool) (fNil)))
def spec_l13Settle.f (a0 : Ch) (a1 : Int) (a2 : Bool) (X : AV × List Blk → Prop) : Prop := Lt (wrap (a1 - 1)) fun x1 => And ((0 : Int) ≤ x1 ∧ x1 < (a0.st.sent.length : Int)) (And ((x1).toNat < a0.st.sent.length) (And ((0 : Int) ≤ x1 ∧ x1 < (a0.st.live.length : Int)) (And ((x1).toNat < a0.st.live.length) (And (Imp (a2 = true) (And (spec_l1Back.P a0.bank (a0.st.sent.getD (x1).toNat zPkt).kind (a0.st.sent.getD (x1).toNat zPkt).frm (a0.st.sent.getD (x1).toNat zPkt).sum) (Lt ((spec_l1Back.S a0.bank (a0.st.sent.getD (x1).toNat zPkt).kind (a0.st.sent.getD (x1).toNat zPkt).frm (a0.st.sent.getD (x1).toNat zPkt).sum)) fun x2 => And ((0 : Int) ≤ x1 ∧ x1 < (a0.st.back.length : Int)) (And ((x1).toNat < a0.st.back.length) (X (.v (.agg [.int a0.id, .own 0 1 3, .own 1 1 3, .int x2.1.locked, .int a0.st.way, .int a0.st.ver, .int a0.st.want, .own 2 7 44, .own 3 1 4, .own 4 1 4, .own 5 1 3, .own 6 7 29, .own 7 1 3]), [.arr (.ints x2.1.own), .arr (.ints x2.1.notes), .arr (.pkts a0.st.sent), .arr (.bools (a0.st.live.set (x1).toNat false)), .arr (.bools (a0.st.back.set (x1).toNat true)), .arr (.ints a0.st.got), .arr (.sts a0.past), .arr (.ints a0.knows)])))))) (Imp (a2 = false) (X (.v (.agg [.int a0.id, .own 0 1 3, .own 1 1 3, .int a0.bank.locked, .int a0.st.way, .int a0.st.ver, .int a0.st.want, .own 2 7 44, .own 3 1 4, .own 4 1 4, .own 5 1 3, .own 6 7 29, .own 7 1 3]), [.arr (.ints a0.bank.own), .arr (.ints a0.bank.notes), .arr (.pkts a0.st.sent), .arr (.bools (a0.st.live.set (x1).toNat false)), .arr (.bools a0.st.back), .arr (.ints a0.st.got), .arr (.sts a0.past), .arr (.ints a0.knows)])))))))
theorem spec_l13Settle.w (a0 : Ch) (a1 : Int) (a2 : Bool) (K : AV → List Blk → Prop) : evFn (envC [spec_l1Back.c] [] []) [] [[none, some (.int, 3), some (.int, 3), none, none, none, none, some (.pkt, 44), some (.bool, 4), some (.bool, 4), some (.int, 3), some (.st, 29), some (.int, 3)]] [] Try.f134 (spec_l13Settle.L.inp (a0, (a1, (a2, ())))).1 (spec_l13Settle.L.inp (a0, (a1, (a2, ())))).2 K = spec_l13Settle.f a0 a1 a2 (fun v => K v.1 v.2) := by kernel_rfl
theorem spec_l13Settle.x (a0 : Ch) (a1 : Int) (a2 : Bool) (hp : spec_l13Settle.P a0 a1 a2) : May (spec_l13Settle.Q a0 a1 a2) (spec_l13Settle.enc a0 a1 a2) (spec_l13Settle.f a0 a1 a2) := by
  obtain ⟨p0, p1, p2⟩ := hp
  obtain ⟨p0b, p0s, p0l, p0p, p0k, p0q⟩ := id p0
  obtain ⟨p0s1, p0s2, p0s3, p0s4, p0s5⟩ := id p0s
  delta spec_l13Settle.f
  refine May.lw ⟨?_, ?_⟩ fun x1 e1 => May.chk ?_ fun c1 => May.chk ?_ fun c2 => May.chk ?_ fun c3 => May.chk ?_ fun c4 => May.iff (Iff.rfl) (fun h1 => ?_) (fun h1 => ?_); rotate_left 6
  refine May.chk ⟨?_, ?_⟩ fun c5 => May.lq (spec_l1Back.Q a0.bank (a0.st.sent.getD (x1).toNat zPkt).kind (a0.st.sent.getD (x1).toNat zPkt).frm (a0.st.sent.getD (x1).toNat zPkt).sum) (spec_l1Back.q a0.bank (a0.st.sent.getD (x1).toNat zPkt).kind (a0.st.sent.getD (x1).toNat zPkt).frm (a0.st.sent.getD (x1).toNat zPkt).sum ⟨?_, ?_⟩) fun x2 q2 => May.chk ?_ fun c6 => May.chk ?_ fun c7 => ⟨((⟨a0.id, x2.1, (⟨a0.st.way, a0.st.ver, a0.st.want, a0.st.sent, a0.st.live.set (x1).toNat false, a0.st.back.set (x1).toNat true, a0.st.got⟩ : St), a0.past, a0.knows⟩ : Ch)), ⟨?_, ?_⟩, fun X h => h⟩; rotate_left 8
  refine ⟨((⟨a0.id, a0.bank, (⟨a0.st.way, a0.st.ver, a0.st.want, a0.st.sent, a0.st.live.set (x1).toNat false, a0.st.back, a0.st.got⟩ : St), a0.past, a0.knows⟩ : Ch)), ⟨?_, ?_⟩, fun X h => h⟩
  all_goals try dsimp only
  all_goals first | with_reducible assumption | omega | (exact sin_sm (by assumption); done) | (exact cin_mk p0 (by assumption) (by assumption); done) | (exact cin_mk p0 (by assumption) (sin_set p0s (by simp only [List.length_set]) (by simp only [List.length_set]) (by simp only [List.length_set])); done) | (exact (pin_get p0s (by omega) (by omega)).1; done) | rfl | assumption | (simp only [List.length_append, List.length_cons, List.length_nil, List.length_set, List.length_replicate, Int.natCast_add, Int.natCast_one] at *; omega) | grind
theorem spec_l13Settle.X : ∃ S : spec_l13Settle.L.α → Ch, ∀ s, spec_l13Settle.P s.1 s.2.1 s.2.2.1 → spec_l13Settle.Q s.1 s.2.1 s.2.2.1 (S s) ∧ ∀ X, X (spec_l13Settle.enc s.1 s.2.1 s.2.2.1 (S s)) → spec_l13Settle.f s.1 s.2.1 s.2.2.1 X := mayS (zCh) fun s => spec_l13Settle.x s.1 s.2.1 s.2.2.1
noncomputable def spec_l13Settle.S (a0 : Ch) (a1 : Int) (a2 : Bool) : Ch := Classical.choose spec_l13Settle.X (a0, (a1, (a2, ())))
theorem spec_l13Settle.q (a0 : Ch) (a1 : Int) (a2 : Bool) (hp : spec_l13Settle.P a0 a1 a2) : spec_l13Settle.Q a0 a1 a2 (spec_l13Settle.S a0 a1 a2) := (Classical.choose_spec spec_l13Settle.X (a0, (a1, (a2, ()))) hp).1
noncomputable def spec_l13Settle.c : Ctr := hctr 134 [false, false, false] spec_l13Settle.L (some fun s => spec_l13Settle.P s.1 s.2.1 s.2.2.1) (fun s => spec_l13Settle.enc s.1 s.2.1 s.2.2.1 (spec_l13Settle.S s.1 s.2.1 s.2.2.1))
theorem spec_l13Settle.good : Good Try.prog spec_l13Settle.c :=
  hgoodC (sh := [[none, some (.int, 3), some (.int, 3), none, none, none, none, some (.pkt, 44), some (.bool, 4), some (.bool, 4), some (.int, 3), some (.st, 29), some (.int, 3)]]) (tk := []) (sp := []) (ct := []) (LL := []) (consG spec_l1Back.good noG) (fn := Try.f134) (by kernel_rfl) (by kernel_rfl) (by rw [show loopsOf (bodyOf Try.f134) = [] from by kernel_rfl]; exact noL rfl) (consC' (bs := []) (by kernel_rfl) noC) fun s hp => Eq.mpr (spec_l13Settle.w s.1 s.2.1 s.2.2.1 (fun r bs' => And (r = (spec_l13Settle.c.out s).1) (bs' = (spec_l13Settle.c.out s).2))) ((Classical.choose_spec spec_l13Settle.X s (hp _ rfl)).2 _ ⟨rfl, rfl⟩)
/-! ### spec.l13Tell -/
def spec_l13Tell.enc (a0 : Ch) (a1 : St) (a2 : Int) (r : Ch × Bool) : AV × List Blk := (.tup [.agg [.int r.1.id, .own 0 1 3, .own 1 1 3, .int r.1.bank.locked, .int r.1.st.way, .int r.1.st.ver, .int r.1.st.want, .own 2 7 44, .own 3 1 4, .own 4 1 4, .own 5 1 3, .own 6 7 29, .own 7 1 3], .c (.bool r.2)], [.arr (.ints r.1.bank.own), .arr (.ints r.1.bank.notes), .arr (.pkts r.1.st.sent), .arr (.bools r.1.st.live), .arr (.bools r.1.st.back), .arr (.ints r.1.st.got), .arr (.sts r.1.past), .arr (.ints r.1.knows)])
abbrev spec_l13Tell.P (a0 : Ch) (a1 : St) (a2 : Int) : Prop := (CIn a0) ∧ (SIn a1)
abbrev spec_l13Tell.Q (a0 : Ch) (a1 : St) (a2 : Int) (r : Ch × Bool) : Prop := (CIn r.1) ∧ (r.1.knows = a0.knows)
def spec_l13Tell.L : FL := fCons (fAgg cChO) (fCons (fSh sSt) (fCons (fSh sInt) (fNil)))
def spec_l13Tell.f (a0 : Ch) (a1 : St) (a2 : Int) (X : AV × List Blk → Prop) : Prop := And (spec_l13Mine.P a0 a2) (Lt ((spec_l13Mine.S a0 a2)) fun x1 => Lt (wrap (a2 - 1)) fun x2 => And (Imp (And ((!x1) = false) (True)) ((0 : Int) ≤ x2 ∧ x2 < (a1.got.length : Int))) (Lt (bif !x1 then true else (a1.got.getD (x2).toNat 0) == 0) fun x3 => And (Imp (x3 = true) (X (.tup [.agg [.int a0.id, .own 0 1 3, .own 1 1 3, .int a0.bank.locked, .int a0.st.way, .int a0.st.ver, .int a0.st.want, .own 2 7 44, .own 3 1 4, .own 4 1 4, .own 5 1 3, .own 6 7 29, .own 7 1 3], .c (.bool false)], [.arr (.ints a0.bank.own), .arr (.ints a0.bank.notes), .arr (.pkts a0.st.sent), .arr (.bools a0.st.live), .arr (.bools a0.st.back), .arr (.ints a0.st.got), .arr (.sts a0.past), .arr (.ints a0.knows)]))) (Imp (x3 = false) (And ((0 : Int) ≤ x2 ∧ x2 < (a1.got.length : Int)) (And (spec_l13Settle.P a0 a2 ((a1.got.getD (x2).toNat 0) == 2)) (Lt ((spec_l13Settle.S a0 a2 ((a1.got.getD (x2).toNat 0) == 2))) fun x4 => X (.tup [.agg [.int x4.id, .own 0 1 3, .own 1 1 3, .int x4.bank.locked, .int x4.st.way, .int x4.st.ver, .int x4.st.want, .own 2 7 44, .own 3 1 4, .own 4 1 4, .own 5 1 3, .own 6 7 29, .own 7 1 3], .c (.bool true)], [.arr (.ints x4.bank.own), .arr (.ints x4.bank.notes), .arr (.pkts x4.st.sent), .arr (.bools x4.st.live), .arr (.bools x4.st.back), .arr (.ints x4.st.got), .arr (.sts x4.past), .arr (.ints x4.knows)])))))))
theorem spec_l13Tell.w (a0 : Ch) (a1 : St) (a2 : Int) (K : AV → List Blk → Prop) : evFn (envC [spec_l13Mine.c, spec_l13Settle.c] [] []) [] [[none, some (.int, 3), some (.int, 3), none, none, none, none, some (.pkt, 44), some (.bool, 4), some (.bool, 4), some (.int, 3), some (.st, 29), some (.int, 3)], []] [] Try.f124 (spec_l13Tell.L.inp (a0, (a1, (a2, ())))).1 (spec_l13Tell.L.inp (a0, (a1, (a2, ())))).2 K = spec_l13Tell.f a0 a1 a2 (fun v => K v.1 v.2) := by kernel_rfl
theorem spec_l13Tell.x (a0 : Ch) (a1 : St) (a2 : Int) (hp : spec_l13Tell.P a0 a1 a2) : May (spec_l13Tell.Q a0 a1 a2) (spec_l13Tell.enc a0 a1 a2) (spec_l13Tell.f a0 a1 a2) := by
  obtain ⟨p0, p1⟩ := hp
  obtain ⟨p0b, p0s, p0l, p0p, p0k, p0q⟩ := id p0
  obtain ⟨p0s1, p0s2, p0s3, p0s4, p0s5⟩ := id p0s
  obtain ⟨p11, p12, p13, p14, p15⟩ := id p1
  delta spec_l13Tell.f
  refine May.chk ?_ fun c1 => May.lq (spec_l13Mine.Q a0 a2) (spec_l13Mine.q a0 a2 ?_) fun x1 q1 => May.lwi fun x2 e2 => May.chk (fun hπ => have g1 := B.neg (B.not (Iff.rfl)) hπ.1; ?_) fun c2 => May.lp (B.or (B.not (Iff.rfl)) (B.eq)) fun x3 e3 => May.iff (e3) (fun h1 => ?_) (fun h1 => ?_); rotate_left 3
  refine ⟨(a0, false), ⟨?_, ?_⟩, fun X h => h⟩; rotate_left 2
  refine May.chk ?_ fun c3 => May.chk ⟨?_, ?_, ?_⟩ fun c4 => May.lq (spec_l13Settle.Q a0 a2 ((a1.got.getD (x2).toNat 0) == 2)) (spec_l13Settle.q a0 a2 ((a1.got.getD (x2).toNat 0) == 2) ⟨?_, ?_, ?_⟩) fun x4 q4 => have q4_0 := q4.1; have q4_1 := q4.2; ⟨(x4, true), ⟨?_, ?_⟩, fun X h => h⟩
  all_goals try dsimp only
  all_goals first | with_reducible assumption | omega | (exact sin_sm (by assumption); done) | (exact cin_mk p0 (by assumption) (by assumption); done) | (exact cin_mk p0 (by assumption) (sin_set p0s (by simp only [List.length_set]) (by simp only [List.length_set]) (by simp only [List.length_set])); done) | rfl | assumption | (simp only [List.length_append, List.length_cons, List.length_nil, List.length_set, List.length_replicate, Int.natCast_add, Int.natCast_one] at *; omega) | grind
theorem spec_l13Tell.X : ∃ S : spec_l13Tell.L.α → Ch × Bool, ∀ s, spec_l13Tell.P s.1 s.2.1 s.2.2.1 → spec_l13Tell.Q s.1 s.2.1 s.2.2.1 (S s) ∧ ∀ X, X (spec_l13Tell.enc s.1 s.2.1 s.2.2.1 (S s)) → spec_l13Tell.f s.1 s.2.1 s.2.2.1 X := mayS (zCh, false) fun s => spec_l13Tell.x s.1 s.2.1 s.2.2.1
noncomputable def spec_l13Tell.S (a0 : Ch) (a1 : St) (a2 : Int) : Ch × Bool := Classical.choose spec_l13Tell.X (a0, (a1, (a2, ())))
theorem spec_l13Tell.q (a0 : Ch) (a1 : St) (a2 : Int) (hp : spec_l13Tell.P a0 a1 a2) : spec_l13Tell.Q a0 a1 a2 (spec_l13Tell.S a0 a1 a2) := (Classical.choose_spec spec_l13Tell.X (a0, (a1, (a2, ()))) hp).1
noncomputable def spec_l13Tell.c : Ctr := hctr 124 [false, true, false] spec_l13Tell.L (some fun s => spec_l13Tell.P s.1 s.2.1 s.2.2.1) (fun s => spec_l13Tell.enc s.1 s.2.1 s.2.2.1 (spec_l13Tell.S s.1 s.2.1 s.2.2.1))
theorem spec_l13Tell.good : Good Try.prog spec_l13Tell.c :=
  hgoodC (sh := [[none, some (.int, 3), some (.int, 3), none, none, none, none, some (.pkt, 44), some (.bool, 4), some (.bool, 4), some (.int, 3), some (.st, 29), some (.int, 3)], []]) (tk := []) (sp := []) (ct := []) (LL := []) (consG spec_l13Mine.good (consG spec_l13Settle.good noG)) (fn := Try.f124) (by kernel_rfl) (by kernel_rfl) (by rw [show loopsOf (bodyOf Try.f124) = [] from by kernel_rfl]; exact noL rfl) (consC' (bs := []) (by kernel_rfl) noC) fun s hp => Eq.mpr (spec_l13Tell.w s.1 s.2.1 s.2.2.1 (fun r bs' => And (r = (spec_l13Tell.c.out s).1) (bs' = (spec_l13Tell.c.out s).2))) ((Classical.choose_spec spec_l13Tell.X s (hp _ rfl)).2 _ ⟨rfl, rfl⟩)
/-! ### spec.l13Late -/
def spec_l13Late.enc (a0 : Ch) (a1 : St) (a2 : Int) (a3 : Int) (r : Ch × Bool) : AV × List Blk := (.tup [.agg [.int r.1.id, .own 0 1 3, .own 1 1 3, .int r.1.bank.locked, .int r.1.st.way, .int r.1.st.ver, .int r.1.st.want, .own 2 7 44, .own 3 1 4, .own 4 1 4, .own 5 1 3, .own 6 7 29, .own 7 1 3], .c (.bool r.2)], [.arr (.ints r.1.bank.own), .arr (.ints r.1.bank.notes), .arr (.pkts r.1.st.sent), .arr (.bools r.1.st.live), .arr (.bools r.1.st.back), .arr (.ints r.1.st.got), .arr (.sts r.1.past), .arr (.ints r.1.knows)])
abbrev spec_l13Late.P (a0 : Ch) (a1 : St) (a2 : Int) (a3 : Int) : Prop := (CIn a0) ∧ (SIn a1)
abbrev spec_l13Late.Q (a0 : Ch) (a1 : St) (a2 : Int) (a3 : Int) (r : Ch × Bool) : Prop := (CIn r.1) ∧ (r.1.knows = a0.knows)
def spec_l13Late.L : FL := fCons (fAgg cChO) (fCons (fSh sSt) (fCons (fSh sInt) (fCons (fSh sInt) (fNil))))
def spec_l13Late.f (a0 : Ch) (a1 : St) (a2 : Int) (a3 : Int) (X : AV × List Blk → Prop) : Prop := And (spec_l13Mine.P a0 a3) (Lt ((spec_l13Mine.S a0 a3)) fun x1 => Lt (wrap (a3 - 1)) fun x2 => And (Imp (And ((!x1) = false) (True)) ((0 : Int) ≤ x2 ∧ x2 < (a0.st.sent.length : Int))) (And (Imp (And ((!x1) = false) (True)) ((x2).toNat < a0.st.sent.length)) (Lt (decide (a2 < (a0.st.sent.getD (x2).toNat zPkt).til)) fun x3 => And (Imp (And ((bif !x1 then true else x3) = false) (True)) ((0 : Int) ≤ x2 ∧ x2 < (a1.got.length : Int))) (Lt (bif bif !x1 then true else x3 then true else (a1.got.getD (x2).toNat 0) != 0) fun x4 => And (Imp (x4 = true) (X (.tup [.agg [.int a0.id, .own 0 1 3, .own 1 1 3, .int a0.bank.locked, .int a0.st.way, .int a0.st.ver, .int a0.st.want, .own 2 7 44, .own 3 1 4, .own 4 1 4, .own 5 1 3, .own 6 7 29, .own 7 1 3], .c (.bool false)], [.arr (.ints a0.bank.own), .arr (.ints a0.bank.notes), .arr (.pkts a0.st.sent), .arr (.bools a0.st.live), .arr (.bools a0.st.back), .arr (.ints a0.st.got), .arr (.sts a0.past), .arr (.ints a0.knows)]))) (Imp (x4 = false) (And (spec_l13Settle.P a0 a3 true) (Lt ((spec_l13Settle.S a0 a3 true)) fun x5 => X (.tup [.agg [.int x5.id, .own 0 1 3, .own 1 1 3, .int x5.bank.locked, .int x5.st.way, .int x5.st.ver, .int x5.st.want, .own 2 7 44, .own 3 1 4, .own 4 1 4, .own 5 1 3, .own 6 7 29, .own 7 1 3], .c (.bool true)], [.arr (.ints x5.bank.own), .arr (.ints x5.bank.notes), .arr (.pkts x5.st.sent), .arr (.bools x5.st.live), .arr (.bools x5.st.back), .arr (.ints x5.st.got), .arr (.sts x5.past), .arr (.ints x5.knows)]))))))))
theorem spec_l13Late.w (a0 : Ch) (a1 : St) (a2 : Int) (a3 : Int) (K : AV → List Blk → Prop) : evFn (envC [spec_l13Mine.c, spec_l13Settle.c] [] []) [] [[none, some (.int, 3), some (.int, 3), none, none, none, none, some (.pkt, 44), some (.bool, 4), some (.bool, 4), some (.int, 3), some (.st, 29), some (.int, 3)], []] [] Try.f125 (spec_l13Late.L.inp (a0, (a1, (a2, (a3, ()))))).1 (spec_l13Late.L.inp (a0, (a1, (a2, (a3, ()))))).2 K = spec_l13Late.f a0 a1 a2 a3 (fun v => K v.1 v.2) := by kernel_rfl
theorem spec_l13Late.x (a0 : Ch) (a1 : St) (a2 : Int) (a3 : Int) (hp : spec_l13Late.P a0 a1 a2 a3) : May (spec_l13Late.Q a0 a1 a2 a3) (spec_l13Late.enc a0 a1 a2 a3) (spec_l13Late.f a0 a1 a2 a3) := by
  obtain ⟨p0, p1⟩ := hp
  obtain ⟨p0b, p0s, p0l, p0p, p0k, p0q⟩ := id p0
  obtain ⟨p0s1, p0s2, p0s3, p0s4, p0s5⟩ := id p0s
  obtain ⟨p11, p12, p13, p14, p15⟩ := id p1
  delta spec_l13Late.f
  refine May.chk ?_ fun c1 => May.lq (spec_l13Mine.Q a0 a3) (spec_l13Mine.q a0 a3 ?_) fun x1 q1 => May.lwi fun x2 e2 => May.chk (fun hπ => have g1 := B.neg (B.not (Iff.rfl)) hπ.1; ?_) fun c2 => May.chk (fun hπ => have g1 := B.neg (B.not (Iff.rfl)) hπ.1; ?_) fun c3 => May.lp (B.dec) fun x3 e3 => May.chk (fun hπ => have g1 := B.neg (B.or (B.not (Iff.rfl)) (e3)) hπ.1; ?_) fun c4 => May.lp (B.or (B.or (B.not (Iff.rfl)) (e3)) (B.ne)) fun x4 e4 => ?_; rotate_left 5
  refine May.iff (e4) (fun h1 => ?_) (fun h1 => ?_)
  refine ⟨(a0, false), ⟨?_, ?_⟩, fun X h => h⟩; rotate_left 2
  refine May.chk ⟨?_, ?_, ?_⟩ fun c5 => May.lq (spec_l13Settle.Q a0 a3 true) (spec_l13Settle.q a0 a3 true ⟨?_, ?_, ?_⟩) fun x5 q5 => have q5_0 := q5.1; have q5_1 := q5.2; ⟨(x5, true), ⟨?_, ?_⟩, fun X h => h⟩
  all_goals try dsimp only
  all_goals first | with_reducible assumption | omega | (exact sin_sm (by assumption); done) | (exact cin_mk p0 (by assumption) (by assumption); done) | (exact cin_mk p0 (by assumption) (sin_set p0s (by simp only [List.length_set]) (by simp only [List.length_set]) (by simp only [List.length_set])); done) | rfl | assumption | (simp only [List.length_append, List.length_cons, List.length_nil, List.length_set, List.length_replicate, Int.natCast_add, Int.natCast_one] at *; omega) | grind
theorem spec_l13Late.X : ∃ S : spec_l13Late.L.α → Ch × Bool, ∀ s, spec_l13Late.P s.1 s.2.1 s.2.2.1 s.2.2.2.1 → spec_l13Late.Q s.1 s.2.1 s.2.2.1 s.2.2.2.1 (S s) ∧ ∀ X, X (spec_l13Late.enc s.1 s.2.1 s.2.2.1 s.2.2.2.1 (S s)) → spec_l13Late.f s.1 s.2.1 s.2.2.1 s.2.2.2.1 X := mayS (zCh, false) fun s => spec_l13Late.x s.1 s.2.1 s.2.2.1 s.2.2.2.1
noncomputable def spec_l13Late.S (a0 : Ch) (a1 : St) (a2 : Int) (a3 : Int) : Ch × Bool := Classical.choose spec_l13Late.X (a0, (a1, (a2, (a3, ()))))
theorem spec_l13Late.q (a0 : Ch) (a1 : St) (a2 : Int) (a3 : Int) (hp : spec_l13Late.P a0 a1 a2 a3) : spec_l13Late.Q a0 a1 a2 a3 (spec_l13Late.S a0 a1 a2 a3) := (Classical.choose_spec spec_l13Late.X (a0, (a1, (a2, (a3, ())))) hp).1
noncomputable def spec_l13Late.c : Ctr := hctr 125 [false, true, false, false] spec_l13Late.L (some fun s => spec_l13Late.P s.1 s.2.1 s.2.2.1 s.2.2.2.1) (fun s => spec_l13Late.enc s.1 s.2.1 s.2.2.1 s.2.2.2.1 (spec_l13Late.S s.1 s.2.1 s.2.2.1 s.2.2.2.1))
theorem spec_l13Late.good : Good Try.prog spec_l13Late.c :=
  hgoodC (sh := [[none, some (.int, 3), some (.int, 3), none, none, none, none, some (.pkt, 44), some (.bool, 4), some (.bool, 4), some (.int, 3), some (.st, 29), some (.int, 3)], []]) (tk := []) (sp := []) (ct := []) (LL := []) (consG spec_l13Mine.good (consG spec_l13Settle.good noG)) (fn := Try.f125) (by kernel_rfl) (by kernel_rfl) (by rw [show loopsOf (bodyOf Try.f125) = [] from by kernel_rfl]; exact noL rfl) (consC' (bs := []) (by kernel_rfl) noC) fun s hp => Eq.mpr (spec_l13Late.w s.1 s.2.1 s.2.2.1 s.2.2.2.1 (fun r bs' => And (r = (spec_l13Late.c.out s).1) (bs' = (spec_l13Late.c.out s).2))) ((Classical.choose_spec spec_l13Late.X s (hp _ rfl)).2 _ ⟨rfl, rfl⟩)
end Hw
end Go.Proofs.Ytmhighcagpbmeaa
