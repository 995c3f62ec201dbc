/- Packets that are settled: made by gen.py. -/
import Derived.Test.YtloicplgckomdaaQ0
import Derived.Test.YtloicplgckomdaaFT
set_option linter.unusedVariables false
set_option linter.unusedSimpArgs false
set_option maxRecDepth 100000
set_option maxHeartbeats 400000
namespace Go.Proofs.Ytloicplgckomdaa
namespace Hw
open Go
noncomputable section
attribute [local irreducible] evFn evBody wrap wxor
def MayTL (l : Lk) (s : St) (i : Int) : Prop := StlQ l.st i 1 ∧ ¬ s.got.getD (i - 1).toNat 0 = 0
def MayLL (l : Lk) (s : St) (h i : Int) : Prop := StlQ l.st i 1 ∧ ¬ h < (l.st.sent.getD (i - 1).toNat zPkt).til ∧ s.got.getD (i - 1).toNat 0 = 0
abbrev BackE (b : Bk) (p : Pkt) (r : Bk) : Prop := (MayBack b p.kind p.frm p.sum → r = backB b p.kind p.frm p.sum) ∧ (¬ MayBack b p.kind p.frm p.sum → r = b)
def setL (l : Lk) (b : Bk) (i : Int) (k : Bool) : Lk := ⟨b, l.id, ⟨l.st.way, l.st.ver, l.st.want, l.st.sent, l.st.live.set (i - 1).toNat false, (bif k then l.st.back.set (i - 1).toNat true else l.st.back), l.st.got⟩, l.marks, l.count, l.knows⟩
abbrev SetL (l : Lk) (i : Int) (k : Bool) (r : Lk) : Prop := ∃ b, (k = true → BackE l.bank (l.st.sent.getD (i - 1).toNat zPkt) b) ∧ (¬ k = true → b = l.bank) ∧ r = setL l b i k
def refL (l : Lk) (b : Bk) (i : Int) : Lk := ⟨b, l.id, ⟨l.st.way, l.st.ver, l.st.want, l.st.sent, l.st.live, l.st.back.set (i - 1).toNat true, l.st.got⟩, l.marks, l.count, l.knows⟩
abbrev RefQ (l : Lk) (i : Int) (r : Lk) : Prop := ∃ b, BackE l.bank (l.st.sent.getD (i - 1).toNat zPkt) b ∧ r = refL l b i
abbrev LtQ (l : Lk) (s : St) (i : Int) (r : Lk) (t : Bool) : Prop := (t = true ↔ MayTL l s i) ∧ (t = true → SetL l i (s.got.getD (i - 1).toNat 0 == 2) r) ∧ (¬ t = true → r = l)
abbrev LlQ (l : Lk) (s : St) (h i : Int) (r : Lk) (t : Bool) : Prop := (t = true ↔ MayLL l s h i) ∧ (t = true → SetL l i true r) ∧ (¬ t = true → r = l)
abbrev SetE (c : Ch) (i : Int) (k : Bool) (r : Ch) : Prop := ∃ b, (k = true → BackE c.bank (c.st.sent.getD (i - 1).toNat zPkt) b) ∧ (¬ k = true → b = c.bank) ∧ r = setC c b i k
abbrev RlyQ (ok may : Prop) (how : Ch → Prop) (c r : Ch) (t : Bool) : Prop := (t = true ↔ ok ∧ may) ∧ (t = true → how r) ∧ (¬ t = true → (ok → r = c) ∧ (¬ ok → r = zCh))
abbrev RtQ (c : Ch) (s : St) (i : Int) (r : Ch) (t : Bool) : Prop := RlyQ (ChOk c ∧ StOk s) (Mine0 c.st i ∧ ¬ s.got.getD (i - 1).toNat 0 = 0) (SetE c i (s.got.getD (i - 1).toNat 0 == 2)) c r t
abbrev RlQ (c : Ch) (s : St) (h i : Int) (r : Ch) (t : Bool) : Prop := RlyQ ((ChOk c ∧ StOk s) ∧ 1 ≤ h ∧ h ≤ 90) (Mine0 c.st i ∧ ¬ h < (c.st.sent.getD (i - 1).toNat zPkt).til ∧ s.got.getD (i - 1).toNat 0 = 0) (SetE c i true) c r t
theorem backE_same {b r r' : Bk} {p : Pkt} (q : BackE b p r) (q' : BackE b p r') : r = r' := by
  by_cases h : MayBack b p.kind p.frm p.sum
  · exact (q.1 h).trans (q'.1 h).symm
  · exact (q.2 h).trans (q'.2 h).symm
theorem setE_same {c r r' : Ch} {i : Int} {k : Bool} (q : SetE c i k r) (q' : SetE c i k r') : r = r' := by
  obtain ⟨b, h1, h2, h3⟩ := q
  obtain ⟨b', h1', h2', h3'⟩ := q'
  have e : b = b' := by
    by_cases h : k = true
    · exact backE_same (h1 h) (h1' h)
    · exact (h2 h).trans (h2' h).symm
  rw [h3, h3', e]
theorem rly_same {ok may : Prop} {how : Ch → Prop} {c r r' : Ch} {t t' : Bool} (hh : ∀ x y, how x → how y → x = y) (q : RlyQ ok may how c r t) (q' : RlyQ ok may how c r' t') : t = t' ∧ r = r' := by
  have hb : t = t' := Bool.eq_iff_iff.2 (q.1.trans q'.1.symm)
  subst hb
  refine ⟨rfl, ?_⟩
  by_cases g : t = true
  · exact hh _ _ (q.2.1 g) (q'.2.1 g)
  · by_cases g' : ok
    · rw [(q.2.2 g).1 g', (q'.2.2 g).1 g']
    · rw [(q.2.2 g).2 g', (q'.2.2 g).2 g']
theorem rly_f {ok may : Prop} {how : Ch → Prop} {c : Ch} (h : ¬ ok) : RlyQ ok may how c zCh false := ⟨⟨fun g => (by cases g), fun g => absurd g.1 h⟩, fun g => (by cases g), fun _ => ⟨fun g => absurd g h, fun _ => rfl⟩⟩
theorem setE_spec {c r : Ch} {i : Int} {k : Bool} (h : ChOk c) (hi : 1 ≤ i ∧ i ≤ (c.st.sent.length : Int)) (q : SetQ c i k r) : SetE c i k r := by
  obtain ⟨b, h1, h2, h3⟩ := q
  refine ⟨b, fun g => ?_, h2, h3⟩
  obtain ⟨t, q⟩ := h1 g
  have hp := (stK h.2.2.1 (i := i - 1) (by omega) (by omega)).1
  generalize c.st.sent.getD (i - 1).toNat zPkt = p at hp q ⊢
  have hs := hp.2.2.2.2.1
  have e := may_back h.2.1 hp.2.1 hp.2.2.1 (s := p.sum) (by omega)
  have hw := back_wrap (k := p.kind) h.2.1 hp.2.2.1 (s := p.sum) (by omega)
  exact ⟨fun g => (q.2.1 (q.1.2 (e.1 g))).trans hw, fun g => q.2.2 fun g' => g (e.2 (q.1.1 g'))⟩
theorem stl_mine {s : St} {i : Int} (h : StOk s) : StlQ s i 1 ↔ Mine0 s i := by
  unfold Mine0
  refine ⟨fun q => ?_, fun q => ⟨fun _ _ _ => (by rw [if_pos q.2]), fun g => absurd ⟨h, q.1⟩ g⟩⟩
  have hi : 1 ≤ i ∧ i ≤ (s.sent.length : Int) := Classical.byContradiction fun g => by
    have := q.2 fun g' => g g'.2
    omega
  refine ⟨hi, Classical.byContradiction fun g => ?_⟩
  have := q.1 h hi.1 hi.2
  rw [if_neg g] at this
  split at this <;> omega
theorem stl_rng {s : St} {i r : Int} (q : StlQ s i r) (h : r = 1) : StOk s ∧ 1 ≤ i ∧ i ≤ (s.sent.length : Int) ∧ s.sent.length ≤ 8 := by
  refine Classical.byContradiction fun g => ?_
  by_cases h' : StOk s ∧ 1 ≤ i ∧ i ≤ (s.sent.length : Int)
  · exact g ⟨h'.1, h'.2.1, h'.2.2, (stL h'.1).1⟩
  · have := q.2 h'
    omega
theorem stlQ_eq {s : St} {n a b : Int} (h : StlQ s n a) (h' : StlQ s n b) : a = b := by
  by_cases hs : StOk s ∧ 1 ≤ n ∧ n ≤ (s.sent.length : Int)
  · exact (h.1 hs.1 hs.2.1 hs.2.2).trans (h'.1 hs.1 hs.2.1 hs.2.2).symm
  · exact (h.2 hs).trans (h'.2 hs).symm
theorem rt_spec {c r : Ch} {s : St} {i : Int} {t : Bool} (h : ChOk c ∧ StOk s) (q : TellQ c s i r t) : RtQ c s i r t :=
  ⟨q.1.trans ⟨fun g => ⟨h, g⟩, fun g => g.2⟩, fun g => setE_spec h.1 (q.1.1 g).1.1 (q.2.1 g), fun g => ⟨fun _ => q.2.2 g, fun g' => absurd h g'⟩⟩
theorem rl_spec {c r : Ch} {s : St} {n i : Int} {t : Bool} (h : (ChOk c ∧ StOk s) ∧ 1 ≤ n ∧ n ≤ 90) (q : LateQ c s n i r t) : RlQ c s n i r t :=
  ⟨q.1.trans ⟨fun g => ⟨h, g⟩, fun g => g.2⟩, fun g => setE_spec h.1.1 (q.1.1 g).1.1 (q.2.1 g), fun g => ⟨fun _ => q.2.2 g, fun g' => absurd h g'⟩⟩
theorem set_link {c r : Ch} {l : Lk} {i : Int} {k : Bool} (q : SetL (lkOf c) i k l) (e : r = lkChain l) : SetE c i k r := by
  obtain ⟨b, h1, h2, h3⟩ := q
  refine ⟨b, h1, h2, ?_⟩
  rw [e, h3]
  show (⟨c.id, b, _, c.past.reverse.reverse, c.knows⟩ : Ch) = _
  rw [List.reverse_reverse]
  rfl
theorem rt_impl {c r : Ch} {l : Lk} {s : St} {i : Int} {t : Bool} (h : ChOk c ∧ StOk s) (q : LtQ (lkOf c) s i l t) (e : r = lkChain l) : RtQ c s i r t := by
  refine ⟨q.1.trans ?_, fun g => set_link (q.2.1 g) e, fun g => ⟨fun _ => by rw [e, q.2.2 g, lkChain_of], fun g' => absurd h g'⟩⟩
  unfold MayTL
  show StlQ c.st i 1 ∧ _ ↔ _
  rw [stl_mine h.1.2.2.1]
  exact ⟨fun g => ⟨h, g⟩, fun g => g.2⟩
theorem rl_impl {c r : Ch} {l : Lk} {s : St} {n i : Int} {t : Bool} (h : (ChOk c ∧ StOk s) ∧ 1 ≤ n ∧ n ≤ 90) (q : LlQ (lkOf c) s n i l t) (e : r = lkChain l) : RlQ c s n i r t := by
  refine ⟨q.1.trans ?_, fun g => set_link (q.2.1 g) e, fun g => ⟨fun _ => by rw [e, q.2.2 g, lkChain_of], fun g' => absurd h g'⟩⟩
  unfold MayLL
  show StlQ c.st i 1 ∧ ¬ n < (c.st.sent.getD (i - 1).toNat zPkt).til ∧ _ ↔ _
  rw [stl_mine h.1.1.2.2.1]
  exact ⟨fun g => ⟨h, g⟩, fun g => g.2⟩
theorem setL_cnt {l r : Lk} {i : Int} {k : Bool} (q : SetL l i k r) : r.count = l.count ∧ r.marks = l.marks := by
  obtain ⟨b, _, _, h⟩ := q
  rw [h]; exact ⟨rfl, rfl⟩
theorem lt_cnt {l r : Lk} {s : St} {i : Int} {t : Bool} (q : LtQ l s i r t) : r.count = l.count ∧ r.marks = l.marks := by
  by_cases g : t = true
  · exact setL_cnt (q.2.1 g)
  · rw [q.2.2 g]; exact ⟨rfl, rfl⟩
theorem ll_cnt {l r : Lk} {s : St} {n i : Int} {t : Bool} (q : LlQ l s n i r t) : r.count = l.count ∧ r.marks = l.marks := by
  by_cases g : t = true
  · exact setL_cnt (q.2.1 g)
  · rw [q.2.2 g]; exact ⟨rfl, rfl⟩
theorem ref_y {l : Lk} {b : Bk} {i x : Int} {t : Bool} (e : x = i - 1) (q : BackQ l.bank (l.st.sent.getD x.toNat zPkt).kind (l.st.sent.getD x.toNat zPkt).frm (l.st.sent.getD x.toNat zPkt).sum b t) (h : t = true) : RefQ l i ⟨b, l.id, ⟨l.st.way, l.st.ver, l.st.want, l.st.sent, l.st.live, l.st.back.set x.toNat true, l.st.got⟩, l.marks, l.count, l.knows⟩ := by
  subst e
  exact ⟨b, ⟨fun _ => q.2.1 h, fun g => absurd (q.1.1 h) g⟩, rfl⟩
theorem ref_n {l : Lk} {b : Bk} {i x : Int} {t : Bool} (e : x = i - 1) (q : BackQ l.bank (l.st.sent.getD x.toNat zPkt).kind (l.st.sent.getD x.toNat zPkt).frm (l.st.sent.getD x.toNat zPkt).sum b t) (h : ¬ t = true) : RefQ l i ⟨l.bank, l.id, ⟨l.st.way, l.st.ver, l.st.want, l.st.sent, l.st.live, l.st.back.set x.toNat true, l.st.got⟩, l.marks, l.count, l.knows⟩ := by
  subst e
  exact ⟨l.bank, ⟨fun g => absurd (q.1.2 g) h, fun _ => rfl⟩, rfl⟩
theorem fate_n {n : Int} (h : n = 0) : (ZL.S n).1 = 152 := by subst h; rfl
theorem fate_o {n : Int} (h : n = 1) : (ZL.S n).1 = 137 := by subst h; rfl
theorem fate_b {s : St} {i : Int} (ho : StOk s) (hi : 1 ≤ i ∧ i ≤ 8) (h0 : ¬ s.got.getD (i - 1).toNat 0 = 0) (h1 : ¬ s.got.getD (i - 1).toNat 0 = 1) : (ZL.S (s.got.getD (i - 1).toNat 0)).1 = 138 := by
  have hr := got_rng ho hi.1 hi.2
  have : s.got.getD (i - 1).toNat 0 = 2 := by omega
  rw [this]
  rfl
theorem mt_y {l : Lk} {s : St} {i x : Int} {b : Bool} (q : StlQ l.st i x) (h : ¬ s.got.getD (i - 1).toNat 0 = 0) (hb : b = true) : (bif x == 1 then b else false) = true ↔ MayTL l s i := by
  subst hb
  rw [B.and B.eq B.t]
  unfold MayTL
  exact ⟨fun g => ⟨by rw [← g.1]; exact q, h⟩, fun g => ⟨stlQ_eq q g.1, trivial⟩⟩
theorem mt_n {l : Lk} {s : St} {i x : Int} {b : Bool} (h : s.got.getD (i - 1).toNat 0 = 0) (hb : b = false) : (bif x == 1 then b else false) = true ↔ MayTL l s i := by
  subst hb
  unfold MayTL
  exact ⟨fun g => (by cases hx : x == 1 <;> rw [hx] at g <;> cases g), fun g => absurd h g.2⟩
theorem ml_f {l : Lk} {s : St} {n i x y : Int} (q : StlQ l.st i x) (e : -9223372036854775808 ≤ i - 1 ∧ i - 1 ≤ 9223372036854775807 → y = i - 1) (h : ¬ x = 1 ∨ n < (l.st.sent.getD y.toNat zPkt).til) : false = true ↔ MayLL l s n i := by
  refine ⟨fun g => (by cases g), fun g => ?_⟩
  have h1 := stl_rng g.1 rfl
  rw [e (by omega)] at h
  exact h.elim (fun h => absurd (stlQ_eq q g.1) h) fun h => absurd h g.2.1
theorem ml_y {l : Lk} {s : St} {n i x y : Int} {b : Bool} (q : StlQ l.st i x) (e : -9223372036854775808 ≤ i - 1 ∧ i - 1 ≤ 9223372036854775807 → y = i - 1) (h : ¬ (¬ x = 1 ∨ n < (l.st.sent.getD y.toNat zPkt).til)) (h0 : s.got.getD (i - 1).toNat 0 = 0) (hb : b = false) : (!b) = true ↔ MayLL l s n i := by
  subst hb
  have hx : x = 1 := nn fun g => h (.inl g)
  have h1 := stl_rng q hx
  rw [e (by omega)] at h
  exact ⟨fun _ => ⟨by rw [← hx]; exact q, fun g => h (.inr g), h0⟩, fun _ => rfl⟩
theorem ml_n {l : Lk} {s : St} {n i : Int} {b : Bool} (h0 : ¬ s.got.getD (i - 1).toNat 0 = 0) (hb : b = true) : (!b) = true ↔ MayLL l s n i := by
  subst hb
  exact ⟨fun g => (by cases g), fun g => absurd g.2.2 h0⟩
theorem mtl_rng {l : Lk} {s : St} {i : Int} (h : MayTL l s i) : StOk l.st ∧ 1 ≤ i ∧ i ≤ (l.st.sent.length : Int) ∧ i ≤ (l.st.live.length : Int) ∧ i ≤ (l.st.back.length : Int) ∧ i ≤ 8 := by
  obtain ⟨h1, h2, h3, h4⟩ := stl_rng h.1 rfl
  have := stL h1
  exact ⟨h1, by omega⟩
theorem mll_rng {l : Lk} {s : St} {n i : Int} (h : MayLL l s n i) : StOk l.st ∧ 1 ≤ i ∧ i ≤ (l.st.sent.length : Int) ∧ i ≤ (l.st.live.length : Int) ∧ i ≤ (l.st.back.length : Int) ∧ i ≤ 8 := by
  obtain ⟨h1, h2, h3, h4⟩ := stl_rng h.1 rfl
  have := stL h1
  exact ⟨h1, by omega⟩
theorem lt_f {l : Lk} {s : St} {i : Int} {x : Bool} (q : x = true ↔ MayTL l s i) (h : ¬ x = true) : LtQ l s i l false := ⟨⟨fun g => (by cases g), fun g => absurd (q.2 g) h⟩, fun g => (by cases g), fun _ => rfl⟩
theorem ll_f {l : Lk} {s : St} {n i : Int} {x : Bool} (q : x = true ↔ MayLL l s n i) (h : ¬ x = true) : LlQ l s n i l false := ⟨⟨fun g => (by cases g), fun g => absurd (q.2 g) h⟩, fun g => (by cases g), fun _ => rfl⟩
theorem set_y' {l r : Lk} {i y : Int} (e : y = i - 1) (q : RefQ ⟨l.bank, l.id, ⟨l.st.way, l.st.ver, l.st.want, l.st.sent, l.st.live.set y.toNat false, l.st.back, l.st.got⟩, l.marks, l.count, l.knows⟩ i r) : SetL l i true r := by
  obtain ⟨b, h1, h2⟩ := q
  subst e
  exact ⟨b, fun _ => h1, fun g => absurd rfl g, h2⟩
theorem lt_n {l : Lk} {s : St} {i y z : Int} {x : Bool} (hs : StOk s) (q : x = true ↔ MayTL l s i) (h : ¬¬ x = true) (e : y = i - 1) (q3 : GotQ s i z) (h2 : ¬ z = 2) : LtQ l s i ⟨l.bank, l.id, ⟨l.st.way, l.st.ver, l.st.want, l.st.sent, l.st.live.set y.toNat false, l.st.back, l.st.got⟩, l.marks, l.count, l.knows⟩ true := by
  have hm := q.1 (nn h)
  have hr := mtl_rng hm
  have e3 := q3.1 hs (by omega) (by omega)
  subst e
  refine ⟨⟨fun _ => hm, fun _ => rfl⟩, fun _ => ?_, fun g => absurd rfl g⟩
  have : (s.got.getD (i - 1).toNat 0 == 2) = false := by rw [← e3]; simpa using h2
  rw [this]
  exact ⟨l.bank, fun g => (by cases g), fun _ => rfl, rfl⟩
theorem lt_y {l r : Lk} {s : St} {i y z : Int} {x : Bool} (hs : StOk s) (q : x = true ↔ MayTL l s i) (h : ¬¬ x = true) (e : y = i - 1) (q3 : GotQ s i z) (h2 : z = 2) (q4 : RefQ ⟨l.bank, l.id, ⟨l.st.way, l.st.ver, l.st.want, l.st.sent, l.st.live.set y.toNat false, l.st.back, l.st.got⟩, l.marks, l.count, l.knows⟩ i r) : LtQ l s i r true := by
  have hm := q.1 (nn h)
  have hr := mtl_rng hm
  have e3 := q3.1 hs (by omega) (by omega)
  refine ⟨⟨fun _ => hm, fun _ => rfl⟩, fun _ => ?_, fun g => absurd rfl g⟩
  have : (s.got.getD (i - 1).toNat 0 == 2) = true := by rw [← e3]; simpa using h2
  rw [this]
  exact set_y' e q4
theorem ll_y {l r : Lk} {s : St} {n i y : Int} {x : Bool} (q : x = true ↔ MayLL l s n i) (h : ¬¬ x = true) (e : y = i - 1) (q3 : RefQ ⟨l.bank, l.id, ⟨l.st.way, l.st.ver, l.st.want, l.st.sent, l.st.live.set y.toNat false, l.st.back, l.st.got⟩, l.marks, l.count, l.knows⟩ i r) : LlQ l s n i r true :=
  ⟨⟨fun _ => q.1 (nn h), fun _ => rfl⟩, fun _ => set_y' e q3, fun g => absurd rfl g⟩
theorem tlOk' {c : Ch} {s : St} {h : Int} (hl : c.lt) (g : ¬(((¬ZY.S c = true ∨ ¬StOk s) ∨ h < 1) ∨ h > 90)) : (ChOk c ∧ StOk s) ∧ 1 ≤ h ∧ h ≤ 90 := ⟨⟨(implChL hl).1 (nn fun g' => g (.inl (.inl (.inl g')))), nn fun g' => g (.inl (.inl (.inr g')))⟩, by omega⟩
theorem tlF' {c : Ch} {s : St} {h : Int} (hl : c.lt) (g : ((¬ZY.S c = true ∨ ¬StOk s) ∨ h < 1) ∨ h > 90) : ¬ ((ChOk c ∧ StOk s) ∧ 1 ≤ h ∧ h ≤ 90) := fun g' => g.elim (fun g => g.elim (fun g => g.elim (fun g => g ((implChL hl).2 g'.1.1)) fun g => g g'.1.2) fun g => (by omega)) fun g => (by omega)
theorem tlOk {c : Ch} {s : St} {h : Int} (hl : c.lt) (g : ¬((¬ZV.S c = true ∨ ¬StOk s) ∨ ¬ (1 ≤ h ∧ h ≤ 90))) : (ChOk c ∧ StOk s) ∧ 1 ≤ h ∧ h ≤ 90 := ⟨⟨(specChL hl).1 (nn fun g' => g (.inl (.inl g'))), nn fun g' => g (.inl (.inr g'))⟩, by omega⟩
theorem tlF {c : Ch} {s : St} {h : Int} (hl : c.lt) (g : (¬ZV.S c = true ∨ ¬StOk s) ∨ ¬ (1 ≤ h ∧ h ≤ 90)) : ¬ ((ChOk c ∧ StOk s) ∧ 1 ≤ h ∧ h ≤ 90) := fun g' => g.elim (fun g => g.elim (fun g => g ((specChL hl).2 g'.1.1)) fun g => g g'.1.2) fun g => g g'.2
theorem rtOk {c : Ch} {s : St} (hl : c.lt) (h : ¬(¬ZV.S c = true ∨ ¬StOk s)) : ChOk c ∧ StOk s := ⟨(specChL hl).1 (nn fun g => h (.inl g)), nn fun g => h (.inr g)⟩
theorem rtOk' {c : Ch} {s : St} (hl : c.lt) (h : ¬(¬ZY.S c = true ∨ ¬StOk s)) : ChOk c ∧ StOk s := ⟨(implChL hl).1 (nn fun g => h (.inl g)), nn fun g => h (.inr g)⟩

def ZcB.L : FL := fCons (fC (cPtr 1 cLkO rfl)) (fCons (fSh sInt) (fNil))
def ZcB : Lk × Int × Unit → FR (Lk) := fun (a0, a1, ()) => ⟨(1 ≤ a1) ∧ (a1 ≤ (a0.st.sent.length : Int)) ∧ (a1 ≤ (a0.st.back.length : Int)) ∧ (a1 ≤ 8) ∧ True, fun X => Lt (wrap (a1 - 1)) fun x1 => And ((0 : Int) ≤ x1 ∧ x1 < (a0.st.back.length : Int)) (And ((x1).toNat < a0.st.back.length) (And ((0 : Int) ≤ x1 ∧ x1 < (a0.st.sent.length : Int)) (And ((x1).toNat < a0.st.sent.length) (Call0 Zch.X (a0.bank, (a0.st.sent.getD (x1).toNat zPkt).kind, (a0.st.sent.getD (x1).toNat zPkt).frm, (a0.st.sent.getD (x1).toNat zPkt).sum, ()) fun x2 => And (Imp (x2.2 = true) (X (⟨x2.1, a0.id, (⟨a0.st.way, a0.st.ver, a0.st.want, a0.st.sent, a0.st.live, a0.st.back.set (x1).toNat true, a0.st.got⟩ : St), a0.marks, a0.count, a0.knows⟩ : Lk))) (Imp (x2.2 = false) (X (⟨a0.bank, a0.id, (⟨a0.st.way, a0.st.ver, a0.st.want, a0.st.sent, a0.st.live, a0.st.back.set (x1).toNat true, a0.st.got⟩ : St), a0.marks, a0.count, a0.knows⟩ : Lk))))))), fun r => (RefQ a0 a1 r) ∧ True, fun r => (.tup [], [.raw 1 [.own 8 1 3, .own 9 1 3, .int r.bank.locked, .int r.id, .int r.st.way, .int r.st.ver, .int r.st.want, .own 10 7 49, .own 11 1 4, .own 12 1 4, .own 13 1 3, .mk r.marks 0, .int r.count, .own 14 1 3], .dead, .dead, .dead, .dead, .dead, .dead, .dead, .arr (.ints r.bank.own), .arr (.ints r.bank.notes), .arr (.pkts r.st.sent), .arr (.bools r.st.live), .arr (.bools r.st.back), .arr (.ints r.st.got), .arr (.ints r.knows)])⟩
theorem ZcB.X : XF ZcB := mkF (zLk) fun (a0, a1, ()) hp => by
  obtain ⟨p0, p1, p2, p3, -⟩ := hp
  dsimp only [ZcB]
  refine May.lw ⟨?_, ?_⟩ fun x1 e1 => May.chk ?_ fun c1 => May.chk ?_ fun c2 => May.chk ?_ fun c3 => May.chk ?_ fun c4 => May.call0 trivial fun x2 q2 => have q2 := q2.1; May.iff (Iff.rfl) (fun h1 => ?_) (fun h1 => ?_); rotate_left 6
  refine May.ret ⟨?_, trivial⟩; rotate_left 1
  refine May.ret ⟨?_, trivial⟩
  all_goals try dsimp only
  all_goals first | with_reducible assumption | omega | (exact ref_y e1 q2 h1; done) | (exact ref_n e1 q2 h1; done)
abbrev ZcB.S := Classical.choose ZcB.X
def ZcB.c : Ctr := fc 106 [false, false] ZcB.L ZcB ZcB.S
theorem ZcB.good : Good Try.prog ZcB.c := mkFG (fn := Try.f106) {tk := [1000, 1, 2, 3, 4, 5, 6, 7]} ZcB.X (consG Zch.good noG) (by kernel_rfl) (by kernel_rfl) (l0 (by kernel_rfl)) (c0 (by kernel_rfl)) fun s K => by kernel_rfl
def ZcC.L : FL := fCons (fAgg (cNil)) (fNil)
def ZcC : Unit × Unit → FR (Bool) := fun ((), ()) => ⟨True, fun X => X false, fun r => (r = false) ∧ True, fun r => (.v (.c (.bool r)), [])⟩
theorem ZcC.X : XF ZcC := mkF (false) fun ((), ()) hp => by
  clear hp
  dsimp only [ZcC]
  refine May.ret ⟨?_, trivial⟩
  all_goals try dsimp only
  all_goals first | with_reducible assumption | omega | rfl | assumption | (simp only [List.length_append, List.length_cons, List.length_nil, List.length_set, List.length_replicate, Int.natCast_add, Int.natCast_one] at *; omega) | grind
abbrev ZcC.S := Classical.choose ZcC.X
def ZcC.c : Ctr := fc0 161 [false] ZcC.L ZcC ZcC.S
theorem ZcC.good : Good Try.prog ZcC.c := mkFG0 (fn := Try.f161) {} ZcC.X noG (by kernel_rfl) (by kernel_rfl) (l0 (by kernel_rfl)) (c0 (by kernel_rfl)) (fun _ => trivial) fun s K => by kernel_rfl
def ZcD.L : FL := fCons (fAgg (cNil)) (fNil)
def ZcD : Unit × Unit → FR (Bool) := fun ((), ()) => ⟨True, fun X => X true, fun r => (r = true) ∧ True, fun r => (.v (.c (.bool r)), [])⟩
theorem ZcD.X : XF ZcD := mkF (false) fun ((), ()) hp => by
  clear hp
  dsimp only [ZcD]
  refine May.ret ⟨?_, trivial⟩
  all_goals try dsimp only
  all_goals first | with_reducible assumption | omega | rfl | assumption | (simp only [List.length_append, List.length_cons, List.length_nil, List.length_set, List.length_replicate, Int.natCast_add, Int.natCast_one] at *; omega) | grind
abbrev ZcD.S := Classical.choose ZcD.X
def ZcD.c : Ctr := fc0 159 [false] ZcD.L ZcD ZcD.S
theorem ZcD.good : Good Try.prog ZcD.c := mkFG0 (fn := Try.f159) {} ZcD.X noG (by kernel_rfl) (by kernel_rfl) (l0 (by kernel_rfl)) (c0 (by kernel_rfl)) (fun _ => trivial) fun s K => by kernel_rfl
def ZcE.L : FL := fCons (fAgg (cNil)) (fNil)
def ZcE : Unit × Unit → FR (Bool) := fun ((), ()) => ⟨True, fun X => X true, fun r => (r = true) ∧ True, fun r => (.v (.c (.bool r)), [])⟩
theorem ZcE.X : XF ZcE := mkF (false) fun ((), ()) hp => by
  clear hp
  dsimp only [ZcE]
  refine May.ret ⟨?_, trivial⟩
  all_goals try dsimp only
  all_goals first | with_reducible assumption | omega | rfl | assumption | (simp only [List.length_append, List.length_cons, List.length_nil, List.length_set, List.length_replicate, Int.natCast_add, Int.natCast_one] at *; omega) | grind
abbrev ZcE.S := Classical.choose ZcE.X
def ZcE.c : Ctr := fc0 160 [false] ZcE.L ZcE ZcE.S
theorem ZcE.good : Good Try.prog ZcE.c := mkFG0 (fn := Try.f160) {} ZcE.X noG (by kernel_rfl) (by kernel_rfl) (l0 (by kernel_rfl)) (c0 (by kernel_rfl)) (fun _ => trivial) fun s K => by kernel_rfl
def ZcF.L : FL := fCons (fC (cPtr 1 cLkO rfl)) (fCons (fAgg (cCons cInt (cCons cInt (cCons cInt (cCons (cArr false kPkts) (cCons (cArr false kBools) (cCons (cArr false kBools) (cCons (cArr false kInts) (cCons cInt (cNil)))))))))) (fCons (fSh sInt) (fNil)))
def ZcF : Lk × (Int × Int × Int × List Pkt × List Bool × List Bool × List Int × Int × Unit) × Int × Unit → FR (Bool) := fun (a0, (a1, a2, a3, a4, a5, a6, a7, a8, ()), a9, ()) => ⟨(StOk (⟨a1, a2, a3, a4, a5, a6, a7⟩ : St)) ∧ True, fun X => Or (Lt ((Zcw.S (a0.st, a9, ()))) fun x1 => And (Imp (And ((x1 == 1) = true) (True)) ((Zct ((⟨a1, a2, a3, a4, a5, a6, a7⟩ : St), a9, ())).P)) (Lt ((Zct.S ((⟨a1, a2, a3, a4, a5, a6, a7⟩ : St), a9, ()))) fun x2 => And (Imp (And ((x1 == 1) = true) (True)) (x2 = 152)) (Lt ((ZcC.S ((), ()))) fun x3 => X (bif x1 == 1 then x3 else false)))) (Or (Lt ((Zcw.S (a0.st, a9, ()))) fun x4 => And (Imp (And ((x4 == 1) = true) (True)) ((Zct ((⟨a1, a2, a3, a4, a5, a6, a7⟩ : St), a9, ())).P)) (Lt ((Zct.S ((⟨a1, a2, a3, a4, a5, a6, a7⟩ : St), a9, ()))) fun x5 => And (Imp (And ((x4 == 1) = true) (True)) (x5 = 137)) (Lt ((ZcD.S ((), ()))) fun x6 => X (bif x4 == 1 then x6 else false)))) (Lt ((Zcw.S (a0.st, a9, ()))) fun x7 => And (Imp (And ((x7 == 1) = true) (True)) ((Zct ((⟨a1, a2, a3, a4, a5, a6, a7⟩ : St), a9, ())).P)) (Lt ((Zct.S ((⟨a1, a2, a3, a4, a5, a6, a7⟩ : St), a9, ()))) fun x8 => And (Imp (And ((x7 == 1) = true) (True)) (x8 = 138)) (Lt ((ZcE.S ((), ()))) fun x9 => X (bif x7 == 1 then x9 else false))))), fun r => (r = true ↔ MayTL a0 (⟨a1, a2, a3, a4, a5, a6, a7⟩ : St) a9) ∧ True, fun r => (.v (.c (.bool r)), [.raw 1 [.own 1 1 3, .own 2 1 3, .int a0.bank.locked, .int a0.id, .int a0.st.way, .int a0.st.ver, .int a0.st.want, .own 3 7 49, .own 4 1 4, .own 5 1 4, .own 6 1 3, .mk a0.marks 0, .int a0.count, .own 7 1 3], .arr (.ints a0.bank.own), .arr (.ints a0.bank.notes), .arr (.pkts a0.st.sent), .arr (.bools a0.st.live), .arr (.bools a0.st.back), .arr (.ints a0.st.got), .arr (.ints a0.knows)])⟩
theorem ZcF.X : XF ZcF := mkF (false) fun (a0, (a1, a2, a3, a4, a5, a6, a7, a8, ()), a9, ()) hp => by
  obtain ⟨p0, -⟩ := hp
  dsimp only [ZcF]
  refine May.alt (c := a7.getD (a9 - 1).toNat 0 == 0) (B.eq) (fun h1 => ?_) (fun h1 => May.alt (c := a7.getD (a9 - 1).toNat 0 == 1) (B.eq) (fun h2 => ?_) (fun h2 => ?_))
  refine May.clqe trivial fun x1 e1 q1 => have q1 := q1.1; May.chk (fun hπ => have g1 := Iff.mp (B.eq) hπ.1; ⟨?_, ?_, ?_, trivial⟩) fun c1 => May.cq fun x2 q2 => have q2 := gq3 q2; have q2 := fun h => (q2 h).1; May.chk (fun hπ => have g1 := Iff.mp (B.eq) hπ.1; ?_) fun c2 => May.clqe trivial fun x3 e3 q3 => have q3 := q3.1; May.ret ⟨?_, trivial⟩; rotate_left 5
  refine May.clqe trivial fun x4 e4 q4 => have q4 := q4.1; May.chk (fun hπ => have g1 := Iff.mp (B.eq) hπ.1; ⟨?_, ?_, ?_, trivial⟩) fun c3 => May.cq fun x5 q5 => have q5 := gq3 q5; have q5 := fun h => (q5 h).1; May.chk (fun hπ => have g1 := Iff.mp (B.eq) hπ.1; ?_) fun c4 => May.clqe trivial fun x6 e6 q6 => have q6 := q6.1; May.ret ⟨?_, trivial⟩; rotate_left 5
  refine May.clqe trivial fun x7 e7 q7 => have q7 := q7.1; May.chk (fun hπ => have g1 := Iff.mp (B.eq) hπ.1; ⟨?_, ?_, ?_, trivial⟩) fun c5 => May.cq fun x8 q8 => have q8 := gq3 q8; have q8 := fun h => (q8 h).1; May.chk (fun hπ => have g1 := Iff.mp (B.eq) hπ.1; ?_) fun c6 => May.clqe trivial fun x9 e9 q9 => have q9 := q9.1; May.ret ⟨?_, trivial⟩
  all_goals try dsimp only
  all_goals first | with_reducible assumption | omega | (exact stL4 p0; done) | ((have := stl_rng q1 g1; omega); done) | ((have := stl_rng q4 g1; omega); done) | ((have := stl_rng q7 g1; omega); done) | (exact (q2 ⟨stL4 p0, by have := stl_rng q1 g1; omega⟩).trans (fate_n h1); done) | (exact (q5 ⟨stL4 p0, by have := stl_rng q4 g1; omega⟩).trans (fate_o h2); done) | (exact (q8 ⟨stL4 p0, by have := stl_rng q7 g1; omega⟩).trans (fate_b p0 (by have := stl_rng q7 g1; omega) h1 h2); done) | (exact mt_n h1 q3; done) | (exact mt_y q4 h1 q6; done) | (exact mt_y q7 h1 q9; done)
abbrev ZcF.S := Classical.choose ZcF.X
def ZcF.c : Ctr := fc 105 [false, false, false] ZcF.L ZcF ZcF.S
theorem ZcF.good : Good Try.prog ZcF.c := mkFG (fn := Try.f105) {sp := [(1, [[(19, 0)], [(19, 1)], [(19, 2)]])]} ZcF.X (consG ZcC.good (consG ZcD.good (consG ZcE.good (consG Zcw.good (consG Zct.good noG))))) (by kernel_rfl) (by kernel_rfl) (l0 (by kernel_rfl)) (c0 (by kernel_rfl)) fun s K => by kernel_rfl
def ZcG.L : FL := fCons (fC (cPtr 1 cLkO rfl)) (fCons (fAgg (cCons cInt (cCons cInt (cCons cInt (cCons (cArr false kPkts) (cCons (cArr false kBools) (cCons (cArr false kBools) (cCons (cArr false kInts) (cCons cInt (cNil)))))))))) (fCons (fSh sInt) (fNil)))
def ZcG : Lk × (Int × Int × Int × List Pkt × List Bool × List Bool × List Int × Int × Unit) × Int × Unit → FR (Bool) := fun (a0, (a1, a2, a3, a4, a5, a6, a7, a8, ()), a9, ()) => ⟨(StOk (⟨a1, a2, a3, a4, a5, a6, a7⟩ : St)) ∧ True, fun X => Call0 Zcw.X (a0.st, a9, ()) fun x1 => Lt (wrap (a9 - 1)) fun x2 => And (Imp (And ((x1 != 1) = false) (True)) ((0 : Int) ≤ x2 ∧ x2 < (a0.st.sent.length : Int))) (And (Imp (And ((x1 != 1) = false) (True)) ((x2).toNat < a0.st.sent.length)) (Lt (decide (a8 < (a0.st.sent.getD (x2).toNat zPkt).til)) fun x3 => And (Imp ((bif x1 != 1 then true else x3) = true) (X false)) (Imp ((bif x1 != 1 then true else x3) = false) (Or (And ((Zct ((⟨a1, a2, a3, a4, a5, a6, a7⟩ : St), a9, ())).P) (Lt ((Zct.S ((⟨a1, a2, a3, a4, a5, a6, a7⟩ : St), a9, ()))) fun x4 => And (x4 = 152) (Lt ((ZcC.S ((), ()))) fun x5 => X (!x5)))) (Or (And ((Zct ((⟨a1, a2, a3, a4, a5, a6, a7⟩ : St), a9, ())).P) (Lt ((Zct.S ((⟨a1, a2, a3, a4, a5, a6, a7⟩ : St), a9, ()))) fun x6 => And (x6 = 137) (Lt ((ZcD.S ((), ()))) fun x7 => X (!x7)))) (And ((Zct ((⟨a1, a2, a3, a4, a5, a6, a7⟩ : St), a9, ())).P) (Lt ((Zct.S ((⟨a1, a2, a3, a4, a5, a6, a7⟩ : St), a9, ()))) fun x8 => And (x8 = 138) (Lt ((ZcE.S ((), ()))) fun x9 => X (!x9))))))))), fun r => (r = true ↔ MayLL a0 (⟨a1, a2, a3, a4, a5, a6, a7⟩ : St) a8 a9) ∧ True, fun r => (.v (.c (.bool r)), [.raw 1 [.own 1 1 3, .own 2 1 3, .int a0.bank.locked, .int a0.id, .int a0.st.way, .int a0.st.ver, .int a0.st.want, .own 3 7 49, .own 4 1 4, .own 5 1 4, .own 6 1 3, .mk a0.marks 0, .int a0.count, .own 7 1 3], .arr (.ints a0.bank.own), .arr (.ints a0.bank.notes), .arr (.pkts a0.st.sent), .arr (.bools a0.st.live), .arr (.bools a0.st.back), .arr (.ints a0.st.got), .arr (.ints a0.knows)])⟩
theorem ZcG.X : XF ZcG := mkF (false) fun (a0, (a1, a2, a3, a4, a5, a6, a7, a8, ()), a9, ()) hp => by
  obtain ⟨p0, -⟩ := hp
  dsimp only [ZcG]
  refine May.call0 trivial fun x1 q1 => have q1 := q1.1; May.lwi fun x2 e2 => May.chk (fun hπ => have g1 := B.neg (B.ne) hπ.1; ?_) fun c1 => May.chk (fun hπ => have g1 := B.neg (B.ne) hπ.1; ?_) fun c2 => May.lp (B.dec) fun x3 e3 => May.iff (B.or (B.ne) (e3)) (fun h1 => ?_) (fun h1 => ?_); rotate_left 2
  refine May.ret ⟨?_, trivial⟩; rotate_left 1
  refine May.alt (c := a7.getD (a9 - 1).toNat 0 == 0) (B.eq) (fun h2 => ?_) (fun h2 => May.alt (c := a7.getD (a9 - 1).toNat 0 == 1) (B.eq) (fun h3 => ?_) (fun h3 => ?_))
  refine May.chk ⟨?_, ?_, ?_, trivial⟩ fun c3 => May.clqe ⟨?_, ?_, ?_, trivial⟩ fun x4 e4 q4 => have q4 := q4.1; May.chk ?_ fun c4 => May.clqe trivial fun x5 e5 q5 => have q5 := q5.1; May.ret ⟨?_, trivial⟩; rotate_left 8
  refine May.chk ⟨?_, ?_, ?_, trivial⟩ fun c5 => May.clqe ⟨?_, ?_, ?_, trivial⟩ fun x6 e6 q6 => have q6 := q6.1; May.chk ?_ fun c6 => May.clqe trivial fun x7 e7 q7 => have q7 := q7.1; May.ret ⟨?_, trivial⟩; rotate_left 8
  refine May.chk ⟨?_, ?_, ?_, trivial⟩ fun c7 => May.clqe ⟨?_, ?_, ?_, trivial⟩ fun x8 e8 q8 => have q8 := q8.1; May.chk ?_ fun c8 => May.clqe trivial fun x9 e9 q9 => have q9 := q9.1; May.ret ⟨?_, trivial⟩
  all_goals try dsimp only
  all_goals first | with_reducible assumption | omega | (exact stL4 p0; done) | ((have := stl_rng q1 (nn g1); have := e2 (by omega); omega); done) | ((have := stl_rng q1 (nn fun g => h1 (.inl g)); omega); done) | (exact ml_f q1 e2 h1; done) | (exact q4.trans (fate_n h2); done) | (exact q6.trans (fate_o h3); done) | (exact q8.trans (fate_b p0 (by have := stl_rng q1 (nn fun g => h1 (.inl g)); omega) h2 h3); done) | (exact ml_y q1 e2 h1 h2 q5; done) | (exact ml_n h2 q7; done) | (exact ml_n h2 q9; done)
abbrev ZcG.S := Classical.choose ZcG.X
def ZcG.c : Ctr := fc 111 [false, false, false] ZcG.L ZcG ZcG.S
theorem ZcG.good : Good Try.prog ZcG.c := mkFG (fn := Try.f111) {sp := [(3, [[(33, 0)], [(33, 1)], [(33, 2)]])]} ZcG.X (consG ZcC.good (consG ZcD.good (consG ZcE.good (consG Zcw.good (consG Zct.good noG))))) (by kernel_rfl) (by kernel_rfl) (l0 (by kernel_rfl)) (c0 (by kernel_rfl)) fun s K => by kernel_rfl
def ZcH.L : FL := fCons (fC (cPtr 1 cLkO rfl)) (fCons (fAgg (cCons cInt (cCons cInt (cCons cInt (cCons (cArr false kPkts) (cCons (cArr false kBools) (cCons (cArr false kBools) (cCons (cArr false kInts) (cCons cInt (cNil)))))))))) (fCons (fSh sInt) (fNil)))
def ZcH : Lk × (Int × Int × Int × List Pkt × List Bool × List Bool × List Int × Int × Unit) × Int × Unit → FR (Bool × Lk) := fun (a0, (a1, a2, a3, a4, a5, a6, a7, a8, ()), a9, ()) => ⟨(StOk (⟨a1, a2, a3, a4, a5, a6, a7⟩ : St)) ∧ True, fun X => Call ZcF.X (a0, (a1, a2, a3, a4, a5, a6, a7, a8, ()), a9, ()) fun x1 => And (Imp ((!x1) = true) (X (false, a0))) (Imp ((!x1) = false) (Lt (wrap (a9 - 1)) fun x2 => And ((0 : Int) ≤ x2 ∧ x2 < (a0.st.live.length : Int)) (And ((x2).toNat < a0.st.live.length) (Call0 Zcv.X ((⟨a1, a2, a3, a4, a5, a6, a7⟩ : St), a9, ()) fun x3 => And (Imp ((x3 == 2) = true) (Call ZcB.X ((⟨a0.bank, a0.id, (⟨a0.st.way, a0.st.ver, a0.st.want, a0.st.sent, a0.st.live.set (x2).toNat false, a0.st.back, a0.st.got⟩ : St), a0.marks, a0.count, a0.knows⟩ : Lk), a9, ()) fun x4 => X (true, x4))) (Imp ((x3 == 2) = false) (X (true, (⟨a0.bank, a0.id, (⟨a0.st.way, a0.st.ver, a0.st.want, a0.st.sent, a0.st.live.set (x2).toNat false, a0.st.back, a0.st.got⟩ : St), a0.marks, a0.count, a0.knows⟩ : Lk)))))))), fun r => (LtQ a0 (⟨a1, a2, a3, a4, a5, a6, a7⟩ : St) a9 r.2 r.1) ∧ True, fun r => (.v (.c (.bool r.1)), [.raw 1 [.own 8 1 3, .own 9 1 3, .int r.2.bank.locked, .int r.2.id, .int r.2.st.way, .int r.2.st.ver, .int r.2.st.want, .own 10 7 49, .own 11 1 4, .own 12 1 4, .own 13 1 3, .mk r.2.marks 0, .int r.2.count, .own 14 1 3], .dead, .dead, .dead, .dead, .dead, .dead, .dead, .arr (.ints r.2.bank.own), .arr (.ints r.2.bank.notes), .arr (.pkts r.2.st.sent), .arr (.bools r.2.st.live), .arr (.bools r.2.st.back), .arr (.ints r.2.st.got), .arr (.ints r.2.knows)])⟩
theorem ZcH.X : XF ZcH := mkF (false, zLk) fun (a0, (a1, a2, a3, a4, a5, a6, a7, a8, ()), a9, ()) hp => by
  obtain ⟨p0, -⟩ := hp
  dsimp only [ZcH]
  refine May.call ⟨?_, trivial⟩ fun x1 q1 => have q1 := q1.1; May.iff (B.not (Iff.rfl)) (fun h1 => ?_) (fun h1 => ?_); rotate_left 1
  refine May.ret ⟨?_, trivial⟩; rotate_left 1
  refine May.lw ⟨?_, ?_⟩ fun x2 e2 => May.chk ?_ fun c1 => May.chk ?_ fun c2 => May.call0 trivial fun x3 q3 => have q3 := q3.1; May.iff (B.eq) (fun h2 => ?_) (fun h2 => ?_); rotate_left 4
  refine May.call ⟨?_, ?_, ?_, ?_, trivial⟩ fun x4 q4 => have q4 := q4.1; May.ret ⟨?_, trivial⟩; rotate_left 5
  refine May.ret ⟨?_, trivial⟩
  all_goals try dsimp only
  all_goals first | with_reducible assumption | omega | (exact lt_f q1 h1; done) | ((have := mtl_rng (q1.1 (nn h1)); omega); done) | (exact lt_n p0 q1 h1 e2 q3 h2; done) | (exact lt_y p0 q1 h1 e2 q3 h2 q4; done)
abbrev ZcH.S := Classical.choose ZcH.X
def ZcH.c : Ctr := fc 69 [false, false, false] ZcH.L ZcH ZcH.S
theorem ZcH.good : Good Try.prog ZcH.c := mkFG (fn := Try.f69) {tk := [1000, 1, 2, 3, 4, 5, 6, 7]} ZcH.X (consG ZcF.good (consG Zcv.good (consG ZcB.good noG))) (by kernel_rfl) (by kernel_rfl) (l0 (by kernel_rfl)) (c0 (by kernel_rfl)) fun s K => by kernel_rfl
def ZcI.L : FL := fCons (fC (cPtr 1 cLkO rfl)) (fCons (fAgg (cCons cInt (cCons cInt (cCons cInt (cCons (cArr false kPkts) (cCons (cArr false kBools) (cCons (cArr false kBools) (cCons (cArr false kInts) (cCons cInt (cNil)))))))))) (fCons (fSh sInt) (fNil)))
def ZcI : Lk × (Int × Int × Int × List Pkt × List Bool × List Bool × List Int × Int × Unit) × Int × Unit → FR (Bool × Lk) := fun (a0, (a1, a2, a3, a4, a5, a6, a7, a8, ()), a9, ()) => ⟨(StOk (⟨a1, a2, a3, a4, a5, a6, a7⟩ : St)) ∧ True, fun X => Call ZcG.X (a0, (a1, a2, a3, a4, a5, a6, a7, a8, ()), a9, ()) fun x1 => And (Imp ((!x1) = true) (X (false, a0))) (Imp ((!x1) = false) (Lt (wrap (a9 - 1)) fun x2 => And ((0 : Int) ≤ x2 ∧ x2 < (a0.st.live.length : Int)) (And ((x2).toNat < a0.st.live.length) (Call ZcB.X ((⟨a0.bank, a0.id, (⟨a0.st.way, a0.st.ver, a0.st.want, a0.st.sent, a0.st.live.set (x2).toNat false, a0.st.back, a0.st.got⟩ : St), a0.marks, a0.count, a0.knows⟩ : Lk), a9, ()) fun x3 => X (true, x3))))), fun r => (LlQ a0 (⟨a1, a2, a3, a4, a5, a6, a7⟩ : St) a8 a9 r.2 r.1) ∧ True, fun r => (.v (.c (.bool r.1)), [.raw 1 [.own 8 1 3, .own 9 1 3, .int r.2.bank.locked, .int r.2.id, .int r.2.st.way, .int r.2.st.ver, .int r.2.st.want, .own 10 7 49, .own 11 1 4, .own 12 1 4, .own 13 1 3, .mk r.2.marks 0, .int r.2.count, .own 14 1 3], .dead, .dead, .dead, .dead, .dead, .dead, .dead, .arr (.ints r.2.bank.own), .arr (.ints r.2.bank.notes), .arr (.pkts r.2.st.sent), .arr (.bools r.2.st.live), .arr (.bools r.2.st.back), .arr (.ints r.2.st.got), .arr (.ints r.2.knows)])⟩
theorem ZcI.X : XF ZcI := mkF (false, zLk) fun (a0, (a1, a2, a3, a4, a5, a6, a7, a8, ()), a9, ()) hp => by
  obtain ⟨p0, -⟩ := hp
  dsimp only [ZcI]
  refine May.call ⟨?_, trivial⟩ fun x1 q1 => have q1 := q1.1; May.iff (B.not (Iff.rfl)) (fun h1 => ?_) (fun h1 => ?_); rotate_left 1
  refine May.ret ⟨?_, trivial⟩; rotate_left 1
  refine May.lw ⟨?_, ?_⟩ fun x2 e2 => May.chk ?_ fun c1 => May.chk ?_ fun c2 => May.call ⟨?_, ?_, ?_, ?_, trivial⟩ fun x3 q3 => have q3 := q3.1; May.ret ⟨?_, trivial⟩
  all_goals try dsimp only
  all_goals first | with_reducible assumption | omega | (exact ll_f q1 h1; done) | ((have := mll_rng (q1.1 (nn h1)); omega); done) | (exact ll_y q1 h1 e2 q3; done)
abbrev ZcI.S := Classical.choose ZcI.X
def ZcI.c : Ctr := fc 77 [false, false, false] ZcI.L ZcI ZcI.S
theorem ZcI.good : Good Try.prog ZcI.c := mkFG (fn := Try.f77) {tk := [1000, 1, 2, 3, 4, 5, 6, 7]} ZcI.X (consG ZcG.good (consG ZcB.good noG)) (by kernel_rfl) (by kernel_rfl) (l0 (by kernel_rfl)) (c0 (by kernel_rfl)) fun s K => by kernel_rfl
def ZcJ.L : FL := fCons (fSh sCh) (fCons (fSh sSt) (fCons (fSh sInt) (fNil)))
def ZcJ : Ch × St × Int × Unit → FR (Ch × Bool) := fun (a0, a1, a2, ()) => ⟨(a0.lt) ∧ True, fun X => Lt (bif !(ZY.S a0) then true else !(ZO.S a1)) fun x1 => And (Imp (x1 = true) (X ((⟨0, (⟨[], [], 0⟩ : Bk), (⟨0, 0, 0, [], [], [], []⟩ : St), [], []⟩ : Ch), false))) (Imp (x1 = false) (Call ZbB.X (a0, ()) fun x2 => Call ZcH.X (x2, (a1.way, a1.ver, a1.want, a1.sent, a1.live, a1.back, a1.got, 0, ()), a2, ()) fun x3 => Call ZbE.X (x3.2, ()) fun x4 => X (x4, x3.1))), fun r => (RtQ a0 a1 a2 r.1 r.2) ∧ True, fun r => (.tup [.agg [.int r.1.id, .arr true (.ints r.1.bank.own), .arr true (.ints r.1.bank.notes), .int r.1.bank.locked, .int r.1.st.way, .int r.1.st.ver, .int r.1.st.want, .arr true (.pkts r.1.st.sent), .arr true (.bools r.1.st.live), .arr true (.bools r.1.st.back), .arr true (.ints r.1.st.got), .arr true (.sts r.1.past), .arr true (.ints r.1.knows)], .c (.bool r.2)], [])⟩
theorem ZcJ.X : XF ZcJ := mkF (zCh, false) fun (a0, a1, a2, ()) hp => by
  obtain ⟨p0, -⟩ := hp
  dsimp only [ZcJ]
  refine May.lp (B.or (B.not (Iff.rfl)) (B.not (implSt))) fun x1 e1 => May.iff (e1) (fun h1 => ?_) (fun h1 => ?_)
  refine May.ret ⟨?_, trivial⟩; rotate_left 1
  refine May.call ⟨?_, ?_, trivial⟩ fun x2 q2 => have q2 := q2.1; May.call ⟨?_, trivial⟩ fun x3 q3 => have q3 := q3.1; May.call ⟨?_, ?_, trivial⟩ fun x4 q4 => have q4 := q4.1; May.ret ⟨?_, trivial⟩
  all_goals try dsimp only
  all_goals first | with_reducible assumption | omega | (exact lt_sm p0; done) | (have := p0.2.2.1.1; omega; done) | (exact (rtOk' p0 h1).2; done) | (rw [(lt_cnt q3).1, (lt_cnt q3).2, q2]; exact of_cnt a0; done) | (rw [(lt_cnt q3).1, q2]; have := p0.2.2.1.1; show (a0.past.length : Int) ≤ _; omega; done) | (rw [q2] at q3; exact rt_impl (rtOk' p0 h1) q3 q4; done) | (exact rly_f fun g => h1.elim (fun h => h ((implChL p0).2 g.1)) fun h => h g.2; done)
abbrev ZcJ.S := Classical.choose ZcJ.X
def ZcJ.c : Ctr := fc 34 [true, true, false] ZcJ.L ZcJ ZcJ.S
theorem ZcJ.good : Good Try.prog ZcJ.c := mkFG (fn := Try.f34) {sh := [[none, some (.int, 3), some (.int, 3), none, none, none, none, some (.pkt, 49), some (.bool, 4), some (.bool, 4), some (.int, 3), some (.st, 29), some (.int, 3)], []], lst := true} ZcJ.X (consG ZY.good (consG ZO.good (consG ZbB.good (consG ZcH.good (consG ZbE.good noG))))) (by kernel_rfl) (by kernel_rfl) (l0 (by kernel_rfl)) (c0 (by kernel_rfl)) fun s K => by kernel_rfl
def ZcK.L : FL := fCons (fSh sCh) (fCons (fSh sSt) (fCons (fSh sInt) (fCons (fSh sInt) (fNil))))
def ZcK : Ch × St × Int × Int × Unit → FR (Ch × Bool) := fun (a0, a1, a2, a3, ()) => ⟨(a0.lt) ∧ True, fun X => Lt (bif !(ZY.S a0) then true else !(ZO.S a1)) fun x1 => Lt (bif bif x1 then true else decide (a2 < 1) then true else decide (a2 > 90)) fun x2 => And (Imp (x2 = true) (X ((⟨0, (⟨[], [], 0⟩ : Bk), (⟨0, 0, 0, [], [], [], []⟩ : St), [], []⟩ : Ch), false))) (Imp (x2 = false) (Call ZbB.X (a0, ()) fun x3 => Call ZcI.X (x3, (a1.way, a1.ver, a1.want, a1.sent, a1.live, a1.back, a1.got, a2, ()), a3, ()) fun x4 => Call ZbE.X (x4.2, ()) fun x5 => X (x5, x4.1))), fun r => (RlQ a0 a1 a2 a3 r.1 r.2) ∧ True, fun r => (.tup [.agg [.int r.1.id, .arr true (.ints r.1.bank.own), .arr true (.ints r.1.bank.notes), .int r.1.bank.locked, .int r.1.st.way, .int r.1.st.ver, .int r.1.st.want, .arr true (.pkts r.1.st.sent), .arr true (.bools r.1.st.live), .arr true (.bools r.1.st.back), .arr true (.ints r.1.st.got), .arr true (.sts r.1.past), .arr true (.ints r.1.knows)], .c (.bool r.2)], [])⟩
theorem ZcK.X : XF ZcK := mkF (zCh, false) fun (a0, a1, a2, a3, ()) hp => by
  obtain ⟨p0, -⟩ := hp
  dsimp only [ZcK]
  refine May.lp (B.or (B.not (Iff.rfl)) (B.not (implSt))) fun x1 e1 => May.lp (B.or (B.or (e1) (B.dec)) (B.dec)) fun x2 e2 => May.iff (e2) (fun h1 => ?_) (fun h1 => ?_)
  refine May.ret ⟨?_, trivial⟩; rotate_left 1
  refine May.call ⟨?_, ?_, trivial⟩ fun x3 q3 => have q3 := q3.1; May.call ⟨?_, trivial⟩ fun x4 q4 => have q4 := q4.1; May.call ⟨?_, ?_, trivial⟩ fun x5 q5 => have q5 := q5.1; May.ret ⟨?_, trivial⟩
  all_goals try dsimp only
  all_goals first | with_reducible assumption | omega | (exact lt_sm p0; done) | (have := p0.2.2.1.1; omega; done) | (exact (tlOk' p0 h1).1.2; done) | (rw [(ll_cnt q4).1, (ll_cnt q4).2, q3]; exact of_cnt a0; done) | (rw [(ll_cnt q4).1, q3]; have := p0.2.2.1.1; show (a0.past.length : Int) ≤ _; omega; done) | (rw [q3] at q4; exact rl_impl (tlOk' p0 h1) q4 q5; done) | (exact rly_f (tlF' p0 h1); done)
abbrev ZcK.S := Classical.choose ZcK.X
def ZcK.c : Ctr := fc 39 [true, true, false, false] ZcK.L ZcK ZcK.S
theorem ZcK.good : Good Try.prog ZcK.c := mkFG (fn := Try.f39) {sh := [[none, some (.int, 3), some (.int, 3), none, none, none, none, some (.pkt, 49), some (.bool, 4), some (.bool, 4), some (.int, 3), some (.st, 29), some (.int, 3)], []], lst := true} ZcK.X (consG ZY.good (consG ZO.good (consG ZbB.good (consG ZcI.good (consG ZbE.good noG))))) (by kernel_rfl) (by kernel_rfl) (l0 (by kernel_rfl)) (c0 (by kernel_rfl)) fun s K => by kernel_rfl
end
end Hw
end Go.Proofs.Ytloicplgckomdaa
