/- Laws of states: made by gen.py. -/
import Derived.Test.YtfboldbfbmmahaaE8
set_option linter.unusedVariables false
set_option linter.unusedSimpArgs false
set_option maxRecDepth 100000
set_option maxHeartbeats 400000
namespace Go.Proofs.Ytfboldbfbmmahaa
namespace Hw
open Go
attribute [local irreducible] evFn evBody wrap wxor
theorem sameSt {s : St} : impl_StateOk.S s = spec_StateOk.S s := by
  have h1 := @implSt s
  have h2 := @specSt s
  cases h : impl_StateOk.S s <;> cases h' : spec_StateOk.S s <;> simp_all
theorem stWant {s : St} (h : StOk s) : (s.way = 4 → s.want = s.ver + 1) ∧ (¬ s.way = 4 → s.want = 0) ∧ 1 ≤ s.ver ∧ s.ver ≤ 9 := by
  obtain ⟨h1, h2, _, _, _, _, _, _, h9⟩ := h
  split at h9 <;> omega
theorem stNot10 {s : St} : ¬ StOk ⟨s.way, s.ver, 10, s.sent, s.live, s.back, s.got⟩ := fun h => by
  obtain ⟨h1, h2, _, _, _, _, _, _, h9⟩ := h
  dsimp only at h9
  split at h9 <;> omega
theorem stK {s : St} (h : StOk s) {i : Int} (h0 : 0 ≤ i) (h1 : i < (s.sent.length : Int)) : PktOk (s.sent.getD i.toNat zPkt) ∧ (s.sent.getD i.toNat zPkt).seq = i + 1 ∧ (s.live.getD i.toNat false = true → s.back.getD i.toNat false = false) ∧ (s.sent.getD i.toNat zPkt).ver ≤ s.ver := by
  have := h.2.2.2.2.2.2.1 i.toNat (by omega)
  refine ⟨this.1, by have := this.2.1; omega, this.2.2.1, this.2.2.2⟩
theorem getD_set {α : Type} {l : List α} {i k : Nat} {x d : α} (hi : i < l.length) : (l.set i x).getD k d = if k = i then x else l.getD k d := by
  simp only [List.getD_eq_getElem?_getD, List.getElem?_set]
  by_cases h : k = i
  · subst h; simp [hi]
  · rw [if_neg (fun e => h e.symm), if_neg h]
theorem stGot3 {s : St} {i : Int} (h : StOk s) (h0 : 0 ≤ i) (h1 : i < 8) : ¬ StOk ⟨s.way, s.ver, s.want, s.sent, s.live, s.back, ([] ++ s.got).set i.toNat 3⟩ := fun h' => by
  have hl := h.2.2.2.2.2.1
  have := h'.2.2.2.2.2.2.2.1 i.toNat (by simp only [List.length_set, List.nil_append]; omega)
  simp only [List.nil_append] at this
  rw [getD_set (by omega), if_pos rfl] at this
  omega
theorem stGot1 {s : St} {i : Int} (h : StOk s) (h0 : 0 ≤ i) (h1 : i < 8) : StOk ⟨s.way, s.ver, s.want, s.sent, s.live, s.back, ([] ++ s.got).set i.toNat 1⟩ := by
  obtain ⟨a1, a2, a3, a4, a5, a6, a7, a8, a9⟩ := h
  refine ⟨a1, a2, a3, a4, a5, by simp only [List.length_set, List.nil_append]; exact a6, a7, fun k hk => ?_, a9⟩
  simp only [List.length_set, List.nil_append] at hk ⊢
  rw [getD_set (by omega)]
  split
  · omega
  · exact a8 k hk
theorem stBoth {s : St} (h : StOk s) (h0 : ¬ (s.sent.length : Int) = 0) : ¬ StOk ⟨s.way, s.ver, s.want, s.sent, ([] ++ s.live).set 0 true, ([] ++ s.back).set 0 true, s.got⟩ := fun h' => by
  have l1 := h.2.2.2.1
  have l2 := h.2.2.2.2.1
  have := (h'.2.2.2.2.2.2.1 0 (by show 0 < s.sent.length; omega)).2.2.1
  simp only [List.nil_append] at this
  rw [getD_set (by omega), getD_set (by omega)] at this
  exact absurd (this (if_pos rfl)) (by simp)
theorem stNew : StOk ⟨0, 1, 0, [], [], [], List.replicate 8 0⟩ := by
  refine ⟨by decide, by decide, by decide, rfl, rfl, rfl, fun k hk => absurd hk (Nat.not_lt_zero k), fun k hk => ?_, by decide⟩
  have : k < 8 := hk
  match k, this with
  | 0, _ => decide
  | 1, _ => decide
  | 2, _ => decide
  | 3, _ => decide
  | 4, _ => decide
  | 5, _ => decide
  | 6, _ => decide
  | 7, _ => decide
theorem getD_taked {α : Type} {l : List α} {n k : Nat} {d : α} (h : k < n) : ((l.take n).drop 0).getD k d = l.getD k d := by
  rw [List.drop_zero]
  simp only [List.getD_eq_getElem?_getD, List.getElem?_take, if_pos h]
theorem stLess {s : St} {i : Int} (h : StOk s) (h0 : 0 ≤ i) (h1 : i ≤ (s.sent.length : Int)) : StOk ⟨s.way, s.ver, s.want, (s.sent.take i.toNat).drop 0, (s.live.take i.toNat).drop 0, (s.back.take i.toNat).drop 0, s.got⟩ := by
  obtain ⟨a1, a2, a3, a4, a5, a6, a7, a8, a9⟩ := h
  have e1 : ((s.sent.take i.toNat).drop 0).length = i.toNat := by rw [List.drop_zero, List.length_take]; omega
  have e2 : ((s.live.take i.toNat).drop 0).length = i.toNat := by rw [List.drop_zero, List.length_take]; omega
  have e3 : ((s.back.take i.toNat).drop 0).length = i.toNat := by rw [List.drop_zero, List.length_take]; omega
  refine ⟨a1, a2, by show ((s.sent.take i.toNat).drop 0).length ≤ 8; omega, e2.trans e1.symm, e3.trans e1.symm, a6, fun k hk => ?_, a8, a9⟩
  have hk' : k < i.toNat := by rw [← e1]; exact hk
  show PktOk (((s.sent.take i.toNat).drop 0).getD k zPkt) ∧ (((s.sent.take i.toNat).drop 0).getD k zPkt).seq = k + 1 ∧ (((s.live.take i.toNat).drop 0).getD k false = true → ((s.back.take i.toNat).drop 0).getD k false = false) ∧ (((s.sent.take i.toNat).drop 0).getD k zPkt).ver ≤ s.ver
  rw [getD_taked hk', getD_taked hk', getD_taked hk']
  exact a7 k (by omega)
theorem stTwice {s : St} (h : StOk s) (h0 : ¬ (s.sent.length : Int) = 0) : ¬ StOk ⟨s.way, s.ver, s.want, [] ++ s.sent ++ [s.sent.getD 0 zPkt], [] ++ s.live ++ [false], [] ++ s.back ++ [false], s.got⟩ := fun h' => by
  have h1 := (h.2.2.2.2.2.2.1 0 (by omega)).2.1
  have h2 := (h'.2.2.2.2.2.2.1 s.sent.length (by show s.sent.length < (s.sent ++ [s.sent.getD 0 zPkt]).length; simp)).2.1
  have h3 : (([] ++ s.sent ++ [s.sent.getD 0 zPkt]).getD s.sent.length zPkt) = s.sent.getD 0 zPkt := getD_at (by simp)
  dsimp only at h2
  rw [h3] at h2
  omega

/-! ### laws.FnStateForm -/
abbrev laws_FnStateForm_l8.P (x8_0 : Bool) (x8_1 : St) (x8_2 : Int) : Prop := (0 ≤ x8_2) ∧ ((x8_1.sent.length : Int) ≤ 9223372036854775807) ∧ (StOk x8_1)
abbrev laws_FnStateForm_l8.Q (x8_0 : Bool) (x8_1 : St) (x8_2 : Int) (r : Nat × Bool × Unit) : Prop := (¬ r.1 = 0)
def laws_FnStateForm_l8.M (x8_0 : Bool) (x8_1 : St) (x8_2 : Int) : Nat := ((x8_1.sent.length : Int) - x8_2).toNat
def laws_FnStateForm_l8.L : FL := fCons (fC cBool) (fCons (fC (cPtr 1 (cStE true) rfl)) (fCons (fC cInt) (fNil)))
def laws_FnStateForm_l8.o0 (x8_0 : Bool) (x8_1 : St) (x8_2 : Int) (r : Nat × Bool × Unit) : Ex × List FV × List Blk := (.ret, [.c (.bool r.2.1)], [])
def laws_FnStateForm_l8.o1 (x8_0 : Bool) (x8_1 : St) (x8_2 : Int) (r : Nat × Bool × Unit) : Ex × List FV × List Blk := (.exit 0, [.c (.ptr 0 0)], [.raw 1 [.int x8_1.way, .int x8_1.ver, .int x8_1.want, .arr true (.pkts x8_1.sent), .arr true (.bools x8_1.live), .arr true (.bools x8_1.back), .arr true (.ints x8_1.got)]])
def laws_FnStateForm_l8.o (x8_0 : Bool) (x8_1 : St) (x8_2 : Int) (r : Nat × Bool × Unit) : Ex × List FV × List Blk := pickAlt [(Nat.beq r.1 0, laws_FnStateForm_l8.o0 x8_0 x8_1 x8_2 r)] (laws_FnStateForm_l8.o1 x8_0 x8_1 x8_2 r)
def laws_FnStateForm_l8.f (x8_0 : Bool) (x8_1 : St) (x8_2 : Int) (X : (laws_FnStateForm_l8.L.α ⊕ (Ex × List FV × List Blk) → Prop)) : Prop := And (Imp ((decide (x8_2 < (x8_1.sent.length : Int))) = true) (And ((0 : Int) ≤ x8_2 ∧ x8_2 < (x8_1.sent.length : Int)) (Lt (decide ((x8_1.sent.getD (x8_2).toNat zPkt).ver > x8_1.ver)) fun x4 => And (Imp (And (x4 = false) (True)) ((0 : Int) ≤ x8_2 ∧ x8_2 < (x8_1.live.length : Int))) (And (Imp (And ((x8_1.live.getD (x8_2).toNat false) = true) (And (x4 = false) (True))) ((0 : Int) ≤ x8_2 ∧ x8_2 < (x8_1.back.length : Int))) (Lt (bif x8_1.live.getD (x8_2).toNat false then x8_1.back.getD (x8_2).toNat false else false) fun x5 => And (Imp (And ((bif x4 then true else x5) = false) (True)) ((0 : Int) ≤ x8_2 ∧ x8_2 < (x8_1.sent.length : Int))) (Lt (wrap (x8_2 + 1)) fun x6 => Lt (bif bif x4 then true else x5 then true else (x8_1.sent.getD (x8_2).toNat zPkt).seq != x6) fun x7 => And (Imp (And (x7 = false) (True)) ((0 : Int) ≤ x8_2 ∧ x8_2 < (x8_1.sent.length : Int))) (Lt (!(impl_PacketOk.S (x8_1.sent.getD (x8_2).toNat zPkt))) fun x8 => And (Imp ((bif x7 then true else x8) = true) (X (.inr (.ret, [.c (.bool false)], [])))) (Imp ((bif x7 then true else x8) = false) (X (.inl (x8_0, (x8_1, (x6, ()))))))))))))) (Imp ((decide (x8_2 < (x8_1.sent.length : Int))) = false) (X (.inr (.exit 0, [.c (.ptr 0 0)], [.raw 1 [.int x8_1.way, .int x8_1.ver, .int x8_1.want, .arr true (.pkts x8_1.sent), .arr true (.bools x8_1.live), .arr true (.bools x8_1.back), .arr true (.ints x8_1.got)]]))))
def laws_FnStateForm_l8.d (S : laws_FnStateForm_l8.L.α → Nat × Bool × Unit) : LDat := ldat 8 [2, 3, 5] [] laws_FnStateForm_l8.L (fun s => laws_FnStateForm_l8.P s.1 s.2.1 s.2.2.1) (fun s => [(Nat.beq (S s).1 0, laws_FnStateForm_l8.o0 s.1 s.2.1 s.2.2.1 (S s))]) (fun s => laws_FnStateForm_l8.o1 s.1 s.2.1 s.2.2.1 (S s)) (fun s => laws_FnStateForm_l8.M s.1 s.2.1 s.2.2.1) 0 (fun e => match e with | .ret => [2] | _ => [3]) (fun _ => [])
theorem laws_FnStateForm_l8.w (S : laws_FnStateForm_l8.L.α → Nat × Bool × Unit) (x8_0 : Bool) (x8_1 : St) (x8_2 : Int) : evBody (envC [spec_DrawStateOk.c, impl_StateOk.c, spec_StateOk.c, impl_PacketOk.c] [] []) [] (bodyAt Try.f7 0) (laws_FnStateForm_l8.d S) (x8_0, (x8_1, (x8_2, ()))) = laws_FnStateForm_l8.f x8_0 x8_1 x8_2 (lpx (laws_FnStateForm_l8.d S).pre (laws_FnStateForm_l8.d S).μ (laws_FnStateForm_l8.d S).out (x8_0, (x8_1, (x8_2, ())))) := by kernel_rfl
theorem laws_FnStateForm_l8.x (x8_0 : Bool) (x8_1 : St) (x8_2 : Int) (hp : laws_FnStateForm_l8.P x8_0 x8_1 x8_2) : May (R := laws_FnStateForm_l8.L.α ⊕ (Nat × Bool × Unit)) (lpq (fun s => laws_FnStateForm_l8.P s.1 s.2.1 s.2.2.1) (fun s => laws_FnStateForm_l8.M s.1 s.2.1 s.2.2.1) (fun s => laws_FnStateForm_l8.Q s.1 s.2.1 s.2.2.1) (fun s => laws_FnStateForm_l8.o s.1 s.2.1 s.2.2.1) (x8_0, (x8_1, (x8_2, ())))) (lpo (fun s => laws_FnStateForm_l8.o s.1 s.2.1 s.2.2.1) (x8_0, (x8_1, (x8_2, ())))) (laws_FnStateForm_l8.f x8_0 x8_1 x8_2) := by
  obtain ⟨p0, p1, p2⟩ := hp
  have l1 := p2.2.2.2.1
  have l2 := p2.2.2.2.2.1
  delta laws_FnStateForm_l8.f
  refine May.iff (B.dec) (fun h1 => ?_) (fun h1 => ?_)
  refine May.chk ?_ fun c1 => May.lp (B.dec) fun x4 e4 => May.chk (fun hπ => have g1 := B.neg (e4) hπ.1; ?_) fun c2 => May.chk (fun hπ => have g1 := Iff.mp (Iff.rfl) hπ.1; have g2 := B.neg (e4) hπ.2.1; ?_) fun c3 => May.lp (B.and (Iff.rfl) (Iff.rfl)) fun x5 e5 => May.chk (fun hπ => have g1 := B.neg (B.or (e4) (e5)) hπ.1; ?_) fun c4 => May.lwi fun x6 e6 => May.lp (B.or (B.or (e4) (e5)) (B.ne)) fun x7 e7 => ?_; rotate_left 4
  refine May.chk (fun hπ => have g1 := B.neg (e7) hπ.1; ?_) fun c5 => May.lp (B.not (implPkt)) fun x8 e8 => May.iff (B.or (e7) (e8)) (fun h2 => ?_) (fun h2 => ?_); rotate_left 1
  refine ⟨.inr (0, (false, ())), (show laws_FnStateForm_l8.Q x8_0 x8_1 x8_2 (0, (false, ())) from ?_), fun X h => h⟩; rotate_left 1
  refine ⟨.inl (x8_0, (x8_1, (x6, ()))), ⟨⟨?_, ?_, ?_⟩, ?_, ?_, fun r => rfl⟩, fun X h => h⟩; rotate_left 5
  refine ⟨.inr (1, (false, ())), (show laws_FnStateForm_l8.Q x8_0 x8_1 x8_2 (1, (false, ())) from ?_), fun X h => h⟩
  all_goals try dsimp only
  all_goals first | with_reducible assumption | omega | exact fun _ q => q | (unfold laws_FnStateForm_l8.M; omega) | (have hk := stK p2 (i := x8_2) (by omega) (by omega); grind; done) | rfl | assumption | (simp only [List.length_append, List.length_cons, List.length_nil, List.length_set, List.length_replicate, Int.natCast_add, Int.natCast_one] at *; omega) | grind
theorem laws_FnStateForm_l8.X : ∃ S : laws_FnStateForm_l8.L.α → Nat × Bool × Unit, ∀ s, laws_FnStateForm_l8.P s.1 s.2.1 s.2.2.1 → laws_FnStateForm_l8.Q s.1 s.2.1 s.2.2.1 (S s) ∧ laws_FnStateForm_l8.f s.1 s.2.1 s.2.2.1 (lpx (fun s => laws_FnStateForm_l8.P s.1 s.2.1 s.2.2.1) (fun s => laws_FnStateForm_l8.M s.1 s.2.1 s.2.2.1) (fun s => laws_FnStateForm_l8.o s.1 s.2.1 s.2.2.1 (S s)) s) := loopS (0, (false, ())) fun s => laws_FnStateForm_l8.x s.1 s.2.1 s.2.2.1
noncomputable def laws_FnStateForm_l8.R (x8_0 : Bool) (x8_1 : St) (x8_2 : Int) : Nat × Bool × Unit := Classical.choose laws_FnStateForm_l8.X (x8_0, (x8_1, (x8_2, ())))
theorem laws_FnStateForm_l8.q (x8_0 : Bool) (x8_1 : St) (x8_2 : Int) (hp : laws_FnStateForm_l8.P x8_0 x8_1 x8_2) : laws_FnStateForm_l8.Q x8_0 x8_1 x8_2 (laws_FnStateForm_l8.R x8_0 x8_1 x8_2) := (Classical.choose_spec laws_FnStateForm_l8.X (x8_0, (x8_1, (x8_2, ()))) hp).1
noncomputable def laws_FnStateForm_l8.k : LCtr := (laws_FnStateForm_l8.d (fun s => laws_FnStateForm_l8.R s.1 s.2.1 s.2.2.1)).ctr
theorem laws_FnStateForm_l8.g (hG : ∀ c ∈ [spec_DrawStateOk.c, impl_StateOk.c, spec_StateOk.c, impl_PacketOk.c], Good Try.prog c) : LGood Try.prog Try.f7.ntmps laws_FnStateForm_l8.k (bodyAt Try.f7 0) := lgoodC (sp := []) (ct := []) (LL := []) hG (by kernel_rfl) (by rw [show loopsOf (bodyAt Try.f7 0) = [] from by kernel_rfl]; exact noL rfl) (consC' (bs := []) (by kernel_rfl) noC) fun s hp => Eq.mpr (laws_FnStateForm_l8.w (fun s => laws_FnStateForm_l8.R s.1 s.2.1 s.2.2.1) s.1 s.2.1 s.2.2.1) (Classical.choose_spec laws_FnStateForm_l8.X s hp).2
def laws_FnStateForm.enc (a0 : List Int) (r : Bool) : AV × List Blk := (.v (.c (.bool r)), [])
abbrev laws_FnStateForm.P (a0 : List Int) : Prop := (∀ k, 0 ≤ a0.getD k 0 ∧ a0.getD k 0 ≤ 255)
abbrev laws_FnStateForm.Q (a0 : List Int) (r : Bool) : Prop := (r = true)
def laws_FnStateForm.L : FL := fCons (fC (cArr true kU8s)) (fNil)
def laws_FnStateForm.f (a0 : List Int) (X : AV × List Blk → Prop) : Prop := And (Imp ((decide ((a0.length : Int) > 1048576)) = true) (X (.v (.c (.bool true)), []))) (Imp ((decide ((a0.length : Int) > 1048576)) = false) (And (spec_DrawStateOk.P a0) (Lt ((spec_DrawStateOk.S a0)) fun x1 => Lt (!(((impl_StateOk.S x1) : Bool) == (spec_StateOk.S x1))) fun x2 => And (Imp ((bif x2 then true else !(impl_StateOk.S x1)) = true) (Lt (((impl_StateOk.S x1) : Bool) == (spec_StateOk.S x1)) fun x3 => X (.v (.c (.bool x3)), []))) (Imp ((bif x2 then true else !(impl_StateOk.S x1)) = false) (And (laws_FnStateForm_l8.P false x1 0) (Lt (laws_FnStateForm_l8.R false x1 0) fun x9 => And (Imp (Nat.beq x9.1 0 = true) (X (.v (.c (.bool x9.2.1)), []))) (Imp (Nat.beq x9.1 0 = false) (And (Imp ((x1.way == 4) = true) (Lt (wrap (x1.ver + 1)) fun x10 => Lt (impl_StateOk.S (⟨x1.way, x1.ver, 10, x1.sent, x1.live, x1.back, x1.got⟩ : St)) fun x11 => X (.v (.c (.bool (bif x1.want == x10 then !x11 else false))), []))) (Imp ((x1.way == 4) = false) (Lt (impl_StateOk.S (⟨x1.way, x1.ver, 10, x1.sent, x1.live, x1.back, x1.got⟩ : St)) fun x12 => X (.v (.c (.bool (bif x1.want == 0 then !x12 else false))), [])))))))))))
theorem laws_FnStateForm.w (a0 : List Int) (K : AV → List Blk → Prop) : evFn (envC [spec_DrawStateOk.c, impl_StateOk.c, spec_StateOk.c, impl_PacketOk.c] [] []) [laws_FnStateForm_l8.k] [] [] Try.f7 (laws_FnStateForm.L.inp (a0, ())).1 (laws_FnStateForm.L.inp (a0, ())).2 K = laws_FnStateForm.f a0 (fun v => K v.1 v.2) := by kernel_rfl
theorem laws_FnStateForm.x (a0 : List Int) (hp : laws_FnStateForm.P a0) : May (laws_FnStateForm.Q a0) (laws_FnStateForm.enc a0) (laws_FnStateForm.f a0) := by
  have p0 := hp
  delta laws_FnStateForm.f
  refine May.iff (B.dec) (fun h1 => ?_) (fun h1 => ?_)
  refine ⟨(true), ?_, fun X h => h⟩; rotate_left 1
  refine May.chk ?_ fun c1 => May.lq (spec_DrawStateOk.Q a0) (spec_DrawStateOk.q a0 ?_) fun x1 q1 => May.lp (B.not (B.beq)) fun x2 e2 => May.iff (B.or (e2) (B.not (implSt))) (fun h2 => ?_) (fun h2 => ?_); rotate_left 2
  refine May.lp (B.beq) fun x3 e3 => ⟨(x3), ?_, fun X h => h⟩; rotate_left 1
  refine May.chk ⟨?_, ?_, ?_⟩ fun c2 => May.lq (laws_FnStateForm_l8.Q false x1 0) (laws_FnStateForm_l8.q false x1 0 c2) fun x9 q9 => May.iff B.nbeq (fun h3 => ?_) (fun h3 => ?_); rotate_left 3
  refine ⟨(x9.2.1), ?_, fun X h => h⟩; rotate_left 1
  refine May.iff (B.eq) (fun h4 => ?_) (fun h4 => ?_)
  refine May.lw ⟨?_, ?_⟩ fun x10 e10 => May.lp (implSt) fun x11 e11 => ⟨(bif x1.want == x10 then !x11 else false), ?_, fun X h => h⟩; rotate_left 3
  refine May.lp (implSt) fun x12 e12 => ⟨(bif x1.want == 0 then !x12 else false), ?_, fun X h => h⟩
  all_goals try dsimp only
  all_goals first | with_reducible assumption | omega | (exact e3.2 sameSt; done) | (have hw := stWant (s := x1) (by grind); have hn := @stNot10 x1; have hs := @sameSt x1; grind; done) | (have hw := (show StOk x1 by grind); unfold StOk at hw; grind; done) | rfl | assumption | (simp only [List.length_append, List.length_cons, List.length_nil, List.length_set, List.length_replicate, Int.natCast_add, Int.natCast_one] at *; omega) | grind
theorem laws_FnStateForm.X : ∃ S : laws_FnStateForm.L.α → Bool, ∀ s, laws_FnStateForm.P s.1 → laws_FnStateForm.Q s.1 (S s) ∧ ∀ X, X (laws_FnStateForm.enc s.1 (S s)) → laws_FnStateForm.f s.1 X := mayS (false) fun s => laws_FnStateForm.x s.1
noncomputable def laws_FnStateForm.S (a0 : List Int) : Bool := Classical.choose laws_FnStateForm.X (a0, ())
theorem laws_FnStateForm.q (a0 : List Int) (hp : laws_FnStateForm.P a0) : laws_FnStateForm.Q a0 (laws_FnStateForm.S a0) := (Classical.choose_spec laws_FnStateForm.X (a0, ()) hp).1
noncomputable def laws_FnStateForm.c : Ctr := hctr 7 [false] laws_FnStateForm.L (some fun s => laws_FnStateForm.P s.1) (fun s => laws_FnStateForm.enc s.1 (laws_FnStateForm.S s.1))
theorem laws_FnStateForm.good : Good Try.prog laws_FnStateForm.c :=
  hgoodC (sh := []) (tk := []) (sp := []) (ct := []) (LL := [laws_FnStateForm_l8.k]) (consG spec_DrawStateOk.good (consG impl_StateOk.good (consG spec_StateOk.good (consG impl_PacketOk.good noG)))) (fn := Try.f7) (by kernel_rfl) (by kernel_rfl) (by rw [show loopsOf (bodyOf Try.f7) = [(bodyAt Try.f7 0)] from by kernel_rfl]; exact consL (l := laws_FnStateForm_l8.k) (by kernel_rfl) (laws_FnStateForm_l8.g (consG spec_DrawStateOk.good (consG impl_StateOk.good (consG spec_StateOk.good (consG impl_PacketOk.good noG))))) (noL rfl)) (consC' (bs := []) (by kernel_rfl) noC) fun s hp => Eq.mpr (laws_FnStateForm.w s.1 (fun r bs' => And (r = (laws_FnStateForm.c.out s).1) (bs' = (laws_FnStateForm.c.out s).2))) ((Classical.choose_spec laws_FnStateForm.X s (hp _ rfl)).2 _ ⟨rfl, rfl⟩)
/-! ### laws.FnStateGot2 -/
def laws_FnStateGot2.enc (a0 : List Int) (a1 : List Int) (r : Bool) : AV × List Blk := (.v (.c (.bool r)), [])
abbrev laws_FnStateGot2.P (a0 : List Int) (a1 : List Int) : Prop := (∀ k, 0 ≤ a0.getD k 0 ∧ a0.getD k 0 ≤ 255)
abbrev laws_FnStateGot2.Q (a0 : List Int) (a1 : List Int) (r : Bool) : Prop := (r = true)
def laws_FnStateGot2.L : FL := fCons (fC (cArr true kU8s)) (fCons (fC (cArr true kU8s)) (fNil))
def laws_FnStateGot2.f (a0 : List Int) (a1 : List Int) (X : AV × List Blk → Prop) : Prop := Lt (bif decide ((a0.length : Int) > 1048576) then true else decide ((a1.length : Int) > 1048576)) fun x1 => And (Imp (x1 = true) (X (.v (.c (.bool true)), []))) (Imp (x1 = false) (And (spec_DrawStateOk.P a0) (Lt ((spec_DrawStateOk.S a0)) fun x2 => Lt (!(((impl_StateOk.S x2) : Bool) == (spec_StateOk.S x2))) fun x3 => And (Imp ((bif x3 then true else !(impl_StateOk.S x2)) = true) (Lt (((impl_StateOk.S x2) : Bool) == (spec_StateOk.S x2)) fun x4 => X (.v (.c (.bool x4)), []))) (Imp ((bif x3 then true else !(impl_StateOk.S x2)) = false) (And ((8 : Int) ≠ 0) (Lt ((a1.length : Int).tmod 8) fun x5 => And (([] ++ x2.got).length ≤ 4294967296) (And ((0 : Int) ≤ x5 ∧ x5 < (([] ++ x2.got).length : Int)) (And ((x5).toNat < ([] ++ x2.got).length) (And (([] ++ x2.got).length ≤ 4294967296) (And ((0 : Int) ≤ x5 ∧ x5 < (([] ++ x2.got).length : Int)) (And ((x5).toNat < ([] ++ x2.got).length) (And (Imp (((x2.sent.length : Int) == 0) = true) (Lt (impl_StateOk.S (⟨x2.way, x2.ver, x2.want, x2.sent, x2.live, x2.back, ([] ++ x2.got).set (x5).toNat 3⟩ : St)) fun x6 => Lt (impl_StateOk.S (⟨x2.way, x2.ver, x2.want, x2.sent, x2.live, x2.back, ([] ++ x2.got).set (x5).toNat 1⟩ : St)) fun x7 => X (.v (.c (.bool (bif !x6 then x7 else false))), []))) (Imp (((x2.sent.length : Int) == 0) = false) (And (([] ++ x2.live).length ≤ 4294967296) (And (([] ++ x2.back).length ≤ 4294967296) (And ((0 : Int) ≤ 0 ∧ 0 < (([] ++ x2.live).length : Int)) (And (0 < ([] ++ x2.live).length) (And ((0 : Int) ≤ 0 ∧ 0 < (([] ++ x2.back).length : Int)) (And (0 < ([] ++ x2.back).length) (Lt (impl_StateOk.S (⟨x2.way, x2.ver, x2.want, x2.sent, x2.live, x2.back, ([] ++ x2.got).set (x5).toNat 3⟩ : St)) fun x8 => Lt (impl_StateOk.S (⟨x2.way, x2.ver, x2.want, x2.sent, x2.live, x2.back, ([] ++ x2.got).set (x5).toNat 1⟩ : St)) fun x9 => Lt (impl_StateOk.S (⟨x2.way, x2.ver, x2.want, x2.sent, ([] ++ x2.live).set 0 true, ([] ++ x2.back).set 0 true, x2.got⟩ : St)) fun x10 => Lt (bif bif !x8 then x9 else false then !x10 else false) fun x11 => X (.v (.c (.bool x11)), [])))))))))))))))))))))
theorem laws_FnStateGot2.w (a0 : List Int) (a1 : List Int) (K : AV → List Blk → Prop) : evFn (envC [spec_DrawStateOk.c, impl_StateOk.c, spec_StateOk.c] [] []) [] [] [] Try.f8 (laws_FnStateGot2.L.inp (a0, (a1, ()))).1 (laws_FnStateGot2.L.inp (a0, (a1, ()))).2 K = laws_FnStateGot2.f a0 a1 (fun v => K v.1 v.2) := by kernel_rfl
theorem laws_FnStateGot2.x (a0 : List Int) (a1 : List Int) (hp : laws_FnStateGot2.P a0 a1) : May (laws_FnStateGot2.Q a0 a1) (laws_FnStateGot2.enc a0 a1) (laws_FnStateGot2.f a0 a1) := by
  have p0 := hp
  delta laws_FnStateGot2.f
  refine May.lp (B.or (B.dec) (B.dec)) fun x1 e1 => May.iff (e1) (fun h1 => ?_) (fun h1 => ?_)
  refine ⟨(true), ?_, fun X h => h⟩; rotate_left 1
  refine May.chk ?_ fun c1 => May.lq (spec_DrawStateOk.Q a0) (spec_DrawStateOk.q a0 ?_) fun x2 q2 => May.lp (B.not (B.beq)) fun x3 e3 => May.iff (B.or (e3) (B.not (implSt))) (fun h2 => ?_) (fun h2 => ?_); rotate_left 2
  refine May.lp (B.beq) fun x4 e4 => ⟨(x4), ?_, fun X h => h⟩; rotate_left 1
  refine May.chk ?_ fun c2 => May.lm ?_ fun x5 e5 => May.chk ?_ fun c3 => May.chk ?_ fun c4 => May.chk ?_ fun c5 => May.chk ?_ fun c6 => May.chk ?_ fun c7 => May.chk ?_ fun c8 => ?_; rotate_left 8
  refine May.iff (B.eq) (fun h3 => ?_) (fun h3 => ?_)
  refine May.lp (implSt) fun x6 e6 => May.lp (implSt) fun x7 e7 => ⟨(bif !x6 then x7 else false), ?_, fun X h => h⟩; rotate_left 1
  refine May.chk ?_ fun c9 => May.chk ?_ fun c10 => May.chk ?_ fun c11 => May.chk ?_ fun c12 => May.chk ?_ fun c13 => May.chk ?_ fun c14 => May.lp (implSt) fun x8 e8 => May.lp (implSt) fun x9 e9 => ?_; rotate_left 6
  refine May.lp (implSt) fun x10 e10 => May.lp (B.and (B.and (B.not (e8)) (e9)) (B.not (e10))) fun x11 e11 => ⟨(x11), ?_, fun X h => h⟩
  all_goals try dsimp only
  all_goals first | with_reducible assumption | omega | (exact e4.2 sameSt; done) | (have hs := @sameSt x2; have ho := (show StOk x2 by grind); exact e11.2 ⟨⟨stGot3 ho (by omega) (by omega), stGot1 ho (by omega) (by omega)⟩, stBoth ho (by assumption)⟩; done) | (have hs := @sameSt x2; have ho := (show StOk x2 by grind); have g1 := stGot3 ho (i := x5) (by omega) (by omega); have g2 := stGot1 ho (i := x5) (by omega) (by omega); grind; done) | (have hs := @sameSt x2; have ho := (show StOk x2 by grind); have l1 := ho.2.2.2.1; have l2 := ho.2.2.2.2.1; (try simp only [List.length_append, List.length_nil]); omega; done) | rfl | assumption | (simp only [List.length_append, List.length_cons, List.length_nil, List.length_set, List.length_replicate, Int.natCast_add, Int.natCast_one] at *; omega) | grind [SZ]
theorem laws_FnStateGot2.X : ∃ S : laws_FnStateGot2.L.α → Bool, ∀ s, laws_FnStateGot2.P s.1 s.2.1 → laws_FnStateGot2.Q s.1 s.2.1 (S s) ∧ ∀ X, X (laws_FnStateGot2.enc s.1 s.2.1 (S s)) → laws_FnStateGot2.f s.1 s.2.1 X := mayS (false) fun s => laws_FnStateGot2.x s.1 s.2.1
noncomputable def laws_FnStateGot2.S (a0 : List Int) (a1 : List Int) : Bool := Classical.choose laws_FnStateGot2.X (a0, (a1, ()))
theorem laws_FnStateGot2.q (a0 : List Int) (a1 : List Int) (hp : laws_FnStateGot2.P a0 a1) : laws_FnStateGot2.Q a0 a1 (laws_FnStateGot2.S a0 a1) := (Classical.choose_spec laws_FnStateGot2.X (a0, (a1, ())) hp).1
noncomputable def laws_FnStateGot2.c : Ctr := hctr 8 [false, false] laws_FnStateGot2.L (some fun s => laws_FnStateGot2.P s.1 s.2.1) (fun s => laws_FnStateGot2.enc s.1 s.2.1 (laws_FnStateGot2.S s.1 s.2.1))
theorem laws_FnStateGot2.good : Good Try.prog laws_FnStateGot2.c :=
  hgoodC (sh := []) (tk := []) (sp := []) (ct := []) (LL := []) (consG spec_DrawStateOk.good (consG impl_StateOk.good (consG spec_StateOk.good noG))) (fn := Try.f8) (by kernel_rfl) (by kernel_rfl) (by rw [show loopsOf (bodyOf Try.f8) = [] from by kernel_rfl]; exact noL rfl) (consC' (bs := []) (by kernel_rfl) noC) fun s hp => Eq.mpr (laws_FnStateGot2.w s.1 s.2.1 (fun r bs' => And (r = (laws_FnStateGot2.c.out s).1) (bs' = (laws_FnStateGot2.c.out s).2))) ((Classical.choose_spec laws_FnStateGot2.X s (hp _ rfl)).2 _ ⟨rfl, rfl⟩)
/-! ### impl.StateNew -/
def impl_StateNew.enc  (r : St) : AV × List Blk := (.v (.agg [.int r.way, .int r.ver, .int r.want, .own 0 7 49, .own 1 1 4, .own 2 1 4, .own 3 1 3]), [.arr (.pkts r.sent), .arr (.bools r.live), .arr (.bools r.back), .arr (.ints r.got)])
abbrev impl_StateNew.P  : Prop := True
abbrev impl_StateNew.Q  (r : St) : Prop := (r = ⟨0, 1, 0, [], [], [], List.replicate 8 0⟩)
def impl_StateNew.L : FL := fNil
def impl_StateNew.f  (X : AV × List Blk → Prop) : Prop := And ((8 : Int) = 8 ∧ (0 : Int) ≤ 8 ∧ (8 : Int) ≤ 4294967296) (X (.v (.agg [.int 0, .int 1, .int 0, .own 0 7 49, .own 1 1 4, .own 2 1 4, .own 3 1 3]), [.arr (.pkts []), .arr (.bools []), .arr (.bools []), .arr (.ints (List.replicate 8 0))]))
theorem impl_StateNew.w  (K : AV → List Blk → Prop) : evFn (envC [] [] []) [] [[none, none, none, some (.pkt, 49), some (.bool, 4), some (.bool, 4), some (.int, 3)]] [] Try.f31 (impl_StateNew.L.inp ()).1 (impl_StateNew.L.inp ()).2 K = impl_StateNew.f  (fun v => K v.1 v.2) := by kernel_rfl
theorem impl_StateNew.x  (hp : impl_StateNew.P ) : May (impl_StateNew.Q ) (impl_StateNew.enc ) (impl_StateNew.f ) := by
  delta impl_StateNew.f
  refine May.chk ?_ fun c1 => ⟨((⟨0, 1, 0, [], [], [], List.replicate 8 0⟩ : St)), ?_, fun X h => h⟩
  all_goals try dsimp only
  all_goals first | with_reducible assumption | omega | rfl | assumption | (simp only [List.length_append, List.length_cons, List.length_nil, List.length_set, List.length_replicate, Int.natCast_add, Int.natCast_one] at *; omega) | grind
theorem impl_StateNew.X : ∃ S : impl_StateNew.L.α → St, ∀ s, impl_StateNew.P  → impl_StateNew.Q  (S s) ∧ ∀ X, X (impl_StateNew.enc  (S s)) → impl_StateNew.f  X := mayS (zSt) fun s => impl_StateNew.x 
noncomputable def impl_StateNew.S  : St := Classical.choose impl_StateNew.X ()
theorem impl_StateNew.q  : impl_StateNew.Q  (impl_StateNew.S ) := (Classical.choose_spec impl_StateNew.X () trivial).1
noncomputable def impl_StateNew.c : Ctr := hctr 31 [] impl_StateNew.L none (fun s => impl_StateNew.enc  (impl_StateNew.S ))
theorem impl_StateNew.good : Good Try.prog impl_StateNew.c :=
  hgoodC (sh := [[none, none, none, some (.pkt, 49), some (.bool, 4), some (.bool, 4), some (.int, 3)]]) (tk := []) (sp := []) (ct := []) (LL := []) noG (fn := Try.f31) (by kernel_rfl) (by kernel_rfl) (by rw [show loopsOf (bodyOf Try.f31) = [] from by kernel_rfl]; exact noL rfl) (consC' (bs := []) (by kernel_rfl) noC) fun s hp => Eq.mpr (impl_StateNew.w  (fun r bs' => And (r = (impl_StateNew.c.out s).1) (bs' = (impl_StateNew.c.out s).2))) ((Classical.choose_spec impl_StateNew.X s trivial).2 _ ⟨rfl, rfl⟩)
/-! ### laws.FnStateLess -/
def laws_FnStateLess.enc (a0 : List Int) (r : Bool) : AV × List Blk := (.v (.c (.bool r)), [])
abbrev laws_FnStateLess.P (a0 : List Int) : Prop := (∀ k, 0 ≤ a0.getD k 0 ∧ a0.getD k 0 ≤ 255)
abbrev laws_FnStateLess.Q (a0 : List Int) (r : Bool) : Prop := (r = true)
def laws_FnStateLess.L : FL := fCons (fC (cArr true kU8s)) (fNil)
def laws_FnStateLess.f (a0 : List Int) (X : AV × List Blk → Prop) : Prop := And (Imp ((decide ((a0.length : Int) > 1048576)) = true) (X (.v (.c (.bool true)), []))) (Imp ((decide ((a0.length : Int) > 1048576)) = false) (And (spec_DrawStateOk.P a0) (Lt ((spec_DrawStateOk.S a0)) fun x1 => Lt (!(((impl_StateOk.S x1) : Bool) == (spec_StateOk.S x1))) fun x2 => And (Imp ((bif x2 then true else !(impl_StateOk.S x1)) = true) (Lt (((impl_StateOk.S x1) : Bool) == (spec_StateOk.S x1)) fun x3 => X (.v (.c (.bool x3)), []))) (Imp ((bif x2 then true else !(impl_StateOk.S x1)) = false) (Lt (impl_StateNew.S) fun x4 => Lt (bif !(impl_StateOk.S x4) then true else (x4.sent.length : Int) != 0) fun x5 => Lt (bif bif x5 then true else x4.ver != 1 then true else x4.way != 0) fun x6 => And (Imp (x6 = true) (X (.v (.c (.bool false)), []))) (Imp (x6 = false) (And (Imp (((x1.sent.length : Int) == 0) = true) (X (.v (.c (.bool true)), []))) (Imp (((x1.sent.length : Int) == 0) = false) (Lt (wrap ((x1.sent.length : Int) - 1)) fun x7 => And ((0 : Int) ≤ x7 ∧ x7 ≤ (x1.sent.length : Int)) (And ((0 : Int) ≤ x7 ∧ x7 ≤ (x1.live.length : Int)) (And ((0 : Int) ≤ x7 ∧ x7 ≤ (x1.back.length : Int)) (And (([] ++ x1.sent).length ≤ 4294967296) (And ((0 : Int) ≤ 0 ∧ 0 < (x1.sent.length : Int)) (And ((([] ++ x1.sent) ++ ([(x1.sent.getD 0 zPkt)])).length ≤ 4294967296) (And (([] ++ x1.live).length ≤ 4294967296) (And ((([] ++ x1.live) ++ ([false])).length ≤ 4294967296) (And (([] ++ x1.back).length ≤ 4294967296) (And ((([] ++ x1.back) ++ ([false])).length ≤ 4294967296) (Lt (impl_StateOk.S (⟨x1.way, x1.ver, x1.want, (x1.sent.take (x7).toNat).drop 0, (x1.live.take (x7).toNat).drop 0, (x1.back.take (x7).toNat).drop 0, x1.got⟩ : St)) fun x8 => Lt (impl_StateOk.S (⟨x1.way, x1.ver, x1.want, (([] ++ x1.sent) ++ ([(x1.sent.getD 0 zPkt)])), (([] ++ x1.live) ++ ([false])), (([] ++ x1.back) ++ ([false])), x1.got⟩ : St)) fun x9 => X (.v (.c (.bool (bif x8 then !x9 else false))), []))))))))))))))))))))
theorem laws_FnStateLess.w (a0 : List Int) (K : AV → List Blk → Prop) : evFn (envC [spec_DrawStateOk.c, impl_StateOk.c, spec_StateOk.c, impl_StateNew.c] [] []) [] [] [] Try.f9 (laws_FnStateLess.L.inp (a0, ())).1 (laws_FnStateLess.L.inp (a0, ())).2 K = laws_FnStateLess.f a0 (fun v => K v.1 v.2) := by kernel_rfl
theorem laws_FnStateLess.x (a0 : List Int) (hp : laws_FnStateLess.P a0) : May (laws_FnStateLess.Q a0) (laws_FnStateLess.enc a0) (laws_FnStateLess.f a0) := by
  have p0 := hp
  delta laws_FnStateLess.f
  refine May.iff (B.dec) (fun h1 => ?_) (fun h1 => ?_)
  refine ⟨(true), ?_, fun X h => h⟩; rotate_left 1
  refine May.chk ?_ fun c1 => May.lq (spec_DrawStateOk.Q a0) (spec_DrawStateOk.q a0 ?_) fun x1 q1 => May.lp (B.not (B.beq)) fun x2 e2 => May.iff (B.or (e2) (B.not (implSt))) (fun h2 => ?_) (fun h2 => ?_); rotate_left 2
  refine May.lp (B.beq) fun x3 e3 => ⟨(x3), ?_, fun X h => h⟩; rotate_left 1
  refine May.lq (impl_StateNew.Q ) (impl_StateNew.q ) fun x4 q4 => May.lp (B.or (B.not (implSt)) (B.ne)) fun x5 e5 => May.lp (B.or (B.or (e5) (B.ne)) (B.ne)) fun x6 e6 => May.iff (e6) (fun h3 => ?_) (fun h3 => ?_)
  refine ⟨(false), ?_, fun X h => h⟩; rotate_left 1
  refine May.iff (B.eq) (fun h4 => ?_) (fun h4 => ?_)
  refine ⟨(true), ?_, fun X h => h⟩; rotate_left 1
  refine May.lw ⟨?_, ?_⟩ fun x7 e7 => May.chk ?_ fun c2 => May.chk ?_ fun c3 => May.chk ?_ fun c4 => May.chk ?_ fun c5 => May.chk ?_ fun c6 => May.chk ?_ fun c7 => May.chk ?_ fun c8 => ?_; rotate_left 9
  refine May.chk ?_ fun c9 => May.chk ?_ fun c10 => May.chk ?_ fun c11 => May.lp (implSt) fun x8 e8 => May.lp (implSt) fun x9 e9 => ⟨(bif x8 then !x9 else false), ?_, fun X h => h⟩
  all_goals try dsimp only
  all_goals first | with_reducible assumption | omega | (exact e3.2 sameSt; done) | (have hs := @sameSt x1; have ho := (show StOk x1 by grind); have l1 := ho.2.2.2.1; have l2 := ho.2.2.2.2.1; (try simp only [List.length_append, List.length_nil]); omega; done) | (have hs := @sameSt x1; have ho := (show StOk x1 by grind); have l0 := ho.2.2.1; have l1 := ho.2.2.2.1; have l2 := ho.2.2.2.2.1; (try simp only [List.length_append, List.length_nil, List.length_cons]); omega; done) | (have hn := stNew; rw [← q4] at hn; have h4 : x4.sent.length = 0 := (by rw [q4]; rfl); have h5 : x4.ver = 1 := (by rw [q4]); have h6 : x4.way = 0 := (by rw [q4]); grind; done) | (have hs := @sameSt x1; have ho := (show StOk x1 by grind); have g1 := stLess ho (i := x7) (by omega) (by omega); have g2 := stTwice ho (by assumption); grind; done) | rfl | assumption | (simp only [List.length_append, List.length_cons, List.length_nil, List.length_set, List.length_replicate, Int.natCast_add, Int.natCast_one] at *; omega) | grind [SZ]
theorem laws_FnStateLess.X : ∃ S : laws_FnStateLess.L.α → Bool, ∀ s, laws_FnStateLess.P s.1 → laws_FnStateLess.Q s.1 (S s) ∧ ∀ X, X (laws_FnStateLess.enc s.1 (S s)) → laws_FnStateLess.f s.1 X := mayS (false) fun s => laws_FnStateLess.x s.1
noncomputable def laws_FnStateLess.S (a0 : List Int) : Bool := Classical.choose laws_FnStateLess.X (a0, ())
theorem laws_FnStateLess.q (a0 : List Int) (hp : laws_FnStateLess.P a0) : laws_FnStateLess.Q a0 (laws_FnStateLess.S a0) := (Classical.choose_spec laws_FnStateLess.X (a0, ()) hp).1
noncomputable def laws_FnStateLess.c : Ctr := hctr 9 [false] laws_FnStateLess.L (some fun s => laws_FnStateLess.P s.1) (fun s => laws_FnStateLess.enc s.1 (laws_FnStateLess.S s.1))
theorem laws_FnStateLess.good : Good Try.prog laws_FnStateLess.c :=
  hgoodC (sh := []) (tk := []) (sp := []) (ct := []) (LL := []) (consG spec_DrawStateOk.good (consG impl_StateOk.good (consG spec_StateOk.good (consG impl_StateNew.good noG)))) (fn := Try.f9) (by kernel_rfl) (by kernel_rfl) (by rw [show loopsOf (bodyOf Try.f9) = [] from by kernel_rfl]; exact noL rfl) (consC' (bs := []) (by kernel_rfl) noC) fun s hp => Eq.mpr (laws_FnStateLess.w s.1 (fun r bs' => And (r = (laws_FnStateLess.c.out s).1) (bs' = (laws_FnStateLess.c.out s).2))) ((Classical.choose_spec laws_FnStateLess.X s (hp _ rfl)).2 _ ⟨rfl, rfl⟩)
end Hw
end Go.Proofs.Ytfboldbfbmmahaa
