/- Laws of states, 3: made by gen.py. -/
import Derived.Test.YtfboldbfbmmahaaF1
set_option linter.unusedVariables false
set_option linter.unusedSimpArgs false
set_option maxRecDepth 100000
set_option maxHeartbeats 100000
namespace Go.Proofs.Ytfboldbfbmmahaa
namespace Hw
open Go
attribute [local irreducible] evFn evBody wrap wxor
/-! ### impl.StateHas -/
def impl_StateHas.enc (a0 : St) (a1 : Pkt) (r : Bool) : AV × List Blk := (.v (.c (.bool r)), [])
abbrev impl_StateHas.P (a0 : St) (a1 : Pkt) : Prop := True
abbrev impl_StateHas.Q (a0 : St) (a1 : Pkt) (r : Bool) : Prop := (r = true ↔ HasP a0 a1)
def impl_StateHas.L : FL := fCons (fSh sSt) (fCons (fSh sPkt) (fNil))
def impl_StateHas.f (a0 : St) (a1 : Pkt) (X : AV × List Blk → Prop) : Prop := Lt (bif !(impl_StateOk.S a0) then true else decide (a1.seq < 1)) fun x1 => Lt (bif x1 then true else decide (a1.seq > (a0.sent.length : Int))) fun x2 => And (Imp (x2 = true) (X (.v (.c (.bool false)), []))) (Imp (x2 = false) (Lt (wrap (a1.seq - 1)) fun x3 => And ((0 : Int) ≤ x3 ∧ x3 < (a0.sent.length : Int)) (And (Imp (And ((decide ((a0.sent.getD (x3).toNat zPkt) = a1)) = true) (True)) ((0 : Int) ≤ x3 ∧ x3 < (a0.live.length : Int))) (Lt (bif decide ((a0.sent.getD (x3).toNat zPkt) = a1) then a0.live.getD (x3).toNat false else false) fun x4 => X (.v (.c (.bool x4)), [])))))
theorem impl_StateHas.w (a0 : St) (a1 : Pkt) (K : AV → List Blk → Prop) : evFn (envC [impl_StateOk.c] [] []) [] [] [] Try.f39 (impl_StateHas.L.inp (a0, (a1, ()))).1 (impl_StateHas.L.inp (a0, (a1, ()))).2 K = impl_StateHas.f a0 a1 (fun v => K v.1 v.2) := by kernel_rfl
theorem impl_StateHas.x (a0 : St) (a1 : Pkt) (hp : impl_StateHas.P a0 a1) : May (impl_StateHas.Q a0 a1) (impl_StateHas.enc a0 a1) (impl_StateHas.f a0 a1) := by
  delta impl_StateHas.f
  refine May.lp (B.or (B.not (implSt)) (B.dec)) fun x1 e1 => May.lp (B.or (e1) (B.dec)) fun x2 e2 => May.iff (e2) (fun h1 => ?_) (fun h1 => ?_)
  refine ⟨(false), ?_, fun X h => h⟩; rotate_left 1
  refine May.lw ⟨?_, ?_⟩ fun x3 e3 => May.chk ?_ fun c1 => May.chk (fun hπ => have g1 := Iff.mp (B.dec) hπ.1; ?_) fun c2 => May.lp (B.and (B.dec) (Iff.rfl)) fun x4 e4 => ⟨(x4), ?_, fun X h => h⟩
  all_goals try dsimp only
  all_goals first | with_reducible assumption | omega | (simp only [List.length_append, List.length_cons, List.length_nil, List.length_set, List.length_replicate, Int.natCast_add, Int.natCast_one] at *; omega) | grind [stL]
theorem impl_StateHas.X : ∃ S : impl_StateHas.L.α → Bool, ∀ s, impl_StateHas.P s.1 s.2.1 → impl_StateHas.Q s.1 s.2.1 (S s) ∧ ∀ X, X (impl_StateHas.enc s.1 s.2.1 (S s)) → impl_StateHas.f s.1 s.2.1 X := mayS (false) fun s => impl_StateHas.x s.1 s.2.1
noncomputable def impl_StateHas.S (a0 : St) (a1 : Pkt) : Bool := Classical.choose impl_StateHas.X (a0, (a1, ()))
theorem impl_StateHas.q (a0 : St) (a1 : Pkt) : impl_StateHas.Q a0 a1 (impl_StateHas.S a0 a1) := (Classical.choose_spec impl_StateHas.X (a0, (a1, ())) trivial).1
noncomputable def impl_StateHas.c : Ctr := hctr 39 [true, false] impl_StateHas.L none (fun s => impl_StateHas.enc s.1 s.2.1 (impl_StateHas.S s.1 s.2.1))
theorem impl_StateHas.good : Good Try.prog impl_StateHas.c :=
  hgoodC (sh := []) (tk := []) (sp := []) (ct := []) (LL := []) (consG impl_StateOk.good noG) (fn := Try.f39) (by kernel_rfl) (by kernel_rfl) (by rw [show loopsOf (bodyOf Try.f39) = [] from by kernel_rfl]; exact noL rfl) (consC' (bs := []) (by kernel_rfl) noC) fun s hp => Eq.mpr (impl_StateHas.w s.1 s.2.1 (fun r bs' => And (r = (impl_StateHas.c.out s).1) (bs' = (impl_StateHas.c.out s).2))) ((Classical.choose_spec impl_StateHas.X s trivial).2 _ ⟨rfl, rfl⟩)
/-! ### spec.StateLive -/
abbrev spec_StateLive_l5.P (x5_0 : St) (x5_1 : List Int) (x5_2 : Int) : Prop := (0 ≤ x5_2) ∧ ((x5_0.live.length : Int) ≤ 9223372036854775807) ∧ (x5_1 = lives x5_0.live x5_2.toNat) ∧ (x5_0.live.length ≤ 8) ∧ (x5_2 ≤ (x5_0.live.length : Int))
abbrev spec_StateLive_l5.Q (x5_0 : St) (x5_1 : List Int) (x5_2 : Int) (r : Nat × (List Int) × Unit) : Prop := (r.2.1 = lives x5_0.live x5_0.live.length)
def spec_StateLive_l5.M (x5_0 : St) (x5_1 : List Int) (x5_2 : Int) : Nat := ((x5_0.live.length : Int) - x5_2).toNat
def spec_StateLive_l5.L : FL := fCons (fC (cPtr 1 (cStE false) rfl)) (fCons (fC (cOwn kInts 3)) (fCons (fC cInt) (fNil)))
def spec_StateLive_l5.o0 (x5_0 : St) (x5_1 : List Int) (x5_2 : Int) (r : Nat × (List Int) × Unit) : Ex × List FV × List Blk := (.exit 0, [.c (.own 0 1 3)], [.arr (.ints r.2.1)])
def spec_StateLive_l5.o (x5_0 : St) (x5_1 : List Int) (x5_2 : Int) (r : Nat × (List Int) × Unit) : Ex × List FV × List Blk := pickAlt [] (spec_StateLive_l5.o0 x5_0 x5_1 x5_2 r)
def spec_StateLive_l5.f (x5_0 : St) (x5_1 : List Int) (x5_2 : Int) (X : (spec_StateLive_l5.L.α ⊕ (Ex × List FV × List Blk) → Prop)) : Prop := And (Imp ((decide (x5_2 < (x5_0.live.length : Int))) = true) (And ((0 : Int) ≤ x5_2 ∧ x5_2 < (x5_0.live.length : Int)) (And (Imp ((x5_0.live.getD (x5_2).toNat false) = true) (Lt (wrap (x5_2 + 1)) fun x1 => And ((x5_1 ++ ([x1])).length ≤ 4294967296) (X (.inl (x5_0, ((x5_1 ++ ([x1])), (x1, ()))))))) (Imp ((x5_0.live.getD (x5_2).toNat false) = false) (Lt (wrap (x5_2 + 1)) fun x2 => X (.inl (x5_0, (x5_1, (x2, ()))))))))) (Imp ((decide (x5_2 < (x5_0.live.length : Int))) = false) (X (.inr (.exit 0, [.c (.own 0 1 3)], [.arr (.ints x5_1)]))))
def spec_StateLive_l5.d (S : spec_StateLive_l5.L.α → Nat × (List Int) × Unit) : LDat := ldat 5 [1, 3, 4] [] spec_StateLive_l5.L (fun s => spec_StateLive_l5.P s.1 s.2.1 s.2.2.1) (fun s => []) (fun s => spec_StateLive_l5.o0 s.1 s.2.1 s.2.2.1 (S s)) (fun s => spec_StateLive_l5.M s.1 s.2.1 s.2.2.1) 0 (fun _ => [3]) (fun _ => [])
theorem spec_StateLive_l5.w (S : spec_StateLive_l5.L.α → Nat × (List Int) × Unit) (x5_0 : St) (x5_1 : List Int) (x5_2 : Int) : evBody (envC [spec_StateOk.c] [] []) [] (bodyAt Try.f38 0) (spec_StateLive_l5.d S) (x5_0, (x5_1, (x5_2, ()))) = spec_StateLive_l5.f x5_0 x5_1 x5_2 (lpx (spec_StateLive_l5.d S).pre (spec_StateLive_l5.d S).μ (spec_StateLive_l5.d S).out (x5_0, (x5_1, (x5_2, ())))) := by kernel_rfl
theorem spec_StateLive_l5.x (x5_0 : St) (x5_1 : List Int) (x5_2 : Int) (hp : spec_StateLive_l5.P x5_0 x5_1 x5_2) : May (R := spec_StateLive_l5.L.α ⊕ (Nat × (List Int) × Unit)) (lpq (fun s => spec_StateLive_l5.P s.1 s.2.1 s.2.2.1) (fun s => spec_StateLive_l5.M s.1 s.2.1 s.2.2.1) (fun s => spec_StateLive_l5.Q s.1 s.2.1 s.2.2.1) (fun s => spec_StateLive_l5.o s.1 s.2.1 s.2.2.1) (x5_0, (x5_1, (x5_2, ())))) (lpo (fun s => spec_StateLive_l5.o s.1 s.2.1 s.2.2.1) (x5_0, (x5_1, (x5_2, ())))) (spec_StateLive_l5.f x5_0 x5_1 x5_2) := by
  obtain ⟨p0, p1, p2, p3, p4⟩ := hp
  delta spec_StateLive_l5.f
  refine May.iff (B.dec) (fun h1 => ?_) (fun h1 => ?_)
  refine May.chk ?_ fun c1 => May.iff (Iff.rfl) (fun h2 => ?_) (fun h2 => ?_); rotate_left 1
  refine May.lw ⟨?_, ?_⟩ fun x1 e1 => May.chk ?_ fun c2 => ⟨.inl (x5_0, ((x5_1 ++ ([x1])), (x1, ()))), ⟨⟨?_, ?_, ?_, ?_, ?_⟩, ?_, ?_, fun r => rfl⟩, fun X h => h⟩; rotate_left 10
  refine May.lw ⟨?_, ?_⟩ fun x2 e2 => ⟨.inl (x5_0, (x5_1, (x2, ()))), ⟨⟨?_, ?_, ?_, ?_, ?_⟩, ?_, ?_, fun r => rfl⟩, fun X h => h⟩; rotate_left 9
  refine ⟨.inr (0, (x5_1, ())), (show spec_StateLive_l5.Q x5_0 x5_1 x5_2 (0, (x5_1, ())) from ?_), fun X h => h⟩
  all_goals try dsimp only
  all_goals first | with_reducible assumption | omega | exact fun _ q => q | (unfold spec_StateLive_l5.M; omega) | (have := stL (s := a0) (by grind); omega; done) | (rw [p2, e1]; exact lives_t rfl (by omega) h2; done) | (rw [p2]; exact lives_f (by omega) (by omega) h2; done) | ((show x5_1 = lives x5_0.live x5_0.live.length); rw [p2, show x5_2.toNat = x5_0.live.length by omega]; done) | (have := lives_len (l := x5_0.live) x5_2.toNat; rw [p2]; simp only [List.length_append, List.length_cons, List.length_nil]; omega; done) | (rfl; done) | rfl | assumption | (simp only [List.length_append, List.length_cons, List.length_nil, List.length_set, List.length_replicate, Int.natCast_add, Int.natCast_one] at *; omega) | grind
theorem spec_StateLive_l5.X : ∃ S : spec_StateLive_l5.L.α → Nat × (List Int) × Unit, ∀ s, spec_StateLive_l5.P s.1 s.2.1 s.2.2.1 → spec_StateLive_l5.Q s.1 s.2.1 s.2.2.1 (S s) ∧ spec_StateLive_l5.f s.1 s.2.1 s.2.2.1 (lpx (fun s => spec_StateLive_l5.P s.1 s.2.1 s.2.2.1) (fun s => spec_StateLive_l5.M s.1 s.2.1 s.2.2.1) (fun s => spec_StateLive_l5.o s.1 s.2.1 s.2.2.1 (S s)) s) := loopS (0, ([], ())) fun s => spec_StateLive_l5.x s.1 s.2.1 s.2.2.1
noncomputable def spec_StateLive_l5.R (x5_0 : St) (x5_1 : List Int) (x5_2 : Int) : Nat × (List Int) × Unit := Classical.choose spec_StateLive_l5.X (x5_0, (x5_1, (x5_2, ())))
theorem spec_StateLive_l5.q (x5_0 : St) (x5_1 : List Int) (x5_2 : Int) (hp : spec_StateLive_l5.P x5_0 x5_1 x5_2) : spec_StateLive_l5.Q x5_0 x5_1 x5_2 (spec_StateLive_l5.R x5_0 x5_1 x5_2) := (Classical.choose_spec spec_StateLive_l5.X (x5_0, (x5_1, (x5_2, ()))) hp).1
noncomputable def spec_StateLive_l5.k : LCtr := (spec_StateLive_l5.d (fun s => spec_StateLive_l5.R s.1 s.2.1 s.2.2.1)).ctr
theorem spec_StateLive_l5.g (hG : ∀ c ∈ [spec_StateOk.c], Good Try.prog c) : LGood Try.prog Try.f38.ntmps spec_StateLive_l5.k (bodyAt Try.f38 0) := lgoodC (sp := []) (ct := []) (LL := []) hG (by kernel_rfl) (by rw [show loopsOf (bodyAt Try.f38 0) = [] from by kernel_rfl]; exact noL rfl) (consC' (bs := []) (by kernel_rfl) noC) fun s hp => Eq.mpr (spec_StateLive_l5.w (fun s => spec_StateLive_l5.R s.1 s.2.1 s.2.2.1) s.1 s.2.1 s.2.2.1) (Classical.choose_spec spec_StateLive_l5.X s hp).2
def spec_StateLive.enc (a0 : St) (r : (List Int)) : AV × List Blk := (.v (.c (.own 0 1 3)), [.arr (.ints r)])
abbrev spec_StateLive.P (a0 : St) : Prop := True
abbrev spec_StateLive.Q (a0 : St) (r : (List Int)) : Prop := (StOk a0 → r = lives a0.live a0.live.length) ∧ (¬ StOk a0 → r = [])
def spec_StateLive.L : FL := fCons (fSh sSt) (fNil)
def spec_StateLive.f (a0 : St) (X : AV × List Blk → Prop) : Prop := And (Imp ((!(spec_StateOk.S a0)) = true) (X (.v (.c (.own 0 1 3)), [.arr (.ints [])]))) (Imp ((!(spec_StateOk.S a0)) = false) (And (spec_StateLive_l5.P a0 [] 0) (Lt (spec_StateLive_l5.R a0 [] 0) fun x3 => X (.v (.c (.own 0 1 3)), [.arr (.ints x3.2.1)]))))
theorem spec_StateLive.w (a0 : St) (K : AV → List Blk → Prop) : evFn (envC [spec_StateOk.c] [] []) [spec_StateLive_l5.k] [[some (.int, 3)]] [] Try.f38 (spec_StateLive.L.inp (a0, ())).1 (spec_StateLive.L.inp (a0, ())).2 K = spec_StateLive.f a0 (fun v => K v.1 v.2) := by kernel_rfl
theorem spec_StateLive.x (a0 : St) (hp : spec_StateLive.P a0) : May (spec_StateLive.Q a0) (spec_StateLive.enc a0) (spec_StateLive.f a0) := by
  delta spec_StateLive.f
  refine May.iff (B.not (specSt)) (fun h1 => ?_) (fun h1 => ?_)
  refine ⟨([]), ⟨?_, ?_⟩, fun X h => h⟩; rotate_left 2
  refine May.chk ⟨?_, ?_, ?_, ?_, ?_⟩ fun c1 => May.lq (spec_StateLive_l5.Q a0 [] 0) (spec_StateLive_l5.q a0 [] 0 c1) fun x3 q3 => ⟨(x3.2.1), ⟨?_, ?_⟩, fun X h => h⟩
  all_goals try dsimp only
  all_goals first | with_reducible assumption | omega | (have := stL (s := a0) (by grind); omega; done) | rfl | assumption | (simp only [List.length_append, List.length_cons, List.length_nil, List.length_set, List.length_replicate, Int.natCast_add, Int.natCast_one] at *; omega) | grind
theorem spec_StateLive.X : ∃ S : spec_StateLive.L.α → (List Int), ∀ s, spec_StateLive.P s.1 → spec_StateLive.Q s.1 (S s) ∧ ∀ X, X (spec_StateLive.enc s.1 (S s)) → spec_StateLive.f s.1 X := mayS ([]) fun s => spec_StateLive.x s.1
noncomputable def spec_StateLive.S (a0 : St) : (List Int) := Classical.choose spec_StateLive.X (a0, ())
theorem spec_StateLive.q (a0 : St) : spec_StateLive.Q a0 (spec_StateLive.S a0) := (Classical.choose_spec spec_StateLive.X (a0, ()) trivial).1
noncomputable def spec_StateLive.c : Ctr := hctr 38 [true] spec_StateLive.L none (fun s => spec_StateLive.enc s.1 (spec_StateLive.S s.1))
theorem spec_StateLive.good : Good Try.prog spec_StateLive.c :=
  hgoodC (sh := [[some (.int, 3)]]) (tk := []) (sp := []) (ct := []) (LL := [spec_StateLive_l5.k]) (consG spec_StateOk.good noG) (fn := Try.f38) (by kernel_rfl) (by kernel_rfl) (by rw [show loopsOf (bodyOf Try.f38) = [(bodyAt Try.f38 0)] from by kernel_rfl]; exact consL (l := spec_StateLive_l5.k) (by kernel_rfl) (spec_StateLive_l5.g (consG spec_StateOk.good noG)) (noL rfl)) (consC' (bs := []) (by kernel_rfl) noC) fun s hp => Eq.mpr (spec_StateLive.w s.1 (fun r bs' => And (r = (spec_StateLive.c.out s).1) (bs' = (spec_StateLive.c.out s).2))) ((Classical.choose_spec spec_StateLive.X s trivial).2 _ ⟨rfl, rfl⟩)
/-! ### impl.StateLive -/
abbrev impl_StateLive_l5.P (x5_0 : List Int) (x5_1 : List Bool) (x5_2 : Int) (x5_3 : Int) : Prop := (0 ≤ x5_3) ∧ (x5_2 ≤ 9223372036854775807) ∧ (x5_2 = (x5_1.length : Int)) ∧ (x5_0 = lives x5_1 x5_3.toNat) ∧ (x5_1.length ≤ 8) ∧ (x5_3 ≤ (x5_1.length : Int))
abbrev impl_StateLive_l5.Q (x5_0 : List Int) (x5_1 : List Bool) (x5_2 : Int) (x5_3 : Int) (r : Nat × (List Int) × Unit) : Prop := (r.2.1 = lives x5_1 x5_1.length)
def impl_StateLive_l5.M (x5_0 : List Int) (x5_1 : List Bool) (x5_2 : Int) (x5_3 : Int) : Nat := (x5_2 - x5_3).toNat
def impl_StateLive_l5.L : FL := fCons (fC (cOwn kInts 3)) (fCons (fC (cArr false kBools)) (fCons (fC cInt) (fCons (fC cInt) (fNil))))
def impl_StateLive_l5.o0 (x5_0 : List Int) (x5_1 : List Bool) (x5_2 : Int) (x5_3 : Int) (r : Nat × (List Int) × Unit) : Ex × List FV × List Blk := (.exit 0, [.c (.own 0 1 3)], [.arr (.ints r.2.1)])
def impl_StateLive_l5.o (x5_0 : List Int) (x5_1 : List Bool) (x5_2 : Int) (x5_3 : Int) (r : Nat × (List Int) × Unit) : Ex × List FV × List Blk := pickAlt [] (impl_StateLive_l5.o0 x5_0 x5_1 x5_2 x5_3 r)
def impl_StateLive_l5.f (x5_0 : List Int) (x5_1 : List Bool) (x5_2 : Int) (x5_3 : Int) (X : (impl_StateLive_l5.L.α ⊕ (Ex × List FV × List Blk) → Prop)) : Prop := And (Imp ((decide (x5_3 < x5_2)) = true) (And ((0 : Int) ≤ x5_3 ∧ x5_3 < (x5_1.length : Int)) (And (Imp ((x5_1.getD (x5_3).toNat false) = true) (Lt (wrap (x5_3 + 1)) fun x1 => And ((x5_0 ++ ([x1])).length ≤ 4294967296) (X (.inl ((x5_0 ++ ([x1])), (x5_1, (x5_2, (x1, ())))))))) (Imp ((x5_1.getD (x5_3).toNat false) = false) (Lt (wrap (x5_3 + 1)) fun x2 => X (.inl (x5_0, (x5_1, (x5_2, (x2, ())))))))))) (Imp ((decide (x5_3 < x5_2)) = false) (X (.inr (.exit 0, [.c (.own 0 1 3)], [.arr (.ints x5_0)]))))
def impl_StateLive_l5.d (S : impl_StateLive_l5.L.α → Nat × (List Int) × Unit) : LDat := ldat 5 [3, 10, 11, 12] [[some (.int, 3)]] impl_StateLive_l5.L (fun s => impl_StateLive_l5.P s.1 s.2.1 s.2.2.1 s.2.2.2.1) (fun s => []) (fun s => impl_StateLive_l5.o0 s.1 s.2.1 s.2.2.1 s.2.2.2.1 (S s)) (fun s => impl_StateLive_l5.M s.1 s.2.1 s.2.2.1 s.2.2.2.1) 0 (fun _ => [3]) (fun _ => [[some (.int, 3)]])
theorem impl_StateLive_l5.w (S : impl_StateLive_l5.L.α → Nat × (List Int) × Unit) (x5_0 : List Int) (x5_1 : List Bool) (x5_2 : Int) (x5_3 : Int) : evBody (envC [impl_StateOk.c] [] []) [] (bodyAt Try.f36 0) (impl_StateLive_l5.d S) (x5_0, (x5_1, (x5_2, (x5_3, ())))) = impl_StateLive_l5.f x5_0 x5_1 x5_2 x5_3 (lpx (impl_StateLive_l5.d S).pre (impl_StateLive_l5.d S).μ (impl_StateLive_l5.d S).out (x5_0, (x5_1, (x5_2, (x5_3, ()))))) := by kernel_rfl
theorem impl_StateLive_l5.x (x5_0 : List Int) (x5_1 : List Bool) (x5_2 : Int) (x5_3 : Int) (hp : impl_StateLive_l5.P x5_0 x5_1 x5_2 x5_3) : May (R := impl_StateLive_l5.L.α ⊕ (Nat × (List Int) × Unit)) (lpq (fun s => impl_StateLive_l5.P s.1 s.2.1 s.2.2.1 s.2.2.2.1) (fun s => impl_StateLive_l5.M s.1 s.2.1 s.2.2.1 s.2.2.2.1) (fun s => impl_StateLive_l5.Q s.1 s.2.1 s.2.2.1 s.2.2.2.1) (fun s => impl_StateLive_l5.o s.1 s.2.1 s.2.2.1 s.2.2.2.1) (x5_0, (x5_1, (x5_2, (x5_3, ()))))) (lpo (fun s => impl_StateLive_l5.o s.1 s.2.1 s.2.2.1 s.2.2.2.1) (x5_0, (x5_1, (x5_2, (x5_3, ()))))) (impl_StateLive_l5.f x5_0 x5_1 x5_2 x5_3) := by
  obtain ⟨p0, p1, p2, p3, p4, p5⟩ := hp
  delta impl_StateLive_l5.f
  refine May.iff (B.dec) (fun h1 => ?_) (fun h1 => ?_)
  refine May.chk ?_ fun c1 => May.iff (Iff.rfl) (fun h2 => ?_) (fun h2 => ?_); rotate_left 1
  refine May.lw ⟨?_, ?_⟩ fun x1 e1 => May.chk ?_ fun c2 => ⟨.inl ((x5_0 ++ ([x1])), (x5_1, (x5_2, (x1, ())))), ⟨⟨?_, ?_, ?_, ?_, ?_, ?_⟩, ?_, ?_, fun r => rfl⟩, fun X h => h⟩; rotate_left 11
  refine May.lw ⟨?_, ?_⟩ fun x2 e2 => ⟨.inl (x5_0, (x5_1, (x5_2, (x2, ())))), ⟨⟨?_, ?_, ?_, ?_, ?_, ?_⟩, ?_, ?_, fun r => rfl⟩, fun X h => h⟩; rotate_left 10
  refine ⟨.inr (0, (x5_0, ())), (show impl_StateLive_l5.Q x5_0 x5_1 x5_2 x5_3 (0, (x5_0, ())) from ?_), fun X h => h⟩
  all_goals try dsimp only
  all_goals first | with_reducible assumption | omega | exact fun _ q => q | (unfold impl_StateLive_l5.M; omega) | (have := stL (s := a0) (by grind); omega; done) | (rw [p3, e1]; exact lives_t rfl (by omega) h2; done) | (rw [p3]; exact lives_f (by omega) (by omega) h2; done) | ((show x5_0 = lives x5_1 x5_1.length); rw [p3, show x5_3.toNat = x5_1.length by omega]; done) | (have := lives_len (l := x5_1) x5_3.toNat; rw [p3]; simp only [List.length_append, List.length_cons, List.length_nil]; omega; done) | (rfl; done) | rfl | assumption | (simp only [List.length_append, List.length_cons, List.length_nil, List.length_set, List.length_replicate, Int.natCast_add, Int.natCast_one] at *; omega) | grind
theorem impl_StateLive_l5.X : ∃ S : impl_StateLive_l5.L.α → Nat × (List Int) × Unit, ∀ s, impl_StateLive_l5.P s.1 s.2.1 s.2.2.1 s.2.2.2.1 → impl_StateLive_l5.Q s.1 s.2.1 s.2.2.1 s.2.2.2.1 (S s) ∧ impl_StateLive_l5.f s.1 s.2.1 s.2.2.1 s.2.2.2.1 (lpx (fun s => impl_StateLive_l5.P s.1 s.2.1 s.2.2.1 s.2.2.2.1) (fun s => impl_StateLive_l5.M s.1 s.2.1 s.2.2.1 s.2.2.2.1) (fun s => impl_StateLive_l5.o s.1 s.2.1 s.2.2.1 s.2.2.2.1 (S s)) s) := loopS (0, ([], ())) fun s => impl_StateLive_l5.x s.1 s.2.1 s.2.2.1 s.2.2.2.1
noncomputable def impl_StateLive_l5.R (x5_0 : List Int) (x5_1 : List Bool) (x5_2 : Int) (x5_3 : Int) : Nat × (List Int) × Unit := Classical.choose impl_StateLive_l5.X (x5_0, (x5_1, (x5_2, (x5_3, ()))))
theorem impl_StateLive_l5.q (x5_0 : List Int) (x5_1 : List Bool) (x5_2 : Int) (x5_3 : Int) (hp : impl_StateLive_l5.P x5_0 x5_1 x5_2 x5_3) : impl_StateLive_l5.Q x5_0 x5_1 x5_2 x5_3 (impl_StateLive_l5.R x5_0 x5_1 x5_2 x5_3) := (Classical.choose_spec impl_StateLive_l5.X (x5_0, (x5_1, (x5_2, (x5_3, ())))) hp).1
noncomputable def impl_StateLive_l5.k : LCtr := (impl_StateLive_l5.d (fun s => impl_StateLive_l5.R s.1 s.2.1 s.2.2.1 s.2.2.2.1)).ctr
theorem impl_StateLive_l5.g (hG : ∀ c ∈ [impl_StateOk.c], Good Try.prog c) : LGood Try.prog Try.f36.ntmps impl_StateLive_l5.k (bodyAt Try.f36 0) := lgoodC (sp := []) (ct := []) (LL := []) hG (by kernel_rfl) (by rw [show loopsOf (bodyAt Try.f36 0) = [] from by kernel_rfl]; exact noL rfl) (consC' (bs := []) (by kernel_rfl) noC) fun s hp => Eq.mpr (impl_StateLive_l5.w (fun s => impl_StateLive_l5.R s.1 s.2.1 s.2.2.1 s.2.2.2.1) s.1 s.2.1 s.2.2.1 s.2.2.2.1) (Classical.choose_spec impl_StateLive_l5.X s hp).2
def impl_StateLive.enc (a0 : St) (r : (List Int)) : AV × List Blk := (.v (.c (.own 0 1 3)), [.arr (.ints r)])
abbrev impl_StateLive.P (a0 : St) : Prop := True
abbrev impl_StateLive.Q (a0 : St) (r : (List Int)) : Prop := (StOk a0 → r = lives a0.live a0.live.length) ∧ (¬ StOk a0 → r = [])
def impl_StateLive.L : FL := fCons (fSh sSt) (fNil)
def impl_StateLive.f (a0 : St) (X : AV × List Blk → Prop) : Prop := And (Imp ((!(impl_StateOk.S a0)) = true) (X (.v (.c (.own 0 1 3)), [.arr (.ints [])]))) (Imp ((!(impl_StateOk.S a0)) = false) (And (impl_StateLive_l5.P [] a0.live (a0.live.length : Int) 0) (Lt (impl_StateLive_l5.R [] a0.live (a0.live.length : Int) 0) fun x3 => X (.v (.c (.own 0 1 3)), [.arr (.ints x3.2.1)]))))
theorem impl_StateLive.w (a0 : St) (K : AV → List Blk → Prop) : evFn (envC [impl_StateOk.c] [] []) [impl_StateLive_l5.k] [[some (.int, 3)]] [] Try.f36 (impl_StateLive.L.inp (a0, ())).1 (impl_StateLive.L.inp (a0, ())).2 K = impl_StateLive.f a0 (fun v => K v.1 v.2) := by kernel_rfl
theorem impl_StateLive.x (a0 : St) (hp : impl_StateLive.P a0) : May (impl_StateLive.Q a0) (impl_StateLive.enc a0) (impl_StateLive.f a0) := by
  delta impl_StateLive.f
  refine May.iff (B.not (implSt)) (fun h1 => ?_) (fun h1 => ?_)
  refine ⟨([]), ⟨?_, ?_⟩, fun X h => h⟩; rotate_left 2
  refine May.chk ⟨?_, ?_, ?_, ?_, ?_, ?_⟩ fun c1 => May.lq (impl_StateLive_l5.Q [] a0.live (a0.live.length : Int) 0) (impl_StateLive_l5.q [] a0.live (a0.live.length : Int) 0 c1) fun x3 q3 => ⟨(x3.2.1), ⟨?_, ?_⟩, fun X h => h⟩
  all_goals try dsimp only
  all_goals first | with_reducible assumption | omega | (have := stL (s := a0) (by grind); omega; done) | rfl | assumption | (simp only [List.length_append, List.length_cons, List.length_nil, List.length_set, List.length_replicate, Int.natCast_add, Int.natCast_one] at *; omega) | grind
theorem impl_StateLive.X : ∃ S : impl_StateLive.L.α → (List Int), ∀ s, impl_StateLive.P s.1 → impl_StateLive.Q s.1 (S s) ∧ ∀ X, X (impl_StateLive.enc s.1 (S s)) → impl_StateLive.f s.1 X := mayS ([]) fun s => impl_StateLive.x s.1
noncomputable def impl_StateLive.S (a0 : St) : (List Int) := Classical.choose impl_StateLive.X (a0, ())
theorem impl_StateLive.q (a0 : St) : impl_StateLive.Q a0 (impl_StateLive.S a0) := (Classical.choose_spec impl_StateLive.X (a0, ()) trivial).1
noncomputable def impl_StateLive.c : Ctr := hctr 36 [true] impl_StateLive.L none (fun s => impl_StateLive.enc s.1 (impl_StateLive.S s.1))
theorem impl_StateLive.good : Good Try.prog impl_StateLive.c :=
  hgoodC (sh := [[some (.int, 3)]]) (tk := []) (sp := []) (ct := []) (LL := [impl_StateLive_l5.k]) (consG impl_StateOk.good noG) (fn := Try.f36) (by kernel_rfl) (by kernel_rfl) (by rw [show loopsOf (bodyOf Try.f36) = [(bodyAt Try.f36 0)] from by kernel_rfl]; exact consL (l := impl_StateLive_l5.k) (by kernel_rfl) (impl_StateLive_l5.g (consG impl_StateOk.good noG)) (noL rfl)) (consC' (bs := []) (by kernel_rfl) noC) fun s hp => Eq.mpr (impl_StateLive.w s.1 (fun r bs' => And (r = (impl_StateLive.c.out s).1) (bs' = (impl_StateLive.c.out s).2))) ((Classical.choose_spec impl_StateLive.X s trivial).2 _ ⟨rfl, rfl⟩)
/-! ### laws.lwInts -/
abbrev laws_lwInts_l4.P (x4_0 : List Int) (x4_1 : List Int) (x4_2 : Bool) (x4_3 : Int) : Prop := (0 ≤ x4_3) ∧ ((x4_0.length : Int) ≤ 9223372036854775807) ∧ (((x4_0.length : Int) != (x4_1.length : Int)) = false) ∧ ((x4_0.length : Int) = (x4_1.length : Int)) ∧ (∀ k : Nat, (k : Int) < x4_3 → x4_0.getD k 0 = x4_1.getD k 0)
abbrev laws_lwInts_l4.Q (x4_0 : List Int) (x4_1 : List Int) (x4_2 : Bool) (x4_3 : Int) (r : Nat × Bool × Unit) : Prop := (r.1 = 0 → r.2.1 = false ∧ ¬ x4_0 = x4_1) ∧ (¬ r.1 = 0 → x4_0 = x4_1)
def laws_lwInts_l4.M (x4_0 : List Int) (x4_1 : List Int) (x4_2 : Bool) (x4_3 : Int) : Nat := ((x4_0.length : Int) - x4_3).toNat
def laws_lwInts_l4.L : FL := fCons (fC (cArr false kInts)) (fCons (fC (cArr false kInts)) (fCons (fC cBool) (fCons (fC cInt) (fNil))))
def laws_lwInts_l4.o0 (x4_0 : List Int) (x4_1 : List Int) (x4_2 : Bool) (x4_3 : Int) (r : Nat × Bool × Unit) : Ex × List FV × List Blk := (.ret, [.c (.bool r.2.1)], [])
def laws_lwInts_l4.o1 (x4_0 : List Int) (x4_1 : List Int) (x4_2 : Bool) (x4_3 : Int) (r : Nat × Bool × Unit) : Ex × List FV × List Blk := (.exit 0, [], [])
def laws_lwInts_l4.o (x4_0 : List Int) (x4_1 : List Int) (x4_2 : Bool) (x4_3 : Int) (r : Nat × Bool × Unit) : Ex × List FV × List Blk := pickAlt [(Nat.beq r.1 0, laws_lwInts_l4.o0 x4_0 x4_1 x4_2 x4_3 r)] (laws_lwInts_l4.o1 x4_0 x4_1 x4_2 x4_3 r)
def laws_lwInts_l4.f (x4_0 : List Int) (x4_1 : List Int) (x4_2 : Bool) (x4_3 : Int) (X : (laws_lwInts_l4.L.α ⊕ (Ex × List FV × List Blk) → Prop)) : Prop := And (Imp ((decide (x4_3 < (x4_0.length : Int))) = true) (And ((0 : Int) ≤ x4_3 ∧ x4_3 < (x4_0.length : Int)) (And ((0 : Int) ≤ x4_3 ∧ x4_3 < (x4_1.length : Int)) (Lt ((x4_0.getD (x4_3).toNat 0) != (x4_1.getD (x4_3).toNat 0)) fun x1 => And (Imp (x1 = true) (X (.inr (.ret, [.c (.bool false)], [])))) (Imp (x1 = false) (Lt (wrap (x4_3 + 1)) fun x2 => X (.inl (x4_0, (x4_1, (x4_2, (x2, ()))))))))))) (Imp ((decide (x4_3 < (x4_0.length : Int))) = false) (X (.inr (.exit 0, [], []))))
def laws_lwInts_l4.d (S : laws_lwInts_l4.L.α → Nat × Bool × Unit) : LDat := ldat 4 [0, 1, 4, 5] [] laws_lwInts_l4.L (fun s => laws_lwInts_l4.P s.1 s.2.1 s.2.2.1 s.2.2.2.1) (fun s => [(Nat.beq (S s).1 0, laws_lwInts_l4.o0 s.1 s.2.1 s.2.2.1 s.2.2.2.1 (S s))]) (fun s => laws_lwInts_l4.o1 s.1 s.2.1 s.2.2.1 s.2.2.2.1 (S s)) (fun s => laws_lwInts_l4.M s.1 s.2.1 s.2.2.1 s.2.2.2.1) 0 (fun e => match e with | .ret => [4] | _ => []) (fun _ => [])
theorem laws_lwInts_l4.w (S : laws_lwInts_l4.L.α → Nat × Bool × Unit) (x4_0 : List Int) (x4_1 : List Int) (x4_2 : Bool) (x4_3 : Int) : evBody (envC [] [] []) [] (bodyAt Try.f37 0) (laws_lwInts_l4.d S) (x4_0, (x4_1, (x4_2, (x4_3, ())))) = laws_lwInts_l4.f x4_0 x4_1 x4_2 x4_3 (lpx (laws_lwInts_l4.d S).pre (laws_lwInts_l4.d S).μ (laws_lwInts_l4.d S).out (x4_0, (x4_1, (x4_2, (x4_3, ()))))) := by kernel_rfl
theorem laws_lwInts_l4.x (x4_0 : List Int) (x4_1 : List Int) (x4_2 : Bool) (x4_3 : Int) (hp : laws_lwInts_l4.P x4_0 x4_1 x4_2 x4_3) : May (R := laws_lwInts_l4.L.α ⊕ (Nat × Bool × Unit)) (lpq (fun s => laws_lwInts_l4.P s.1 s.2.1 s.2.2.1 s.2.2.2.1) (fun s => laws_lwInts_l4.M s.1 s.2.1 s.2.2.1 s.2.2.2.1) (fun s => laws_lwInts_l4.Q s.1 s.2.1 s.2.2.1 s.2.2.2.1) (fun s => laws_lwInts_l4.o s.1 s.2.1 s.2.2.1 s.2.2.2.1) (x4_0, (x4_1, (x4_2, (x4_3, ()))))) (lpo (fun s => laws_lwInts_l4.o s.1 s.2.1 s.2.2.1 s.2.2.2.1) (x4_0, (x4_1, (x4_2, (x4_3, ()))))) (laws_lwInts_l4.f x4_0 x4_1 x4_2 x4_3) := by
  obtain ⟨p0, p1, p2, p3, p4⟩ := hp
  delta laws_lwInts_l4.f
  refine May.iff (B.dec) (fun h1 => ?_) (fun h1 => ?_)
  refine May.chk ?_ fun c1 => May.chk ?_ fun c2 => May.lp (B.ne) fun x1 e1 => May.iff (e1) (fun h2 => ?_) (fun h2 => ?_); rotate_left 2
  refine ⟨.inr (0, (false, ())), ⟨?_, ?_⟩, fun X h => h⟩; rotate_left 2
  refine May.lw ⟨?_, ?_⟩ fun x2 e2 => ⟨.inl (x4_0, (x4_1, (x4_2, (x2, ())))), ⟨⟨?_, ?_, ?_, ?_, ?_⟩, ?_, ?_, fun r => rfl⟩, fun X h => h⟩; rotate_left 9
  refine ⟨.inr (1, (false, ())), ⟨?_, ?_⟩, fun X h => h⟩
  all_goals try dsimp only
  all_goals first | with_reducible assumption | omega | exact fun _ q => q | (unfold laws_lwInts_l4.M; omega) | (exact fun h => ⟨rfl, ints_ne (by assumption)⟩; done) | (exact fun _ => ints_eq' (by assumption) (by assumption) (by assumption); done) | (exact step_eq (by assumption) (by omega) (by assumption) (by grind); done) | (intro k hk; omega; done) | rfl | assumption | (simp only [List.length_append, List.length_cons, List.length_nil, List.length_set, List.length_replicate, Int.natCast_add, Int.natCast_one] at *; omega) | grind
theorem laws_lwInts_l4.X : ∃ S : laws_lwInts_l4.L.α → Nat × Bool × Unit, ∀ s, laws_lwInts_l4.P s.1 s.2.1 s.2.2.1 s.2.2.2.1 → laws_lwInts_l4.Q s.1 s.2.1 s.2.2.1 s.2.2.2.1 (S s) ∧ laws_lwInts_l4.f s.1 s.2.1 s.2.2.1 s.2.2.2.1 (lpx (fun s => laws_lwInts_l4.P s.1 s.2.1 s.2.2.1 s.2.2.2.1) (fun s => laws_lwInts_l4.M s.1 s.2.1 s.2.2.1 s.2.2.2.1) (fun s => laws_lwInts_l4.o s.1 s.2.1 s.2.2.1 s.2.2.2.1 (S s)) s) := loopS (0, (false, ())) fun s => laws_lwInts_l4.x s.1 s.2.1 s.2.2.1 s.2.2.2.1
noncomputable def laws_lwInts_l4.R (x4_0 : List Int) (x4_1 : List Int) (x4_2 : Bool) (x4_3 : Int) : Nat × Bool × Unit := Classical.choose laws_lwInts_l4.X (x4_0, (x4_1, (x4_2, (x4_3, ()))))
theorem laws_lwInts_l4.q (x4_0 : List Int) (x4_1 : List Int) (x4_2 : Bool) (x4_3 : Int) (hp : laws_lwInts_l4.P x4_0 x4_1 x4_2 x4_3) : laws_lwInts_l4.Q x4_0 x4_1 x4_2 x4_3 (laws_lwInts_l4.R x4_0 x4_1 x4_2 x4_3) := (Classical.choose_spec laws_lwInts_l4.X (x4_0, (x4_1, (x4_2, (x4_3, ())))) hp).1
noncomputable def laws_lwInts_l4.k : LCtr := (laws_lwInts_l4.d (fun s => laws_lwInts_l4.R s.1 s.2.1 s.2.2.1 s.2.2.2.1)).ctr
theorem laws_lwInts_l4.g (hG : ∀ c ∈ [], Good Try.prog c) : LGood Try.prog Try.f37.ntmps laws_lwInts_l4.k (bodyAt Try.f37 0) := lgoodC (sp := []) (ct := []) (LL := []) hG (by kernel_rfl) (by rw [show loopsOf (bodyAt Try.f37 0) = [] from by kernel_rfl]; exact noL rfl) (consC' (bs := []) (by kernel_rfl) noC) fun s hp => Eq.mpr (laws_lwInts_l4.w (fun s => laws_lwInts_l4.R s.1 s.2.1 s.2.2.1 s.2.2.2.1) s.1 s.2.1 s.2.2.1 s.2.2.2.1) (Classical.choose_spec laws_lwInts_l4.X s hp).2
def laws_lwInts.enc (a0 : List Int) (a1 : List Int) (r : Bool) : AV × List Blk := (.v (.c (.bool r)), [])
abbrev laws_lwInts.P (a0 : List Int) (a1 : List Int) : Prop := (a0.length ≤ 1000000)
abbrev laws_lwInts.Q (a0 : List Int) (a1 : List Int) (r : Bool) : Prop := (r = true ↔ a0 = a1)
def laws_lwInts.L : FL := fCons (fSh sInts) (fCons (fSh sInts) (fNil))
def laws_lwInts.f (a0 : List Int) (a1 : List Int) (X : AV × List Blk → Prop) : Prop := And (Imp (((a0.length : Int) != (a1.length : Int)) = true) (X (.v (.c (.bool false)), []))) (Imp (((a0.length : Int) != (a1.length : Int)) = false) (And (laws_lwInts_l4.P a0 a1 false 0) (Lt (laws_lwInts_l4.R a0 a1 false 0) fun x3 => And (Imp (Nat.beq x3.1 0 = true) (X (.v (.c (.bool x3.2.1)), []))) (Imp (Nat.beq x3.1 0 = false) (X (.v (.c (.bool true)), []))))))
theorem laws_lwInts.w (a0 : List Int) (a1 : List Int) (K : AV → List Blk → Prop) : evFn (envC [] [] []) [laws_lwInts_l4.k] [] [] Try.f37 (laws_lwInts.L.inp (a0, (a1, ()))).1 (laws_lwInts.L.inp (a0, (a1, ()))).2 K = laws_lwInts.f a0 a1 (fun v => K v.1 v.2) := by kernel_rfl
theorem laws_lwInts.x (a0 : List Int) (a1 : List Int) (hp : laws_lwInts.P a0 a1) : May (laws_lwInts.Q a0 a1) (laws_lwInts.enc a0 a1) (laws_lwInts.f a0 a1) := by
  have p0 := hp
  delta laws_lwInts.f
  refine May.iff (B.ne) (fun h1 => ?_) (fun h1 => ?_)
  refine ⟨(false), ?_, fun X h => h⟩; rotate_left 1
  refine May.chk ⟨?_, ?_, ?_, ?_, ?_⟩ fun c1 => May.lq (laws_lwInts_l4.Q a0 a1 false 0) (laws_lwInts_l4.q a0 a1 false 0 c1) fun x3 q3 => have q3_0 := q3.1; have q3_1 := q3.2; May.iff B.nbeq (fun h2 => ?_) (fun h2 => ?_); rotate_left 5
  refine ⟨(x3.2.1), ?_, fun X h => h⟩; rotate_left 1
  refine ⟨(true), ?_, fun X h => h⟩
  all_goals try dsimp only
  all_goals first | with_reducible assumption | omega | rfl | assumption | (simp only [List.length_append, List.length_cons, List.length_nil, List.length_set, List.length_replicate, Int.natCast_add, Int.natCast_one] at *; omega) | grind
theorem laws_lwInts.X : ∃ S : laws_lwInts.L.α → Bool, ∀ s, laws_lwInts.P s.1 s.2.1 → laws_lwInts.Q s.1 s.2.1 (S s) ∧ ∀ X, X (laws_lwInts.enc s.1 s.2.1 (S s)) → laws_lwInts.f s.1 s.2.1 X := mayS (false) fun s => laws_lwInts.x s.1 s.2.1
noncomputable def laws_lwInts.S (a0 : List Int) (a1 : List Int) : Bool := Classical.choose laws_lwInts.X (a0, (a1, ()))
theorem laws_lwInts.q (a0 : List Int) (a1 : List Int) (hp : laws_lwInts.P a0 a1) : laws_lwInts.Q a0 a1 (laws_lwInts.S a0 a1) := (Classical.choose_spec laws_lwInts.X (a0, (a1, ())) hp).1
noncomputable def laws_lwInts.c : Ctr := hctr 37 [true, true] laws_lwInts.L (some fun s => laws_lwInts.P s.1 s.2.1) (fun s => laws_lwInts.enc s.1 s.2.1 (laws_lwInts.S s.1 s.2.1))
theorem laws_lwInts.good : Good Try.prog laws_lwInts.c :=
  hgoodC (sh := []) (tk := []) (sp := []) (ct := []) (LL := [laws_lwInts_l4.k]) noG (fn := Try.f37) (by kernel_rfl) (by kernel_rfl) (by rw [show loopsOf (bodyOf Try.f37) = [(bodyAt Try.f37 0)] from by kernel_rfl]; exact consL (l := laws_lwInts_l4.k) (by kernel_rfl) (laws_lwInts_l4.g noG) (noL rfl)) (consC' (bs := []) (by kernel_rfl) noC) fun s hp => Eq.mpr (laws_lwInts.w s.1 s.2.1 (fun r bs' => And (r = (laws_lwInts.c.out s).1) (bs' = (laws_lwInts.c.out s).2))) ((Classical.choose_spec laws_lwInts.X s (hp _ rfl)).2 _ ⟨rfl, rfl⟩)
/-! ### laws.FnGot -/
def laws_FnGot.enc (a0 : List Int) (r : Bool) : AV × List Blk := (.v (.c (.bool r)), [])
abbrev laws_FnGot.P (a0 : List Int) : Prop := (∀ k, 0 ≤ a0.getD k 0 ∧ a0.getD k 0 ≤ 255)
abbrev laws_FnGot.Q (a0 : List Int) (r : Bool) : Prop := (r = true)
def laws_FnGot.L : FL := fCons (fC (cArr true kU8s)) (fNil)
def laws_FnGot.f (a0 : List Int) (X : AV × List Blk → Prop) : Prop := And (Imp ((decide ((a0.length : Int) > 1048576)) = true) (X (.v (.c (.bool true)), []))) (Imp ((decide ((a0.length : Int) > 1048576)) = false) (And (spec_DrawStateGot.P a0) (Lt ((spec_DrawStateGot.S a0)) fun x1 => Lt ((impl_StateGot.S x1.1 x1.2)) fun x2 => Lt ((spec_StateGot.S x1.1 x1.2)) fun x3 => And (Imp ((bif x2 != x3 then true else !(spec_StateOk.S x1.1)) = true) (X (.v (.c (.bool (x2 == x3))), []))) (Imp ((bif x2 != x3 then true else !(spec_StateOk.S x1.1)) = false) (Lt (bif decide (x1.2 < 1) then true else decide (x1.2 > 8)) fun x4 => And (Imp (x4 = true) (X (.v (.c (.bool (x2 == 0))), []))) (Imp (x4 = false) (Lt (wrap (x1.2 - 1)) fun x5 => And ((0 : Int) ≤ x5 ∧ x5 < (x1.1.got.length : Int)) (Lt ((impl_StateGot.S x1.1 0)) fun x6 => Lt (bif x2 == (x1.1.got.getD (x5).toNat 0) then x6 == 0 else false) fun x7 => Lt ((impl_StateGot.S x1.1 9)) fun x8 => X (.v (.c (.bool (bif x7 then x8 == 0 else false))), [])))))))))
theorem laws_FnGot.w (a0 : List Int) (K : AV → List Blk → Prop) : evFn (envC [spec_DrawStateGot.c, impl_StateGot.c, spec_StateGot.c, spec_StateOk.c] [] []) [] [] [] Try.f10 (laws_FnGot.L.inp (a0, ())).1 (laws_FnGot.L.inp (a0, ())).2 K = laws_FnGot.f a0 (fun v => K v.1 v.2) := by kernel_rfl
theorem laws_FnGot.x (a0 : List Int) (hp : laws_FnGot.P a0) : May (laws_FnGot.Q a0) (laws_FnGot.enc a0) (laws_FnGot.f a0) := by
  have p0 := hp
  delta laws_FnGot.f
  refine May.iff (B.dec) (fun h1 => ?_) (fun h1 => ?_)
  refine ⟨(true), ?_, fun X h => h⟩; rotate_left 1
  refine May.chk ?_ fun c1 => May.lq (spec_DrawStateGot.Q a0) (spec_DrawStateGot.q a0 ?_) fun x1 q1 => May.lq (impl_StateGot.Q x1.1 x1.2) (impl_StateGot.q x1.1 x1.2) fun x2 q2 => May.lq (spec_StateGot.Q x1.1 x1.2) (spec_StateGot.q x1.1 x1.2) fun x3 q3 => have q3_0 := q3.1; have q3_1 := q3.2; May.iff (B.or (B.ne) (B.not (specSt))) (fun h2 => ?_) (fun h2 => ?_); rotate_left 2
  refine ⟨(x2 == x3), ?_, fun X h => h⟩; rotate_left 1
  refine May.lp (B.or (B.dec) (B.dec)) fun x4 e4 => May.iff (e4) (fun h3 => ?_) (fun h3 => ?_)
  refine ⟨(x2 == 0), ?_, fun X h => h⟩; rotate_left 1
  refine May.lw ⟨?_, ?_⟩ fun x5 e5 => May.chk ?_ fun c2 => May.lq (impl_StateGot.Q x1.1 0) (impl_StateGot.q x1.1 0) fun x6 q6 => May.lp (B.and (B.eq) (B.eq)) fun x7 e7 => May.lq (impl_StateGot.Q x1.1 9) (impl_StateGot.q x1.1 9) fun x8 q8 => ⟨(bif x7 then x8 == 0 else false), ?_, fun X h => h⟩
  all_goals try dsimp only
  all_goals first | with_reducible assumption | omega | (with_reducible rfl; done) | (with_reducible exact gotA (okOf h2) h3 e5; done) | (exact B.eq.2 (gotQ_eq q2 q3); done) | (exact B.eq.2 (got_out q2 h3); done) | (exact (B.and e7 B.eq).2 ⟨⟨got_in q2 (okOf h2) h3 e5, got_out q6 (by omega)⟩, got_out q8 (by omega)⟩; done)
theorem laws_FnGot.X : ∃ S : laws_FnGot.L.α → Bool, ∀ s, laws_FnGot.P s.1 → laws_FnGot.Q s.1 (S s) ∧ ∀ X, X (laws_FnGot.enc s.1 (S s)) → laws_FnGot.f s.1 X := mayS (false) fun s => laws_FnGot.x s.1
noncomputable def laws_FnGot.S (a0 : List Int) : Bool := Classical.choose laws_FnGot.X (a0, ())
theorem laws_FnGot.q (a0 : List Int) (hp : laws_FnGot.P a0) : laws_FnGot.Q a0 (laws_FnGot.S a0) := (Classical.choose_spec laws_FnGot.X (a0, ()) hp).1
noncomputable def laws_FnGot.c : Ctr := hctr 10 [false] laws_FnGot.L (some fun s => laws_FnGot.P s.1) (fun s => laws_FnGot.enc s.1 (laws_FnGot.S s.1))
theorem laws_FnGot.good : Good Try.prog laws_FnGot.c :=
  hgoodC (sh := []) (tk := []) (sp := []) (ct := []) (LL := []) (consG spec_DrawStateGot.good (consG impl_StateGot.good (consG spec_StateGot.good (consG spec_StateOk.good noG)))) (fn := Try.f10) (by kernel_rfl) (by kernel_rfl) (by rw [show loopsOf (bodyOf Try.f10) = [] from by kernel_rfl]; exact noL rfl) (consC' (bs := []) (by kernel_rfl) noC) fun s hp => Eq.mpr (laws_FnGot.w s.1 (fun r bs' => And (r = (laws_FnGot.c.out s).1) (bs' = (laws_FnGot.c.out s).2))) ((Classical.choose_spec laws_FnGot.X s (hp _ rfl)).2 _ ⟨rfl, rfl⟩)
/-! ### laws.FnLive -/
abbrev laws_FnLive_l9.P (x9_0 : Bool) (x9_1 : St) (x9_2 : List Int) (x9_3 : Int) (x9_4 : Int) : Prop := (0 ≤ x9_4) ∧ ((x9_1.sent.length : Int) ≤ 9223372036854775807) ∧ (StOk x9_1) ∧ (x9_2 = lives x9_1.live x9_1.live.length) ∧ (x9_3 = ((lives x9_1.live x9_4.toNat).length : Int)) ∧ (x9_4 ≤ (x9_1.sent.length : Int))
abbrev laws_FnLive_l9.Q (x9_0 : Bool) (x9_1 : St) (x9_2 : List Int) (x9_3 : Int) (x9_4 : Int) (r : Nat × Bool × Int × Unit) : Prop := (¬ r.1 = 0) ∧ (r.2.2.1 = (x9_2.length : Int))
def laws_FnLive_l9.M (x9_0 : Bool) (x9_1 : St) (x9_2 : List Int) (x9_3 : Int) (x9_4 : Int) : Nat := ((x9_1.sent.length : Int) - x9_4).toNat
def laws_FnLive_l9.L : FL := fCons (fC cBool) (fCons (fC (cPtr 1 (cStE true) rfl)) (fCons (fC (cOwn kInts 3)) (fCons (fC cInt) (fCons (fC cInt) (fNil)))))
def laws_FnLive_l9.o0 (x9_0 : Bool) (x9_1 : St) (x9_2 : List Int) (x9_3 : Int) (x9_4 : Int) (r : Nat × Bool × Int × Unit) : Ex × List FV × List Blk := (.ret, [.c (.bool r.2.1)], [])
def laws_FnLive_l9.o1 (x9_0 : Bool) (x9_1 : St) (x9_2 : List Int) (x9_3 : Int) (x9_4 : Int) (r : Nat × Bool × Int × Unit) : Ex × List FV × List Blk := (.exit 0, [.c (.own 0 1 3), .c (.int r.2.2.1)], [.arr (.ints x9_2)])
def laws_FnLive_l9.o (x9_0 : Bool) (x9_1 : St) (x9_2 : List Int) (x9_3 : Int) (x9_4 : Int) (r : Nat × Bool × Int × Unit) : Ex × List FV × List Blk := pickAlt [(Nat.beq r.1 0, laws_FnLive_l9.o0 x9_0 x9_1 x9_2 x9_3 x9_4 r)] (laws_FnLive_l9.o1 x9_0 x9_1 x9_2 x9_3 x9_4 r)
def laws_FnLive_l9.f (x9_0 : Bool) (x9_1 : St) (x9_2 : List Int) (x9_3 : Int) (x9_4 : Int) (X : (laws_FnLive_l9.L.α ⊕ (Ex × List FV × List Blk) → Prop)) : Prop := And (Imp ((decide (x9_4 < (x9_1.sent.length : Int))) = true) (And ((0 : Int) ≤ x9_4 ∧ x9_4 < (x9_1.sent.length : Int)) (Lt ((impl_StateHas.S x9_1 (x9_1.sent.getD (x9_4).toNat zPkt))) fun x5 => And (Imp (x5 = true) (And (Imp (And ((decide (x9_3 ≥ (x9_2.length : Int))) = false) (True)) ((0 : Int) ≤ x9_3 ∧ x9_3 < (x9_2.length : Int))) (And (Imp (And ((decide (x9_3 ≥ (x9_2.length : Int))) = false) (True)) ((x9_3).toNat < x9_2.length)) (Lt (wrap (x9_4 + 1)) fun x6 => Lt (bif decide (x9_3 ≥ (x9_2.length : Int)) then true else (x9_2.getD (x9_3).toNat 0) != x6) fun x7 => And (Imp (x7 = true) (X (.inr (.ret, [.c (.bool false)], [])))) (Imp (x7 = false) (Lt (wrap (x9_3 + 1)) fun x8 => X (.inl (x9_0, (x9_1, (x9_2, (x8, (x6, ())))))))))))) (Imp (x5 = false) (Lt (wrap (x9_4 + 1)) fun x9 => X (.inl (x9_0, (x9_1, (x9_2, (x9_3, (x9, ()))))))))))) (Imp ((decide (x9_4 < (x9_1.sent.length : Int))) = false) (X (.inr (.exit 0, [.c (.own 0 1 3), .c (.int x9_3)], [.arr (.ints x9_2)]))))
def laws_FnLive_l9.d (S : laws_FnLive_l9.L.α → Nat × Bool × Int × Unit) : LDat := ldat 9 [2, 3, 4, 5, 6] [] laws_FnLive_l9.L (fun s => laws_FnLive_l9.P s.1 s.2.1 s.2.2.1 s.2.2.2.1 s.2.2.2.2.1) (fun s => [(Nat.beq (S s).1 0, laws_FnLive_l9.o0 s.1 s.2.1 s.2.2.1 s.2.2.2.1 s.2.2.2.2.1 (S s))]) (fun s => laws_FnLive_l9.o1 s.1 s.2.1 s.2.2.1 s.2.2.2.1 s.2.2.2.2.1 (S s)) (fun s => laws_FnLive_l9.M s.1 s.2.1 s.2.2.1 s.2.2.2.1 s.2.2.2.2.1) 0 (fun e => match e with | .ret => [2] | _ => [4, 5]) (fun _ => [])
theorem laws_FnLive_l9.w (S : laws_FnLive_l9.L.α → Nat × Bool × Int × Unit) (x9_0 : Bool) (x9_1 : St) (x9_2 : List Int) (x9_3 : Int) (x9_4 : Int) : evBody (envC [spec_DrawStateLive.c, impl_StateLive.c, spec_StateLive.c, laws_lwInts.c, spec_StateOk.c, impl_StateHas.c] [] []) [] (bodyAt Try.f11 0) (laws_FnLive_l9.d S) (x9_0, (x9_1, (x9_2, (x9_3, (x9_4, ()))))) = laws_FnLive_l9.f x9_0 x9_1 x9_2 x9_3 x9_4 (lpx (laws_FnLive_l9.d S).pre (laws_FnLive_l9.d S).μ (laws_FnLive_l9.d S).out (x9_0, (x9_1, (x9_2, (x9_3, (x9_4, ())))))) := by kernel_rfl
theorem laws_FnLive_l9.x (x9_0 : Bool) (x9_1 : St) (x9_2 : List Int) (x9_3 : Int) (x9_4 : Int) (hp : laws_FnLive_l9.P x9_0 x9_1 x9_2 x9_3 x9_4) : May (R := laws_FnLive_l9.L.α ⊕ (Nat × Bool × Int × Unit)) (lpq (fun s => laws_FnLive_l9.P s.1 s.2.1 s.2.2.1 s.2.2.2.1 s.2.2.2.2.1) (fun s => laws_FnLive_l9.M s.1 s.2.1 s.2.2.1 s.2.2.2.1 s.2.2.2.2.1) (fun s => laws_FnLive_l9.Q s.1 s.2.1 s.2.2.1 s.2.2.2.1 s.2.2.2.2.1) (fun s => laws_FnLive_l9.o s.1 s.2.1 s.2.2.1 s.2.2.2.1 s.2.2.2.2.1) (x9_0, (x9_1, (x9_2, (x9_3, (x9_4, ())))))) (lpo (fun s => laws_FnLive_l9.o s.1 s.2.1 s.2.2.1 s.2.2.2.1 s.2.2.2.2.1) (x9_0, (x9_1, (x9_2, (x9_3, (x9_4, ())))))) (laws_FnLive_l9.f x9_0 x9_1 x9_2 x9_3 x9_4) := by
  obtain ⟨p0, p1, p2, p3, p4, p5⟩ := hp
  obtain ⟨l1, l2, l3, l4⟩ := stL p2
  have hA := fun a b => has_at p2 (i := x9_4) a b
  have hG := fun a b h => lives_get (l := x9_1.live) (i := x9_4) (n := x9_1.live.length) a b h
  have hL := lives_len (l := x9_1.live) x9_4.toNat
  delta laws_FnLive_l9.f
  refine May.iff (B.dec) (fun h1 => ?_) (fun h1 => ?_)
  refine May.chk ?_ fun c1 => May.lq (impl_StateHas.Q x9_1 (x9_1.sent.getD (x9_4).toNat zPkt)) (impl_StateHas.q x9_1 (x9_1.sent.getD (x9_4).toNat zPkt)) fun x5 q5 => May.iff (Iff.rfl) (fun h2 => ?_) (fun h2 => ?_); rotate_left 1
  refine May.chk (fun hπ => have g1 := B.neg (B.dec) hπ.1; ?_) fun c2 => May.chk (fun hπ => have g1 := B.neg (B.dec) hπ.1; ?_) fun c3 => May.lwi fun x6 e6 => May.lp (B.or (B.dec) (B.ne)) fun x7 e7 => May.iff (e7) (fun h3 => ?_) (fun h3 => ?_); rotate_left 2
  refine ⟨.inr (0, (false, (0, ()))), ⟨?_, ?_⟩, fun X h => h⟩; rotate_left 2
  refine May.lw ⟨?_, ?_⟩ fun x8 e8 => ⟨.inl (x9_0, (x9_1, (x9_2, (x8, (x6, ()))))), ⟨⟨?_, ?_, ?_, ?_, ?_, ?_⟩, ?_, ?_, fun r => rfl⟩, fun X h => h⟩; rotate_left 10
  refine May.lw ⟨?_, ?_⟩ fun x9 e9 => ⟨.inl (x9_0, (x9_1, (x9_2, (x9_3, (x9, ()))))), ⟨⟨?_, ?_, ?_, ?_, ?_, ?_⟩, ?_, ?_, fun r => rfl⟩, fun X h => h⟩; rotate_left 10
  refine ⟨.inr (1, (false, (x9_3, ()))), ⟨?_, ?_⟩, fun X h => h⟩
  all_goals try dsimp only
  all_goals first | with_reducible assumption | omega | exact fun _ q => q | (unfold laws_FnLive_l9.M; omega) | ((show x9_3 = _); rw [p4, p3, show x9_4.toNat = x9_1.live.length by omega]; done) | (exfalso; have hg := hG p0 (by omega) ((hA p0 h1).1 (q5.1 h2)); rw [← p3] at hg; have e := e6 (by omega); have t : x9_3.toNat = (lives x9_1.live x9_4.toNat).length := (by omega); rw [← t] at hg; exact h3.elim (fun h => by omega) fun h => h (by rw [hg.2, e]); done) | (rw [e8, p4, ← lives_t (e6 (by omega)) p0 ((hA p0 h1).1 (q5.1 h2))]; simp only [List.length_append, List.length_cons, List.length_nil]; omega; done) | (rw [p4, lives_f (by assumption) p0 (fun h => h2 (q5.2 ((hA p0 h1).2 h)))]; done) | (unfold laws_FnLive_l9.M; have := e6 (by omega); omega; done)
theorem laws_FnLive_l9.X : ∃ S : laws_FnLive_l9.L.α → Nat × Bool × Int × Unit, ∀ s, laws_FnLive_l9.P s.1 s.2.1 s.2.2.1 s.2.2.2.1 s.2.2.2.2.1 → laws_FnLive_l9.Q s.1 s.2.1 s.2.2.1 s.2.2.2.1 s.2.2.2.2.1 (S s) ∧ laws_FnLive_l9.f s.1 s.2.1 s.2.2.1 s.2.2.2.1 s.2.2.2.2.1 (lpx (fun s => laws_FnLive_l9.P s.1 s.2.1 s.2.2.1 s.2.2.2.1 s.2.2.2.2.1) (fun s => laws_FnLive_l9.M s.1 s.2.1 s.2.2.1 s.2.2.2.1 s.2.2.2.2.1) (fun s => laws_FnLive_l9.o s.1 s.2.1 s.2.2.1 s.2.2.2.1 s.2.2.2.2.1 (S s)) s) := loopS (0, (false, (0, ()))) fun s => laws_FnLive_l9.x s.1 s.2.1 s.2.2.1 s.2.2.2.1 s.2.2.2.2.1
noncomputable def laws_FnLive_l9.R (x9_0 : Bool) (x9_1 : St) (x9_2 : List Int) (x9_3 : Int) (x9_4 : Int) : Nat × Bool × Int × Unit := Classical.choose laws_FnLive_l9.X (x9_0, (x9_1, (x9_2, (x9_3, (x9_4, ())))))
theorem laws_FnLive_l9.q (x9_0 : Bool) (x9_1 : St) (x9_2 : List Int) (x9_3 : Int) (x9_4 : Int) (hp : laws_FnLive_l9.P x9_0 x9_1 x9_2 x9_3 x9_4) : laws_FnLive_l9.Q x9_0 x9_1 x9_2 x9_3 x9_4 (laws_FnLive_l9.R x9_0 x9_1 x9_2 x9_3 x9_4) := (Classical.choose_spec laws_FnLive_l9.X (x9_0, (x9_1, (x9_2, (x9_3, (x9_4, ()))))) hp).1
noncomputable def laws_FnLive_l9.k : LCtr := (laws_FnLive_l9.d (fun s => laws_FnLive_l9.R s.1 s.2.1 s.2.2.1 s.2.2.2.1 s.2.2.2.2.1)).ctr
theorem laws_FnLive_l9.g (hG : ∀ c ∈ [spec_DrawStateLive.c, impl_StateLive.c, spec_StateLive.c, laws_lwInts.c, spec_StateOk.c, impl_StateHas.c], Good Try.prog c) : LGood Try.prog Try.f11.ntmps laws_FnLive_l9.k (bodyAt Try.f11 0) := lgoodC (sp := []) (ct := []) (LL := []) hG (by kernel_rfl) (by rw [show loopsOf (bodyAt Try.f11 0) = [] from by kernel_rfl]; exact noL rfl) (consC' (bs := []) (by kernel_rfl) noC) fun s hp => Eq.mpr (laws_FnLive_l9.w (fun s => laws_FnLive_l9.R s.1 s.2.1 s.2.2.1 s.2.2.2.1 s.2.2.2.2.1) s.1 s.2.1 s.2.2.1 s.2.2.2.1 s.2.2.2.2.1) (Classical.choose_spec laws_FnLive_l9.X s hp).2
def laws_FnLive.enc (a0 : List Int) (r : Bool) : AV × List Blk := (.v (.c (.bool r)), [])
abbrev laws_FnLive.P (a0 : List Int) : Prop := (∀ k, 0 ≤ a0.getD k 0 ∧ a0.getD k 0 ≤ 255)
abbrev laws_FnLive.Q (a0 : List Int) (r : Bool) : Prop := (r = true)
def laws_FnLive.L : FL := fCons (fC (cArr true kU8s)) (fNil)
def laws_FnLive.f (a0 : List Int) (X : AV × List Blk → Prop) : Prop := And (Imp ((decide ((a0.length : Int) > 1048576)) = true) (X (.v (.c (.bool true)), []))) (Imp ((decide ((a0.length : Int) > 1048576)) = false) (And (spec_DrawStateLive.P a0) (Lt ((spec_DrawStateLive.S a0)) fun x1 => Lt ((impl_StateLive.S x1)) fun x2 => Lt ((spec_StateLive.S x1)) fun x3 => And (laws_lwInts.P x2 x3) (Lt ((laws_lwInts.S x2 x3)) fun x4 => And (Imp ((bif !x4 then true else !(spec_StateOk.S x1)) = true) (And (laws_lwInts.P x2 x3) (X (.v (.c (.bool x4)), [])))) (Imp ((bif !x4 then true else !(spec_StateOk.S x1)) = false) (And (laws_FnLive_l9.P false x1 x2 0 0) (Lt (laws_FnLive_l9.R false x1 x2 0 0) fun x10 => And (Imp (Nat.beq x10.1 0 = true) (X (.v (.c (.bool x10.2.1)), []))) (Imp (Nat.beq x10.1 0 = false) (X (.v (.c (.bool (x10.2.2.1 == (x2.length : Int)))), []))))))))))
theorem laws_FnLive.w (a0 : List Int) (K : AV → List Blk → Prop) : evFn (envC [spec_DrawStateLive.c, impl_StateLive.c, spec_StateLive.c, laws_lwInts.c, spec_StateOk.c, impl_StateHas.c] [] []) [laws_FnLive_l9.k] [] [] Try.f11 (laws_FnLive.L.inp (a0, ())).1 (laws_FnLive.L.inp (a0, ())).2 K = laws_FnLive.f a0 (fun v => K v.1 v.2) := by kernel_rfl
theorem laws_FnLive.x (a0 : List Int) (hp : laws_FnLive.P a0) : May (laws_FnLive.Q a0) (laws_FnLive.enc a0) (laws_FnLive.f a0) := by
  have p0 := hp
  delta laws_FnLive.f
  refine May.iff (B.dec) (fun h1 => ?_) (fun h1 => ?_)
  refine ⟨(true), ?_, fun X h => h⟩; rotate_left 1
  refine May.chk ?_ fun c1 => May.lq (spec_DrawStateLive.Q a0) (spec_DrawStateLive.q a0 ?_) fun x1 q1 => May.lq (impl_StateLive.Q x1) (impl_StateLive.q x1) fun x2 q2 => have q2_0 := q2.1; have q2_1 := q2.2; May.lq (spec_StateLive.Q x1) (spec_StateLive.q x1) fun x3 q3 => have q3_0 := q3.1; have q3_1 := q3.2; May.chk ?_ fun c2 => May.lq (laws_lwInts.Q x2 x3) (laws_lwInts.q x2 x3 ?_) fun x4 q4 => May.iff (B.or (B.not (Iff.rfl)) (B.not (specSt))) (fun h2 => ?_) (fun h2 => ?_); rotate_left 4
  refine May.chk ?_ fun c3 => ⟨(x4), ?_, fun X h => h⟩; rotate_left 2
  refine May.chk ⟨?_, ?_, ?_, ?_, ?_, ?_⟩ fun c4 => May.lq (laws_FnLive_l9.Q false x1 x2 0 0) (laws_FnLive_l9.q false x1 x2 0 0 c4) fun x10 q10 => have q10_0 := q10.1; have q10_1 := q10.2; May.iff B.nbeq (fun h3 => ?_) (fun h3 => ?_); rotate_left 6
  refine ⟨(x10.2.1), ?_, fun X h => h⟩; rotate_left 1
  refine ⟨(x10.2.2.1 == (x2.length : Int)), ?_, fun X h => h⟩
  all_goals try dsimp only
  all_goals first | with_reducible assumption | omega | (with_reducible rfl; done) | (exact Nat.le_trans (live_le q2_0 q2_1) (by decide); done) | (exact q4.2 (live_same q2_0 q2_1 q3_0 q3_1); done) | (exact okOf h2; done) | (exact q2_0 (okOf h2); done) | (have := stL (okOf h2); omega; done) | (exact absurd h3 q10_0; done) | (exact decide_eq_true q10_1; done) | (exact B.eq.2 q10_1; done) | (rfl; done)
theorem laws_FnLive.X : ∃ S : laws_FnLive.L.α → Bool, ∀ s, laws_FnLive.P s.1 → laws_FnLive.Q s.1 (S s) ∧ ∀ X, X (laws_FnLive.enc s.1 (S s)) → laws_FnLive.f s.1 X := mayS (false) fun s => laws_FnLive.x s.1
noncomputable def laws_FnLive.S (a0 : List Int) : Bool := Classical.choose laws_FnLive.X (a0, ())
theorem laws_FnLive.q (a0 : List Int) (hp : laws_FnLive.P a0) : laws_FnLive.Q a0 (laws_FnLive.S a0) := (Classical.choose_spec laws_FnLive.X (a0, ()) hp).1
noncomputable def laws_FnLive.c : Ctr := hctr 11 [false] laws_FnLive.L (some fun s => laws_FnLive.P s.1) (fun s => laws_FnLive.enc s.1 (laws_FnLive.S s.1))
theorem laws_FnLive.good : Good Try.prog laws_FnLive.c :=
  hgoodC (sh := []) (tk := []) (sp := []) (ct := []) (LL := [laws_FnLive_l9.k]) (consG spec_DrawStateLive.good (consG impl_StateLive.good (consG spec_StateLive.good (consG laws_lwInts.good (consG spec_StateOk.good (consG impl_StateHas.good noG)))))) (fn := Try.f11) (by kernel_rfl) (by kernel_rfl) (by rw [show loopsOf (bodyOf Try.f11) = [(bodyAt Try.f11 0)] from by kernel_rfl]; exact consL (l := laws_FnLive_l9.k) (by kernel_rfl) (laws_FnLive_l9.g (consG spec_DrawStateLive.good (consG impl_StateLive.good (consG spec_StateLive.good (consG laws_lwInts.good (consG spec_StateOk.good (consG impl_StateHas.good noG))))))) (noL rfl)) (consC' (bs := []) (by kernel_rfl) noC) fun s hp => Eq.mpr (laws_FnLive.w s.1 (fun r bs' => And (r = (laws_FnLive.c.out s).1) (bs' = (laws_FnLive.c.out s).2))) ((Classical.choose_spec laws_FnLive.X s (hp _ rfl)).2 _ ⟨rfl, rfl⟩)
end Hw
end Go.Proofs.Ytfboldbfbmmahaa
