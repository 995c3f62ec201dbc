/- What is not settled: made by gen.py. -/
import Derived.Test.YtmhighcagpbmeaaG0
set_option linter.unusedVariables false
set_option linter.unusedSimpArgs false
set_option maxRecDepth 100000
set_option maxHeartbeats 400000
namespace Go.Proofs.Ytmhighcagpbmeaa
namespace Hw
open Go
attribute [local irreducible] evFn evBody wrap wxor
/-! ### impl.StateHas -/
def impl_StateHas.enc (a0 : St) (a1 : Pkt) (r : Bool) : AV × List Blk := (.v (.c (.bool r)), [])
abbrev impl_StateHas.P (a0 : St) (a1 : Pkt) : Prop := True
abbrev impl_StateHas.Q (a0 : St) (a1 : Pkt) (r : Bool) : Prop := (r = true ↔ HasP a0 a1)
def impl_StateHas.L : FL := fCons (fSh sSt) (fCons (fSh sPkt) (fNil))
def impl_StateHas.f (a0 : St) (a1 : Pkt) (X : AV × List Blk → Prop) : Prop := Lt (bif !(impl_StateOk.S a0) then true else decide (a1.seq < 1)) fun x1 => Lt (bif x1 then true else decide (a1.seq > (a0.sent.length : Int))) fun x2 => And (Imp (x2 = true) (X (.v (.c (.bool false)), []))) (Imp (x2 = false) (Lt (wrap (a1.seq - 1)) fun x3 => And ((0 : Int) ≤ x3 ∧ x3 < (a0.sent.length : Int)) (And (Imp (And ((decide ((a0.sent.getD (x3).toNat zPkt) = a1)) = true) (True)) ((0 : Int) ≤ x3 ∧ x3 < (a0.live.length : Int))) (Lt (bif decide ((a0.sent.getD (x3).toNat zPkt) = a1) then a0.live.getD (x3).toNat false else false) fun x4 => X (.v (.c (.bool x4)), [])))))
theorem impl_StateHas.w (a0 : St) (a1 : Pkt) (K : AV → List Blk → Prop) : evFn (envC [impl_StateOk.c] [] []) [] [] [] Try.f25 (impl_StateHas.L.inp (a0, (a1, ()))).1 (impl_StateHas.L.inp (a0, (a1, ()))).2 K = impl_StateHas.f a0 a1 (fun v => K v.1 v.2) := by kernel_rfl
theorem impl_StateHas.x (a0 : St) (a1 : Pkt) (hp : impl_StateHas.P a0 a1) : May (impl_StateHas.Q a0 a1) (impl_StateHas.enc a0 a1) (impl_StateHas.f a0 a1) := by
  delta impl_StateHas.f
  refine May.lp (B.or (B.not (implSt)) (B.dec)) fun x1 e1 => May.lp (B.or (e1) (B.dec)) fun x2 e2 => May.iff (e2) (fun h1 => ?_) (fun h1 => ?_)
  refine ⟨(false), ?_, fun X h => h⟩; rotate_left 1
  refine May.lw ⟨?_, ?_⟩ fun x3 e3 => May.chk ?_ fun c1 => May.chk (fun hπ => have g1 := Iff.mp (B.dec) hπ.1; ?_) fun c2 => May.lp (B.and (B.dec) (Iff.rfl)) fun x4 e4 => ⟨(x4), ?_, fun X h => h⟩
  all_goals try dsimp only
  all_goals first | with_reducible assumption | omega | (simp only [List.length_append, List.length_cons, List.length_nil, List.length_set, List.length_replicate, Int.natCast_add, Int.natCast_one] at *; omega) | grind [stL]
theorem impl_StateHas.X : ∃ S : impl_StateHas.L.α → Bool, ∀ s, impl_StateHas.P s.1 s.2.1 → impl_StateHas.Q s.1 s.2.1 (S s) ∧ ∀ X, X (impl_StateHas.enc s.1 s.2.1 (S s)) → impl_StateHas.f s.1 s.2.1 X := mayS (false) fun s => impl_StateHas.x s.1 s.2.1
noncomputable def impl_StateHas.S (a0 : St) (a1 : Pkt) : Bool := Classical.choose impl_StateHas.X (a0, (a1, ()))
theorem impl_StateHas.q (a0 : St) (a1 : Pkt) : impl_StateHas.Q a0 a1 (impl_StateHas.S a0 a1) := (Classical.choose_spec impl_StateHas.X (a0, (a1, ())) trivial).1
noncomputable def impl_StateHas.c : Ctr := hctr 25 [true, false] impl_StateHas.L none (fun s => impl_StateHas.enc s.1 s.2.1 (impl_StateHas.S s.1 s.2.1))
theorem impl_StateHas.good : Good Try.prog impl_StateHas.c :=
  hgoodC (sh := []) (tk := []) (sp := []) (ct := []) (LL := []) (consG impl_StateOk.good noG) (fn := Try.f25) (by kernel_rfl) (by kernel_rfl) (by rw [show loopsOf (bodyOf Try.f25) = [] from by kernel_rfl]; exact noL rfl) (consC' (bs := []) (by kernel_rfl) noC) fun s hp => Eq.mpr (impl_StateHas.w s.1 s.2.1 (fun r bs' => And (r = (impl_StateHas.c.out s).1) (bs' = (impl_StateHas.c.out s).2))) ((Classical.choose_spec impl_StateHas.X s trivial).2 _ ⟨rfl, rfl⟩)
/-! ### impl.StateLive -/
abbrev impl_StateLive_l5.P (x5_0 : List Int) (x5_1 : List Bool) (x5_2 : Int) (x5_3 : Int) : Prop := (0 ≤ x5_3) ∧ (x5_2 ≤ 9223372036854775807) ∧ (x5_2 = (x5_1.length : Int)) ∧ (x5_0 = lives x5_1 x5_3.toNat) ∧ (x5_1.length ≤ 8) ∧ (x5_3 ≤ (x5_1.length : Int))
abbrev impl_StateLive_l5.Q (x5_0 : List Int) (x5_1 : List Bool) (x5_2 : Int) (x5_3 : Int) (r : Nat × (List Int) × Unit) : Prop := (r.2.1 = lives x5_1 x5_1.length)
def impl_StateLive_l5.M (x5_0 : List Int) (x5_1 : List Bool) (x5_2 : Int) (x5_3 : Int) : Nat := (x5_2 - x5_3).toNat
def impl_StateLive_l5.L : FL := fCons (fC (cOwn kInts 3)) (fCons (fC (cArr false kBools)) (fCons (fC cInt) (fCons (fC cInt) (fNil))))
def impl_StateLive_l5.o0 (x5_0 : List Int) (x5_1 : List Bool) (x5_2 : Int) (x5_3 : Int) (r : Nat × (List Int) × Unit) : Ex × List FV × List Blk := (.exit 0, [.c (.own 0 1 3)], [.arr (.ints r.2.1)])
def impl_StateLive_l5.o (x5_0 : List Int) (x5_1 : List Bool) (x5_2 : Int) (x5_3 : Int) (r : Nat × (List Int) × Unit) : Ex × List FV × List Blk := pickAlt [] (impl_StateLive_l5.o0 x5_0 x5_1 x5_2 x5_3 r)
def impl_StateLive_l5.f (x5_0 : List Int) (x5_1 : List Bool) (x5_2 : Int) (x5_3 : Int) (X : (impl_StateLive_l5.L.α ⊕ (Ex × List FV × List Blk) → Prop)) : Prop := And (Imp ((decide (x5_3 < x5_2)) = true) (And ((0 : Int) ≤ x5_3 ∧ x5_3 < (x5_1.length : Int)) (And (Imp ((x5_1.getD (x5_3).toNat false) = true) (Lt (wrap (x5_3 + 1)) fun x1 => And ((x5_0 ++ ([x1])).length ≤ 4294967296) (X (.inl ((x5_0 ++ ([x1])), (x5_1, (x5_2, (x1, ())))))))) (Imp ((x5_1.getD (x5_3).toNat false) = false) (Lt (wrap (x5_3 + 1)) fun x2 => X (.inl (x5_0, (x5_1, (x5_2, (x2, ())))))))))) (Imp ((decide (x5_3 < x5_2)) = false) (X (.inr (.exit 0, [.c (.own 0 1 3)], [.arr (.ints x5_0)]))))
def impl_StateLive_l5.d (S : impl_StateLive_l5.L.α → Nat × (List Int) × Unit) : LDat := ldat 5 [3, 10, 11, 12] [[some (.int, 3)]] impl_StateLive_l5.L (fun s => impl_StateLive_l5.P s.1 s.2.1 s.2.2.1 s.2.2.2.1) (fun s => []) (fun s => impl_StateLive_l5.o0 s.1 s.2.1 s.2.2.1 s.2.2.2.1 (S s)) (fun s => impl_StateLive_l5.M s.1 s.2.1 s.2.2.1 s.2.2.2.1) 0 (fun _ => [3]) (fun _ => [[some (.int, 3)]])
theorem impl_StateLive_l5.w (S : impl_StateLive_l5.L.α → Nat × (List Int) × Unit) (x5_0 : List Int) (x5_1 : List Bool) (x5_2 : Int) (x5_3 : Int) : evBody (envC [impl_StateOk.c] [] []) [] (bodyAt Try.f23 0) (impl_StateLive_l5.d S) (x5_0, (x5_1, (x5_2, (x5_3, ())))) = impl_StateLive_l5.f x5_0 x5_1 x5_2 x5_3 (lpx (impl_StateLive_l5.d S).pre (impl_StateLive_l5.d S).μ (impl_StateLive_l5.d S).out (x5_0, (x5_1, (x5_2, (x5_3, ()))))) := by kernel_rfl
theorem impl_StateLive_l5.x (x5_0 : List Int) (x5_1 : List Bool) (x5_2 : Int) (x5_3 : Int) (hp : impl_StateLive_l5.P x5_0 x5_1 x5_2 x5_3) : May (R := impl_StateLive_l5.L.α ⊕ (Nat × (List Int) × Unit)) (lpq (fun s => impl_StateLive_l5.P s.1 s.2.1 s.2.2.1 s.2.2.2.1) (fun s => impl_StateLive_l5.M s.1 s.2.1 s.2.2.1 s.2.2.2.1) (fun s => impl_StateLive_l5.Q s.1 s.2.1 s.2.2.1 s.2.2.2.1) (fun s => impl_StateLive_l5.o s.1 s.2.1 s.2.2.1 s.2.2.2.1) (x5_0, (x5_1, (x5_2, (x5_3, ()))))) (lpo (fun s => impl_StateLive_l5.o s.1 s.2.1 s.2.2.1 s.2.2.2.1) (x5_0, (x5_1, (x5_2, (x5_3, ()))))) (impl_StateLive_l5.f x5_0 x5_1 x5_2 x5_3) := by
  obtain ⟨p0, p1, p2, p3, p4, p5⟩ := hp
  delta impl_StateLive_l5.f
  refine May.iff (B.dec) (fun h1 => ?_) (fun h1 => ?_)
  refine May.chk ?_ fun c1 => May.iff (Iff.rfl) (fun h2 => ?_) (fun h2 => ?_); rotate_left 1
  refine May.lw ⟨?_, ?_⟩ fun x1 e1 => May.chk ?_ fun c2 => ⟨.inl ((x5_0 ++ ([x1])), (x5_1, (x5_2, (x1, ())))), ⟨⟨?_, ?_, ?_, ?_, ?_, ?_⟩, ?_, ?_, fun r => rfl⟩, fun X h => h⟩; rotate_left 11
  refine May.lw ⟨?_, ?_⟩ fun x2 e2 => ⟨.inl (x5_0, (x5_1, (x5_2, (x2, ())))), ⟨⟨?_, ?_, ?_, ?_, ?_, ?_⟩, ?_, ?_, fun r => rfl⟩, fun X h => h⟩; rotate_left 10
  refine ⟨.inr (0, (x5_0, ())), (show impl_StateLive_l5.Q x5_0 x5_1 x5_2 x5_3 (0, (x5_0, ())) from ?_), fun X h => h⟩
  all_goals try dsimp only
  all_goals first | with_reducible assumption | omega | exact fun _ q => q | (unfold impl_StateLive_l5.M; omega) | (have := stL (s := a0) (by grind); omega; done) | (rw [p3, e1]; exact lives_t rfl (by omega) h2; done) | (rw [p3]; exact lives_f (by omega) (by omega) h2; done) | ((show x5_0 = lives x5_1 x5_1.length); rw [p3, show x5_3.toNat = x5_1.length by omega]; done) | (have := lives_len (l := x5_1) x5_3.toNat; rw [p3]; simp only [List.length_append, List.length_cons, List.length_nil]; omega; done) | (rfl; done) | rfl | assumption | (simp only [List.length_append, List.length_cons, List.length_nil, List.length_set, List.length_replicate, Int.natCast_add, Int.natCast_one] at *; omega) | grind
theorem impl_StateLive_l5.X : ∃ S : impl_StateLive_l5.L.α → Nat × (List Int) × Unit, ∀ s, impl_StateLive_l5.P s.1 s.2.1 s.2.2.1 s.2.2.2.1 → impl_StateLive_l5.Q s.1 s.2.1 s.2.2.1 s.2.2.2.1 (S s) ∧ impl_StateLive_l5.f s.1 s.2.1 s.2.2.1 s.2.2.2.1 (lpx (fun s => impl_StateLive_l5.P s.1 s.2.1 s.2.2.1 s.2.2.2.1) (fun s => impl_StateLive_l5.M s.1 s.2.1 s.2.2.1 s.2.2.2.1) (fun s => impl_StateLive_l5.o s.1 s.2.1 s.2.2.1 s.2.2.2.1 (S s)) s) := loopS (0, ([], ())) fun s => impl_StateLive_l5.x s.1 s.2.1 s.2.2.1 s.2.2.2.1
noncomputable def impl_StateLive_l5.R (x5_0 : List Int) (x5_1 : List Bool) (x5_2 : Int) (x5_3 : Int) : Nat × (List Int) × Unit := Classical.choose impl_StateLive_l5.X (x5_0, (x5_1, (x5_2, (x5_3, ()))))
theorem impl_StateLive_l5.q (x5_0 : List Int) (x5_1 : List Bool) (x5_2 : Int) (x5_3 : Int) (hp : impl_StateLive_l5.P x5_0 x5_1 x5_2 x5_3) : impl_StateLive_l5.Q x5_0 x5_1 x5_2 x5_3 (impl_StateLive_l5.R x5_0 x5_1 x5_2 x5_3) := (Classical.choose_spec impl_StateLive_l5.X (x5_0, (x5_1, (x5_2, (x5_3, ())))) hp).1
noncomputable def impl_StateLive_l5.k : LCtr := (impl_StateLive_l5.d (fun s => impl_StateLive_l5.R s.1 s.2.1 s.2.2.1 s.2.2.2.1)).ctr
theorem impl_StateLive_l5.g (hG : ∀ c ∈ [impl_StateOk.c], Good Try.prog c) : LGood Try.prog Try.f23.ntmps impl_StateLive_l5.k (bodyAt Try.f23 0) := lgoodC (sp := []) (ct := []) (LL := []) hG (by kernel_rfl) (by rw [show loopsOf (bodyAt Try.f23 0) = [] from by kernel_rfl]; exact noL rfl) (consC' (bs := []) (by kernel_rfl) noC) fun s hp => Eq.mpr (impl_StateLive_l5.w (fun s => impl_StateLive_l5.R s.1 s.2.1 s.2.2.1 s.2.2.2.1) s.1 s.2.1 s.2.2.1 s.2.2.2.1) (Classical.choose_spec impl_StateLive_l5.X s hp).2
def impl_StateLive.enc (a0 : St) (r : (List Int)) : AV × List Blk := (.v (.c (.arr true (.ints r))), [])
abbrev impl_StateLive.P (a0 : St) : Prop := True
abbrev impl_StateLive.Q (a0 : St) (r : (List Int)) : Prop := (StOk a0 → r = lives a0.live a0.live.length) ∧ (¬ StOk a0 → r = [])
def impl_StateLive.L : FL := fCons (fSh sSt) (fNil)
def impl_StateLive.f (a0 : St) (X : AV × List Blk → Prop) : Prop := And (Imp ((!(impl_StateOk.S a0)) = true) (X (.v (.c (.arr true (.ints []))), []))) (Imp ((!(impl_StateOk.S a0)) = false) (And (impl_StateLive_l5.P [] a0.live (a0.live.length : Int) 0) (Lt (impl_StateLive_l5.R [] a0.live (a0.live.length : Int) 0) fun x3 => X (.v (.c (.arr true (.ints x3.2.1))), []))))
theorem impl_StateLive.w (a0 : St) (K : AV → List Blk → Prop) : evFn (envC [impl_StateOk.c] [] [] true) [impl_StateLive_l5.k] [[some (.int, 3)]] [] Try.f23 (impl_StateLive.L.inp (a0, ())).1 (impl_StateLive.L.inp (a0, ())).2 K = impl_StateLive.f a0 (fun v => K v.1 v.2) := by kernel_rfl
theorem impl_StateLive.x (a0 : St) (hp : impl_StateLive.P a0) : May (impl_StateLive.Q a0) (impl_StateLive.enc a0) (impl_StateLive.f a0) := by
  delta impl_StateLive.f
  refine May.iff (B.not (implSt)) (fun h1 => ?_) (fun h1 => ?_)
  refine ⟨([]), ⟨?_, ?_⟩, fun X h => h⟩; rotate_left 2
  refine May.chk ⟨?_, ?_, ?_, ?_, ?_, ?_⟩ fun c1 => May.lq (impl_StateLive_l5.Q [] a0.live (a0.live.length : Int) 0) (impl_StateLive_l5.q [] a0.live (a0.live.length : Int) 0 c1) fun x3 q3 => ⟨(x3.2.1), ⟨?_, ?_⟩, fun X h => h⟩
  all_goals try dsimp only
  all_goals first | with_reducible assumption | omega | (have := stL (s := a0) (by grind); omega; done) | rfl | assumption | (simp only [List.length_append, List.length_cons, List.length_nil, List.length_set, List.length_replicate, Int.natCast_add, Int.natCast_one] at *; omega) | grind
theorem impl_StateLive.X : ∃ S : impl_StateLive.L.α → (List Int), ∀ s, impl_StateLive.P s.1 → impl_StateLive.Q s.1 (S s) ∧ ∀ X, X (impl_StateLive.enc s.1 (S s)) → impl_StateLive.f s.1 X := mayS ([]) fun s => impl_StateLive.x s.1
noncomputable def impl_StateLive.S (a0 : St) : (List Int) := Classical.choose impl_StateLive.X (a0, ())
theorem impl_StateLive.q (a0 : St) : impl_StateLive.Q a0 (impl_StateLive.S a0) := (Classical.choose_spec impl_StateLive.X (a0, ()) trivial).1
noncomputable def impl_StateLive.c : Ctr := hctr 23 [true] impl_StateLive.L none (fun s => impl_StateLive.enc s.1 (impl_StateLive.S s.1))
theorem impl_StateLive.good : Good Try.prog impl_StateLive.c :=
  hgoodC (sh := [[some (.int, 3)]]) (tk := []) (sp := []) (ct := []) (LL := [impl_StateLive_l5.k]) (lst := true) (consG impl_StateOk.good noG) (fn := Try.f23) (by kernel_rfl) (by kernel_rfl) (by rw [show loopsOf (bodyOf Try.f23) = [(bodyAt Try.f23 0)] from by kernel_rfl]; exact consL (l := impl_StateLive_l5.k) (by kernel_rfl) (impl_StateLive_l5.g (consG impl_StateOk.good noG)) (noL rfl)) (consC' (bs := []) (by kernel_rfl) noC) fun s hp => Eq.mpr (impl_StateLive.w s.1 (fun r bs' => And (r = (impl_StateLive.c.out s).1) (bs' = (impl_StateLive.c.out s).2))) ((Classical.choose_spec impl_StateLive.X s trivial).2 _ ⟨rfl, rfl⟩)
end Hw
end Go.Proofs.Ytmhighcagpbmeaa
