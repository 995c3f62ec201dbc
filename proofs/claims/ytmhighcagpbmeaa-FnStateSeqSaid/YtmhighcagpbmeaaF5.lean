/- Laws of states, 4: made by gen.py. -/
import Derived.Test.YtmhighcagpbmeaaF4
set_option linter.unusedVariables false
set_option linter.unusedSimpArgs false
set_option maxRecDepth 100000
set_option maxHeartbeats 200000
namespace Go.Proofs.Ytmhighcagpbmeaa
namespace Hw
open Go
attribute [local irreducible] evFn evBody wrap wxor
/-! ### laws.FnStateSeq -/
def laws_FnStateSeq.enc (a0 : List Int) (a1 : List Int) (r : Bool) : AV × List Blk := (.v (.c (.bool r)), [])
abbrev laws_FnStateSeq.P (a0 : List Int) (a1 : List Int) : Prop := (∀ k, 0 ≤ a0.getD k 0 ∧ a0.getD k 0 ≤ 255)
abbrev laws_FnStateSeq.Q (a0 : List Int) (a1 : List Int) (r : Bool) : Prop := (r = true)
def laws_FnStateSeq.L : FL := fCons (fC (cArr true kU8s)) (fCons (fC (cArr true kU8s)) (fNil))
def laws_FnStateSeq.f (a0 : List Int) (a1 : List Int) (X : AV × List Blk → Prop) : Prop := Lt (bif decide ((a0.length : Int) > 1048576) then true else decide ((a1.length : Int) > 1048576)) fun x1 => And (Imp (x1 = true) (X (.v (.c (.bool true)), []))) (Imp (x1 = false) (And (spec_DrawStateHas.P a0) (Lt ((spec_DrawStateHas.S a0)) fun x2 => Lt ((impl_StateHas.S x2.1 x2.2)) fun x3 => Lt ((spec_StateHas.S x2.1 x2.2)) fun x4 => Lt (bif !((x3 : Bool) == x4) then true else !(spec_StateOk.S x2.1)) fun x5 => And (Imp (x5 = true) (X (.v (.c (.bool ((x3 : Bool) == x4))), []))) (Imp (x5 = false) (Lt (wrap ((x2.1.sent.length : Int) + 1)) fun x6 => And ((9 : Int) ≠ 0) (Lt ((impl_StateHas.S x2.1 (⟨x6, x2.2.kind, x2.2.frm, x2.2.to, x2.2.sum, x2.2.til, x2.2.ver⟩ : Pkt))) fun x7 => Lt ((impl_StateHas.S x2.1 (⟨x2.2.seq, x2.2.kind, x2.2.frm, x2.2.to, x2.2.sum, x2.2.til, wrap ((x2.2.ver.tmod 9) + 1)⟩ : Pkt))) fun x8 => Lt ((impl_StateSettled.S x2.1 x6)) fun x9 => Lt (bif bif !x7 then bif !x3 then true else !x8 else false then x9 == 0 else false) fun x10 => X (.v (.c (.bool x10)), [])))))))
theorem laws_FnStateSeq.w (a0 : List Int) (a1 : List Int) (K : AV → List Blk → Prop) : evFn (envC [spec_DrawStateHas.c, impl_StateHas.c, spec_StateHas.c, spec_StateOk.c, impl_StateSettled.c] [] []) [] [] [] Try.f6 (laws_FnStateSeq.L.inp (a0, (a1, ()))).1 (laws_FnStateSeq.L.inp (a0, (a1, ()))).2 K = laws_FnStateSeq.f a0 a1 (fun v => K v.1 v.2) := by kernel_rfl
theorem laws_FnStateSeq.x (a0 : List Int) (a1 : List Int) (hp : laws_FnStateSeq.P a0 a1) : May (laws_FnStateSeq.Q a0 a1) (laws_FnStateSeq.enc a0 a1) (laws_FnStateSeq.f a0 a1) := by
  have p0 := hp
  delta laws_FnStateSeq.f
  refine May.lp (B.or (B.dec) (B.dec)) fun x1 e1 => May.iff (e1) (fun h1 => ?_) (fun h1 => ?_)
  refine ⟨(true), ?_, fun X h => h⟩; rotate_left 1
  refine May.chk ?_ fun c1 => May.lq (spec_DrawStateHas.Q a0) (spec_DrawStateHas.q a0 ?_) fun x2 q2 => May.lq (impl_StateHas.Q x2.1 x2.2) (impl_StateHas.q x2.1 x2.2) fun x3 q3 => May.lq (spec_StateHas.Q x2.1 x2.2) (spec_StateHas.q x2.1 x2.2) fun x4 q4 => May.lp (B.or (B.not (B.beq)) (B.not (specSt))) fun x5 e5 => May.iff (e5) (fun h2 => ?_) (fun h2 => ?_); rotate_left 2
  refine ⟨((x3 : Bool) == x4), ?_, fun X h => h⟩; rotate_left 1
  refine May.lw ⟨?_, ?_⟩ fun x6 e6 => May.chk ?_ fun c2 => May.lq (impl_StateHas.Q x2.1 (⟨x6, x2.2.kind, x2.2.frm, x2.2.to, x2.2.sum, x2.2.til, x2.2.ver⟩ : Pkt)) (impl_StateHas.q x2.1 (⟨x6, x2.2.kind, x2.2.frm, x2.2.to, x2.2.sum, x2.2.til, x2.2.ver⟩ : Pkt)) fun x7 q7 => May.lq (impl_StateHas.Q x2.1 (⟨x2.2.seq, x2.2.kind, x2.2.frm, x2.2.to, x2.2.sum, x2.2.til, wrap ((x2.2.ver.tmod 9) + 1)⟩ : Pkt)) (impl_StateHas.q x2.1 (⟨x2.2.seq, x2.2.kind, x2.2.frm, x2.2.to, x2.2.sum, x2.2.til, wrap ((x2.2.ver.tmod 9) + 1)⟩ : Pkt)) fun x8 q8 => May.lq (impl_StateSettled.Q x2.1 x6) (impl_StateSettled.q x2.1 x6) fun x9 q9 => May.lp (B.and (B.and (B.not (Iff.rfl)) (B.or (B.not (Iff.rfl)) (B.not (Iff.rfl)))) (B.eq)) fun x10 e10 => ⟨(x10), ?_, fun X h => h⟩
  all_goals try dsimp only
  all_goals first | with_reducible assumption | omega | (with_reducible rfl; done) | (exact beq_iff_eq.2 (has_eq q3 q4); done) | (exact seq_fin (okOf h2) q3 e6 ver9 q7 q8 e10 q9; done) | (have hl := stL (okOf h2); omega; done)
theorem laws_FnStateSeq.X : ∃ S : laws_FnStateSeq.L.α → Bool, ∀ s, laws_FnStateSeq.P s.1 s.2.1 → laws_FnStateSeq.Q s.1 s.2.1 (S s) ∧ ∀ X, X (laws_FnStateSeq.enc s.1 s.2.1 (S s)) → laws_FnStateSeq.f s.1 s.2.1 X := mayS (false) fun s => laws_FnStateSeq.x s.1 s.2.1
noncomputable def laws_FnStateSeq.S (a0 : List Int) (a1 : List Int) : Bool := Classical.choose laws_FnStateSeq.X (a0, (a1, ()))
theorem laws_FnStateSeq.q (a0 : List Int) (a1 : List Int) (hp : laws_FnStateSeq.P a0 a1) : laws_FnStateSeq.Q a0 a1 (laws_FnStateSeq.S a0 a1) := (Classical.choose_spec laws_FnStateSeq.X (a0, (a1, ())) hp).1
noncomputable def laws_FnStateSeq.c : Ctr := hctr 6 [false, false] laws_FnStateSeq.L (some fun s => laws_FnStateSeq.P s.1 s.2.1) (fun s => laws_FnStateSeq.enc s.1 s.2.1 (laws_FnStateSeq.S s.1 s.2.1))
theorem laws_FnStateSeq.good : Good Try.prog laws_FnStateSeq.c :=
  hgoodC (sh := []) (tk := []) (sp := []) (ct := []) (LL := []) (consG spec_DrawStateHas.good (consG impl_StateHas.good (consG spec_StateHas.good (consG spec_StateOk.good (consG impl_StateSettled.good noG))))) (fn := Try.f6) (by kernel_rfl) (by kernel_rfl) (by rw [show loopsOf (bodyOf Try.f6) = [] from by kernel_rfl]; exact noL rfl) (consC' (bs := []) (by kernel_rfl) noC) fun s hp => Eq.mpr (laws_FnStateSeq.w s.1 s.2.1 (fun r bs' => And (r = (laws_FnStateSeq.c.out s).1) (bs' = (laws_FnStateSeq.c.out s).2))) ((Classical.choose_spec laws_FnStateSeq.X s (hp _ rfl)).2 _ ⟨rfl, rfl⟩)
end Hw
end Go.Proofs.Ytmhighcagpbmeaa
