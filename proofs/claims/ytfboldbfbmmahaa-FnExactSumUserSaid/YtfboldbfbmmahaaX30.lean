/- What is known of a function, of a loop, of code at which ways meet, at one input: as one record. -/
import Derived.Test.YtfboldbfbmmahaaX27
set_option linter.unusedVariables false
set_option linter.unusedSimpArgs false
namespace Go.Proofs.Ytfboldbfbmmahaa
namespace Hw
open Go
abbrev Out := Ex × List FV × List Blk
structure FR (R : Type) where
  P : Prop
  f : (R → Prop) → Prop
  Q : R → Prop
  e : R → AV × List Blk
structure LR (α R : Type) where
  P : Prop
  M : Nat
  f : (α ⊕ R → Prop) → Prop
  Q : R → Prop
  g : R → List (Bool × Out)
  l : R → Out
section
variable {α R : Type}
abbrev LR.o (x : LR α R) (r : R) : Out := pickAlt (x.g r) (x.l r)
abbrev XF (D : α → FR R) : Prop := ∃ S : α → R, ∀ s, (D s).P → (D s).Q (S s) ∧ ∀ X : R → Prop, X (S s) → (D s).f X
theorem mkF {D : α → FR R} (d : R) (x : ∀ s, (D s).P → May (D s).Q id (D s).f) : XF D := mayS d x
abbrev lpy (D : α → LR α R) (S : α → R) (s : α) (v : α ⊕ R) : Prop := lpx (fun s => (D s).P) (fun s => (D s).M) (fun s => (D s).o (S s)) s (lpo (fun s => (D s).o) s v)
abbrev XL (D : α → LR α R) : Prop := ∃ S : α → R, ∀ s, (D s).P → (D s).Q (S s) ∧ (D s).f (lpy D S s)
abbrev ML (D : α → LR α R) (s : α) : Prop := May (lpq (fun s => (D s).P) (fun s => (D s).M) (fun s => (D s).Q) (fun s => (D s).o) s) id (D s).f
theorem mkL {D : α → LR α R} (d : R) (x : ∀ s, (D s).P → ML D s) : XL D :=
  loopS (f := fun s X => (D s).f fun v => X (lpo (fun s => (D s).o) s v)) d fun s hp => by
    obtain ⟨r, q, k⟩ := x s hp
    exact ⟨r, q, fun X h => k _ h⟩
theorem qF {D : α → FR R} (h : XF D) (s : α) (hp : (D s).P) : (D s).Q (Classical.choose h s) := (Classical.choose_spec h s hp).1
theorem qL {D : α → LR α R} (h : XL D) (s : α) (hp : (D s).P) : (D s).Q (Classical.choose h s) := (Classical.choose_spec h s hp).1
def Call {D : α → FR R} (h : XF D) (s : α) (k : R → Prop) : Prop := And (D s).P (Lt (Classical.choose h s) k)
def Call0 {D : α → FR R} (h : XF D) (s : α) (k : R → Prop) : Prop := Lt (Classical.choose h s) k
def CallL {D : α → LR α R} (h : XL D) (s : α) (k : R → Prop) : Prop := And (D s).P (Lt (Classical.choose h s) k)
section
variable {R' O : Type} {Q : R' → Prop} {o : R' → O} {D : α → FR R} {h : XF D} {D' : α → LR α R} {h' : XL D'} {s : α} {A : R → (O → Prop) → Prop}
theorem May.call (hp : (D s).P) (k : ∀ x, (D s).Q x → May Q o (A x)) : May Q o fun X => Call h s fun x => A x X := by
  obtain ⟨r, q, k⟩ := k _ (qF h s hp)
  exact ⟨r, q, fun X hX => ⟨hp, k X hX⟩⟩
theorem May.call0 (hp : (D s).P) (k : ∀ x, (D s).Q x → May Q o (A x)) : May Q o fun X => Call0 h s fun x => A x X := by
  obtain ⟨r, q, k⟩ := k _ (qF h s hp)
  exact ⟨r, q, fun X hX => k X hX⟩
theorem May.loop (hp : (D' s).P) (k : ∀ x, (D' s).Q x → May Q o (A x)) : May Q o fun X => CallL h' s fun x => A x X := by
  obtain ⟨r, q, k⟩ := k _ (qL h' s hp)
  exact ⟨r, q, fun X hX => ⟨hp, k X hX⟩⟩
theorem May.clq (hp : (D s).P) (k : ∀ x, (D s).Q x → May Q o (A x)) : May Q o fun X => Lt (Classical.choose h s) fun x => A x X := k _ (qF h s hp)
theorem May.clqe (hp : (D s).P) (k : ∀ x, x = Classical.choose h s → (D s).Q x → May Q o (A x)) : May Q o fun X => Lt (Classical.choose h s) fun x => A x X := k _ rfl (qF h s hp)
theorem May.cq (k : ∀ x, ((D s).P → (D s).Q x) → May Q o (A x)) : May Q o fun X => Lt (Classical.choose h s) fun x => A x X := k _ (qF h s)
theorem gq1 {A B : Prop} (q : A ∧ True → B) (h : A) : B := q ⟨h, trivial⟩
theorem gq2 {A B C : Prop} (q : A ∧ B ∧ True → C) (h : A ∧ B) : C := q ⟨h.1, h.2, trivial⟩
theorem gq3 {A B C D : Prop} (q : A ∧ B ∧ C ∧ True → D) (h : A ∧ B ∧ C) : D := q ⟨h.1, h.2.1, h.2.2, trivial⟩
theorem May.ret {r : R'} (q : Q r) : May Q id fun X => X r := ⟨r, q, fun X h => h⟩
end
section
variable {σ : Type} {P : σ → Prop} {M : σ → Nat} {Q : σ → R → Prop} {o : σ → R → Out} {s y : σ} {r : R}
theorem May.nx (hP : P y) (hM : M y < M s) (hQ : ∀ r, Q y r → Q s r) (ho : ∀ r, o y r = o s r) : May (lpq P M Q o s) id fun X => X (.inl y) := ⟨.inl y, ⟨hP, hM, hQ, ho⟩, fun X h => h⟩
theorem May.ex (q : Q s r) : May (lpq P M Q o s) id fun X => X (.inr r) := ⟨.inr r, q, fun X h => h⟩
end
def fc (fid : Nat) (vw : List Bool) (L : FL) (D : L.α → FR R) (S : L.α → R) : Ctr := hctr fid vw L (some fun s => (D s).P) (fun s => (D s).e (S s))
def fc0 (fid : Nat) (vw : List Bool) (L : FL) (D : L.α → FR R) (S : L.α → R) : Ctr := hctr fid vw L none (fun s => (D s).e (S s))
abbrev ld (key : Nat) (keep : List Nat) (shp : Shp) (L : FL) (D : L.α → LR L.α R) (pn : Nat) (kx : Ex → List Nat) (sx : Ex → Shp) (S : L.α → R) : LDat := ldat key keep shp L (fun s => (D s).P) (fun s => (D s).g (S s)) (fun s => (D s).l (S s)) (fun s => (D s).M) pn kx sx
abbrev GG (G : List Ctr) : Prop := ∀ c ∈ G, Good Try.prog c
abbrev okL (LL : List LCtr) (sz : Nat) (c : Code) : Prop := ∀ b ∈ loopsOf c, ∀ l, lcOf LL (firstR b) = some l → LGood Try.prog sz l b
abbrev okC (ct : List LCtr) (sz : Nat) (c : Code) : Prop := ∀ b ∈ cutsOf c, ∀ l, lcOf ct (firstR b) = some l → CGood Try.prog sz l b
abbrev SP := List (Nat × List (List (Nat × Nat)))
structure CE where
  sp : SP := []
  ct : List LCtr := []
  LL : List LCtr := []
structure FE extends CE where
  sh : Shp := []
  tk : List Nat := []
  lst : Bool := false
theorem mkLG {G : List Ctr} {sz : Nat} {body : Code} {key : Nat} {keep : List Nat} {shp : Shp} {L : FL} {D : L.α → LR L.α R} {pn : Nat} {kx : Ex → List Nat} {sx : Ex → Shp} (e : CE) (h : XL D) (hG : GG G) (hk : codeOkB sz body = true) (hl : okL e.LL sz body) (hc : okC e.ct sz body)
    (w : ∀ S s, evBody (envC G e.sp e.ct) e.LL body (ld key keep shp L D pn kx sx S) s = (D s).f (lpy D S s)) : LGood Try.prog sz (ld key keep shp L D pn kx sx (Classical.choose h)).ctr body :=
  lgoodC (sp := e.sp) (ct := e.ct) (LL := e.LL) hG hk hl hc fun s hp => Eq.mpr (w _ s) (Classical.choose_spec h s hp).2
theorem mkCG {G : List Ctr} {sz : Nat} {body : Code} {key : Nat} {keep : List Nat} {shp : Shp} {L : FL} {D : L.α → LR L.α R} {pn : Nat} {kx : Ex → List Nat} {sx : Ex → Shp} (e : CE) (h : XL D) (hG : GG G) (hk : codeOkB sz body = true) (hl : okL e.LL sz body) (hc : okC e.ct sz body)
    (w : ∀ S s, evCut (envC G e.sp e.ct) e.LL body (ld key keep shp L D pn kx sx S) s = (D s).f (lpy D S s)) : CGood Try.prog sz (ld key keep shp L D pn kx sx (Classical.choose h)).ctr body :=
  cgood (sp := e.sp) (ct := e.ct) (LL := e.LL) hG hk hl hc fun s hp => Eq.mpr (w _ s) (Classical.choose_spec h s hp).2
theorem mkFG {G : List Ctr} {fid : Nat} {vw : List Bool} {fn : Func} {L : FL} {D : L.α → FR R} (e : FE) (h : XF D) (hG : GG G) (hf : Try.prog.funcs[fid]? = some fn) (hk : fnOkB fn L.len = true) (hl : okL e.LL fn.ntmps (bodyOf fn)) (hc : okC e.ct fn.ntmps (bodyOf fn))
    (w : ∀ s K, evFn (envC G e.sp e.ct e.lst) e.LL e.sh e.tk fn (L.inp s).1 (L.inp s).2 K = (D s).f fun r => K ((D s).e r).1 ((D s).e r).2) : Good Try.prog (fc fid vw L D (Classical.choose h)) :=
  hgoodC (sh := e.sh) (tk := e.tk) (sp := e.sp) (ct := e.ct) (LL := e.LL) (lst := e.lst) hG hf hk hl hc fun s hp => Eq.mpr (w s _) ((Classical.choose_spec h s (hp _ rfl)).2 _ ⟨rfl, rfl⟩)
theorem mkFG0 {G : List Ctr} {fid : Nat} {vw : List Bool} {fn : Func} {L : FL} {D : L.α → FR R} (e : FE) (h : XF D) (hG : GG G) (hf : Try.prog.funcs[fid]? = some fn) (hk : fnOkB fn L.len = true) (hl : okL e.LL fn.ntmps (bodyOf fn)) (hc : okC e.ct fn.ntmps (bodyOf fn))
    (hp : ∀ s, (D s).P) (w : ∀ s K, evFn (envC G e.sp e.ct e.lst) e.LL e.sh e.tk fn (L.inp s).1 (L.inp s).2 K = (D s).f fun r => K ((D s).e r).1 ((D s).e r).2) : Good Try.prog (fc0 fid vw L D (Classical.choose h)) :=
  hgoodC (sh := e.sh) (tk := e.tk) (sp := e.sp) (ct := e.ct) (LL := e.LL) (lst := e.lst) hG hf hk hl hc fun s _ => Eq.mpr (w s _) ((Classical.choose_spec h s (hp s)).2 _ ⟨rfl, rfl⟩)
theorem lG {LL : List LCtr} {sz : Nat} {c : Code} {bs : List Code} (hb : loopsOf c = bs) (h : ∀ b ∈ bs, ∀ l, lcOf LL (firstR b) = some l → LGood Try.prog sz l b) : okL LL sz c := fun b hm => h b (by rw [← hb]; exact hm)
theorem l0 {LL : List LCtr} {sz : Nat} {c : Code} (hb : loopsOf c = []) : okL LL sz c := noL hb
theorem c0 {ct : List LCtr} {sz : Nat} {c : Code} (hb : (cutsOf c).filter (fun b => (lcOf ct (firstR b)).isSome) = []) : okC ct sz c := consC' hb noC
end
end Hw
end Go.Proofs.Ytfboldbfbmmahaa
