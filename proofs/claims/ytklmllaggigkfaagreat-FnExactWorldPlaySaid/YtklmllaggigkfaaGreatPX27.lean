/- Functions of which is known only what holds of their answers: the answers are there, and are chosen. -/
import Derived.Test.YtklmllaggigkfaaGreatPX22
set_option linter.unusedVariables false
set_option linter.unusedSimpArgs false
namespace Go.Proofs.YtklmllaggigkfaaGreat
namespace Hw
open Go
def Lt {α:Type} (v:α) (f:α→Prop):Prop:=f v
def May {R O:Type} (Q:R→Prop) (o:R→O) (f:(O→Prop)→Prop):Prop:=∃r,Q r∧∀X,X (o r)→f X
section
variable {R O:Type} {Q:R→Prop} {o:R→O}
theorem May.chk {c:Prop} {A:(O→Prop)→Prop} (h:c) (h2:c→May Q o A):May Q o (fun X=>And c (A X)):=by
 obtain ⟨r,q,k⟩:=h2 h
 exact ⟨r,q,fun X hX=>⟨h,k X hX⟩⟩
theorem May.iff {c:Bool} {p:Prop} {A B:(O→Prop)→Prop} (hc:c = true↔p) (h1:p→May Q o A) (h2:¬p→May Q o B):May Q o (fun X=>And (Imp (c = true) (A X)) (Imp (c = false) (B X))):=by
 cases c with
 | true =>
  obtain ⟨r,q,k⟩:=h1 (hc.1 rfl)
  exact ⟨r,q,fun X hX=>⟨fun _=>k X hX,fun h=>by cases h⟩⟩
 | false =>
  obtain ⟨r,q,k⟩:=h2 fun h=>by cases hc.2 h
  exact ⟨r,q,fun X hX=>⟨(fun h=>by cases h),fun _=>k X hX⟩⟩
theorem May.alt {c:Bool} {p:Prop} {A B:(O→Prop)→Prop} (hc:c = true↔p) (h1:p→May Q o A) (h2:¬p→May Q o B):May Q o (fun X=>Or (A X) (B X)):=by
 cases c with
 | true =>
  obtain ⟨r,q,k⟩:=h1 (hc.1 rfl)
  exact ⟨r,q,fun X hX=>.inl (k X hX)⟩
 | false =>
  obtain ⟨r,q,k⟩:=h2 fun h=>by cases hc.2 h
  exact ⟨r,q,fun X hX=>.inr (k X hX)⟩
theorem May.no {A:(O→Prop)→Prop} (h:False):May Q o A:=h.elim
theorem May.lt {α:Type} {v:α} {A:α→(O→Prop)→Prop} (h:∀x,x = v→May Q o (A x)):May Q o (fun X=>Lt v (fun x=>A x X)):=h v rfl
theorem May.lw {t:Int} {A:Int→(O→Prop)→Prop} (hb:-9223372036854775808≤t∧t≤9223372036854775807) (h:∀x,x = t→May Q o (A x)):May Q o (fun X=>Lt (wrap t) (fun x=>A x X)):=h _ (wrap_id hb.1 hb.2)
theorem May.lwi {t:Int} {A:Int→(O→Prop)→Prop} (h:∀x,(-9223372036854775808≤t∧t≤9223372036854775807→x = t)→May Q o (A x)):May Q o (fun X=>Lt (wrap t) (fun x=>A x X)):=h _ fun hb=>wrap_id hb.1 hb.2
theorem May.lp {c:Bool} {p:Prop} {A:Bool→(O→Prop)→Prop} (hc:c = true↔p) (h:∀x:Bool,(x = true↔p)→May Q o (A x)):May Q o (fun X=>Lt c (fun x=>A x X)):=h _ hc
end
theorem B.dec {p:Prop} [Decidable p]:decide p = true↔p:=decide_eq_true_iff
theorem B.eq {a b:Int}:(a == b) = true↔a = b:=beq_iff_eq
theorem B.ne {a b:Int}:(a != b) = true↔¬ a = b:=bne_iff_ne
theorem B.nbeq {a b:Nat}:(Nat.beq a b) = true↔a = b:=⟨Nat.eq_of_beq_eq_true,fun h=>by rw [h]; exact Nat.beq_refl b⟩
theorem B.not {c:Bool} {p:Prop} (h:c = true↔p):(!c) = true↔¬ p:=by
 rw [← h]
 cases c <;> simp
theorem B.and {c d:Bool} {p q:Prop} (h:c = true↔p) (h':d = true↔q):(bif c then d else false) = true↔p∧q:=by
 rw [← h,← h']
 cases c <;> simp
theorem B.or {c d:Bool} {p q:Prop} (h:c = true↔p) (h':d = true↔q):(bif c then true else d) = true↔p∨q:=by
 rw [← h,← h']
 cases c <;> simp
theorem B.neg {c:Bool} {p:Prop} (h:c = true↔p) (hc:c = false):¬ p:=fun hp=>by rw [h.2 hp] at hc; cases hc
theorem B.t:true = true↔True:=by simp
theorem mayS {σ R O:Type} {P:σ→Prop} {Q:σ→R→Prop} {o:σ→R→O} {f:σ→(O→Prop)→Prop} (d:R) (x:∀s,P s→May (Q s) (o s) (f s)) :
  ∃S:σ→R,∀s,P s→Q s (S s)∧∀X,X (o s (S s))→f s X:=by
 classical
 refine ⟨fun s=>if h:P s then Classical.choose (x s h) else d,fun s h=>?_⟩
 simp only [dif_pos h]
 exact Classical.choose_spec (x s h)
def lpq {σ R O:Type} (P:σ→Prop) (M:σ→Nat) (Q:σ→R→Prop) (o:σ→R→O) (s:σ):σ ⊕ R→Prop
 | .inl y=>P y∧M y < M s∧(∀r,Q y r→Q s r)∧∀r,o y r = o s r
 | .inr r=>Q s r
def lpo {σ R O:Type} (o:σ→R→O) (s:σ):σ ⊕ R→σ ⊕ O
 | .inl y=>.inl y
 | .inr r=>.inr (o s r)
def lpx {σ O:Type} (P:σ→Prop) (M:σ→Nat) (out:σ→O) (s:σ):σ ⊕ O→Prop
 | .inl y=>And (P y) (And (M y < M s) (out y = out s))
 | .inr w=>out s = w
def runS {σ R:Type} (step:σ→σ ⊕ R) (d:R):Nat→σ→R
 | 0,_=>d
 | n + 1,s=>match step s with
  | .inl y=>runS step d n y
  | .inr r=>r
theorem loopS {σ R O:Type} {P:σ→Prop} {M:σ→Nat} {Q:σ→R→Prop} {o:σ→R→O} {f:σ→(σ ⊕ O→Prop)→Prop} (d:R) (x:∀s,P s→May (lpq P M Q o s) (lpo o s) (f s)) :
  ∃S:σ→R,∀s,P s→Q s (S s)∧f s (lpx P M (fun s=>o s (S s)) s):=by
 classical
 obtain ⟨step,hstep⟩:∃step:σ→σ ⊕ R,∀s,P s→lpq P M Q o s (step s)∧∀X,X (lpo o s (step s))→f s X:=mayS (.inr d) x
 have e:∀n m s,P s→M s < n→M s < m→runS step d n s = runS step d m s:=by
  intro n
  induction n with
  | zero=>intro m s _ h; omega
  | succ n ih =>
   intro m s hs h1 h2
   cases m with
   | zero=>omega
   | succ m =>
    simp only [runS]
    have h3:=(hstep s hs).1
    cases hst:step s with
    | inr r=>rfl
    | inl y =>
     rw [hst] at h3
     exact ih m y h3.1 (by have:=h3.2.1; omega) (by have:=h3.2.1; omega)
 have q:∀n s,P s→M s < n→Q s (runS step d n s):=by
  intro n
  induction n with
  | zero=>intro s _ h; omega
  | succ n ih =>
   intro s hs h1
   simp only [runS]
   have h3:=(hstep s hs).1
   cases hst:step s with
   | inr r=>rw [hst] at h3; exact h3
   | inl y =>
    rw [hst] at h3
    exact h3.2.2.1 _ (ih y h3.1 (by have:=h3.2.1; omega))
 refine ⟨fun s=>runS step d (M s + 1) s,fun s hs=>⟨q _ s hs (Nat.lt_succ_self _),?_⟩⟩
 obtain ⟨h1,h2⟩:=hstep s hs
 refine h2 _ ?_
 cases hst:step s with
 | inr r =>
  simp only [lpo,lpx,runS,hst]
 | inl y =>
  rw [hst] at h1
  obtain ⟨a,b,c,d'⟩:=h1
  simp only [lpo,lpx]
  refine ⟨a,b,?_⟩
  rw [d' _]
  congr 1
  have:runS step d (M s + 1) s = runS step d (M s) y:=by simp only [runS,hst]
  rw [this]
  exact e _ _ y a (Nat.lt_succ_self _) b
theorem consC' {ct:List LCtr} {sz:Nat} {c:Code} {bs:List Code} (hb:(cutsOf c).filter (fun b=>(lcOf ct (firstR b)).isSome) = bs) (h:∀b∈bs,∀l,lcOf ct (firstR b) = some l→CGood Tryz.prog sz l b):∀b∈cutsOf c,∀l,lcOf ct (firstR b) = some l→CGood Tryz.prog sz l b:=fun b hb' l hl =>
 h b (by rw [← hb]; exact List.mem_filter.2 ⟨hb',by rw [hl]; rfl⟩) l hl
theorem noC {ct:List LCtr} {sz:Nat}:∀b∈([]:List Code),∀l,lcOf ct (firstR b) = some l→CGood Tryz.prog sz l b:=fun b hb=>by cases hb
end Hw
end Go.Proofs.YtklmllaggigkfaaGreat
set_option linter.unusedVariables false
set_option linter.unusedSimpArgs false
namespace Go.Proofs.YtklmllaggigkfaaGreat
namespace Hw
open Go
abbrev Out:=Ex×List FV×List Blk
structure FR (R:Type) where
 P:Prop
 f:(R→Prop)→Prop
 Q:R→Prop
 e:R→AV×List Blk
structure LR (α R:Type) where
 P:Prop
 M:Nat
 f:(α ⊕ R→Prop)→Prop
 Q:R→Prop
 g:R→List (Bool×Out)
 l:R→Out
section
variable {α R:Type}
abbrev LR.o (x:LR α R) (r:R):Out:=pickAlt (x.g r) (x.l r)
abbrev XF (D:α→FR R):Prop:=∃S:α→R,∀s,(D s).P→(D s).Q (S s)∧∀X:R→Prop,X (S s)→(D s).f X
theorem mkF {D:α→FR R} (d:R) (x:∀s,(D s).P→May (D s).Q id (D s).f):XF D:=mayS d x
abbrev lpy (D:α→LR α R) (S:α→R) (s:α) (v:α ⊕ R):Prop:=lpx (fun s=>(D s).P) (fun s=>(D s).M) (fun s=>(D s).o (S s)) s (lpo (fun s=>(D s).o) s v)
abbrev XL (D:α→LR α R):Prop:=∃S:α→R,∀s,(D s).P→(D s).Q (S s)∧(D s).f (lpy D S s)
abbrev ML (D:α→LR α R) (s:α):Prop:=May (lpq (fun s=>(D s).P) (fun s=>(D s).M) (fun s=>(D s).Q) (fun s=>(D s).o) s) id (D s).f
theorem mkL {D:α→LR α R} (d:R) (x:∀s,(D s).P→ML D s):XL D :=
 loopS (f:=fun s X=>(D s).f fun v=>X (lpo (fun s=>(D s).o) s v)) d fun s hp=>by
  obtain ⟨r,q,k⟩:=x s hp
  exact ⟨r,q,fun X h=>k _ h⟩
theorem qF {D:α→FR R} (h:XF D) (s:α) (hp:(D s).P):(D s).Q (Classical.choose h s):=(Classical.choose_spec h s hp).1
theorem qL {D:α→LR α R} (h:XL D) (s:α) (hp:(D s).P):(D s).Q (Classical.choose h s):=(Classical.choose_spec h s hp).1
def Call {D:α→FR R} (h:XF D) (s:α) (k:R→Prop):Prop:=And (D s).P (Lt (Classical.choose h s) k)
def Call0 {D:α→FR R} (h:XF D) (s:α) (k:R→Prop):Prop:=Lt (Classical.choose h s) k
def CallL {D:α→LR α R} (h:XL D) (s:α) (k:R→Prop):Prop:=And (D s).P (Lt (Classical.choose h s) k)
section
variable {R' O:Type} {Q:R'→Prop} {o:R'→O} {D:α→FR R} {h:XF D} {D':α→LR α R} {h':XL D'} {s:α} {A:R→(O→Prop)→Prop}
theorem May.call (hp:(D s).P) (k:∀x,(D s).Q x→May Q o (A x)):May Q o fun X=>Call h s fun x=>A x X:=by
 obtain ⟨r,q,k⟩:=k _ (qF h s hp)
 exact ⟨r,q,fun X hX=>⟨hp,k X hX⟩⟩
theorem May.call0 (hp:(D s).P) (k:∀x,(D s).Q x→May Q o (A x)):May Q o fun X=>Call0 h s fun x=>A x X:=by
 obtain ⟨r,q,k⟩:=k _ (qF h s hp)
 exact ⟨r,q,fun X hX=>k X hX⟩
theorem May.loop (hp:(D' s).P) (k:∀x,(D' s).Q x→May Q o (A x)):May Q o fun X=>CallL h' s fun x=>A x X:=by
 obtain ⟨r,q,k⟩:=k _ (qL h' s hp)
 exact ⟨r,q,fun X hX=>⟨hp,k X hX⟩⟩
theorem May.clq (hp:(D s).P) (k:∀x,(D s).Q x→May Q o (A x)):May Q o fun X=>Lt (Classical.choose h s) fun x=>A x X:=k _ (qF h s hp)
theorem May.clqe (hp:(D s).P) (k:∀x,x = Classical.choose h s→(D s).Q x→May Q o (A x)):May Q o fun X=>Lt (Classical.choose h s) fun x=>A x X:=k _ rfl (qF h s hp)
theorem May.cq (k:∀x,((D s).P→(D s).Q x)→May Q o (A x)):May Q o fun X=>Lt (Classical.choose h s) fun x=>A x X:=k _ (qF h s)
theorem gq2 {A B C:Prop} (q:A∧B∧True→C) (h:A∧B):C:=q ⟨h.1,h.2,trivial⟩
theorem gq3 {A B C D:Prop} (q:A∧B∧C∧True→D) (h:A∧B∧C):D:=q ⟨h.1,h.2.1,h.2.2,trivial⟩
theorem May.ret {r:R'} (q:Q r):May Q id fun X=>X r:=⟨r,q,fun X h=>h⟩
end
section
variable {σ:Type} {P:σ→Prop} {M:σ→Nat} {Q:σ→R→Prop} {o:σ→R→Out} {s y:σ} {r:R}
theorem May.nx (hP:P y) (hM:M y < M s) (hQ:∀r,Q y r→Q s r) (ho:∀r,o y r = o s r):May (lpq P M Q o s) id fun X=>X (.inl y):=⟨.inl y,⟨hP,hM,hQ,ho⟩,fun X h=>h⟩
theorem May.ex (q:Q s r):May (lpq P M Q o s) id fun X=>X (.inr r):=⟨.inr r,q,fun X h=>h⟩
end
def fc (fid:Nat) (vw:List Bool) (L:FL) (D:L.α→FR R) (S:L.α→R):Ctr:=hctr fid vw L (some fun s=>(D s).P) (fun s=>(D s).e (S s))
def fc0 (fid:Nat) (vw:List Bool) (L:FL) (D:L.α→FR R) (S:L.α→R):Ctr:=hctr fid vw L none (fun s=>(D s).e (S s))
abbrev ld (key:Nat) (keep:List Nat) (shp:Shp) (L:FL) (D:L.α→LR L.α R) (pn:Nat) (kx:Ex→List Nat) (sx:Ex→Shp) (S:L.α→R):LDat:=ldat key keep shp L (fun s=>(D s).P) (fun s=>(D s).g (S s)) (fun s=>(D s).l (S s)) (fun s=>(D s).M) pn kx sx
abbrev GG (G:List Ctr):Prop:=∀c∈G,Good Tryz.prog c
abbrev okL (LL:List LCtr) (sz:Nat) (c:Code):Prop:=∀b∈loopsOf c,∀l,lcOf LL (firstR b) = some l→LGood Tryz.prog sz l b
abbrev okC (ct:List LCtr) (sz:Nat) (c:Code):Prop:=∀b∈cutsOf c,∀l,lcOf ct (firstR b) = some l→CGood Tryz.prog sz l b
abbrev SP:=List (Nat×List (List (Nat×Nat)))
structure CE where
 sp:SP:=[]
 ct:List LCtr:=[]
 LL:List LCtr:=[]
structure FE extends CE where
 sh:Shp:=[]
 tk:List Nat:=[]
 lst:Bool:=false
theorem mkLG {G:List Ctr} {sz:Nat} {body:Code} {key:Nat} {keep:List Nat} {shp:Shp} {L:FL} {D:L.α→LR L.α R} {pn:Nat} {kx:Ex→List Nat} {sx:Ex→Shp} (e:CE) (h:XL D) (hG:GG G) (hk:codeOkB sz body = true) (hl:okL e.LL sz body) (hc:okC e.ct sz body)
  (w:∀S s,evBody (envC G e.sp e.ct) e.LL body (ld key keep shp L D pn kx sx S) s = (D s).f (lpy D S s)):LGood Tryz.prog sz (ld key keep shp L D pn kx sx (Classical.choose h)).ctr body :=
 lgoodC (sp:=e.sp) (ct:=e.ct) (LL:=e.LL) hG hk hl hc fun s hp=>Eq.mpr (w _ s) (Classical.choose_spec h s hp).2
theorem mkFG {G:List Ctr} {fid:Nat} {vw:List Bool} {fn:Func} {L:FL} {D:L.α→FR R} (e:FE) (h:XF D) (hG:GG G) (hf:Tryz.prog.funcs[fid]? = some fn) (hk:fnOkB fn L.len = true) (hl:okL e.LL fn.ntmps (bodyOf fn)) (hc:okC e.ct fn.ntmps (bodyOf fn))
  (w:∀s K,evFn (envC G e.sp e.ct e.lst) e.LL e.sh e.tk fn (L.inp s).1 (L.inp s).2 K = (D s).f fun r=>K ((D s).e r).1 ((D s).e r).2):Good Tryz.prog (fc fid vw L D (Classical.choose h)) :=
 hgoodC (sh:=e.sh) (tk:=e.tk) (sp:=e.sp) (ct:=e.ct) (LL:=e.LL) (lst:=e.lst) hG hf hk hl hc fun s hp=>Eq.mpr (w s _) ((Classical.choose_spec h s (hp _ rfl)).2 _ ⟨rfl,rfl⟩)
theorem mkFG0 {G:List Ctr} {fid:Nat} {vw:List Bool} {fn:Func} {L:FL} {D:L.α→FR R} (e:FE) (h:XF D) (hG:GG G) (hf:Tryz.prog.funcs[fid]? = some fn) (hk:fnOkB fn L.len = true) (hl:okL e.LL fn.ntmps (bodyOf fn)) (hc:okC e.ct fn.ntmps (bodyOf fn))
  (hp:∀s,(D s).P) (w:∀s K,evFn (envC G e.sp e.ct e.lst) e.LL e.sh e.tk fn (L.inp s).1 (L.inp s).2 K = (D s).f fun r=>K ((D s).e r).1 ((D s).e r).2):Good Tryz.prog (fc0 fid vw L D (Classical.choose h)) :=
 hgoodC (sh:=e.sh) (tk:=e.tk) (sp:=e.sp) (ct:=e.ct) (LL:=e.LL) (lst:=e.lst) hG hf hk hl hc fun s _=>Eq.mpr (w s _) ((Classical.choose_spec h s (hp s)).2 _ ⟨rfl,rfl⟩)
theorem lG {LL:List LCtr} {sz:Nat} {c:Code} {bs:List Code} (hb:loopsOf c = bs) (h:∀b∈bs,∀l,lcOf LL (firstR b) = some l→LGood Tryz.prog sz l b):okL LL sz c:=fun b hm=>h b (by rw [← hb]; exact hm)
theorem l0 {LL:List LCtr} {sz:Nat} {c:Code} (hb:loopsOf c = []):okL LL sz c:=noL hb
theorem c0 {ct:List LCtr} {sz:Nat} {c:Code} (hb:(cutsOf c).filter (fun b=>(lcOf ct (firstR b)).isSome) = []):okC ct sz c:=consC' hb noC
end
end Hw
end Go.Proofs.YtklmllaggigkfaaGreat
