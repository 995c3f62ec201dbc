/- Loops by contracts. -/
import Derived.Test.YtklmllaggigkfaaGreatPX18
set_option linter.unusedVariables false
set_option linter.unusedSimpArgs false
namespace Go.Proofs.YtklmllaggigkfaaGreat
namespace Hw
open Go
def Fits (xs ys:List FV):Prop:=ys.length = xs.length∧∀(q:Nat) (y:FV),ys[q]? = some y→∃x,xs[q]? = some x∧∀C v,fvR C x v→fvR C y v
theorem Fits.refl (xs:List FV):Fits xs xs:=⟨rfl,fun q y h=>⟨y,h,fun _ _ h=>h⟩⟩
theorem Fits.vals:∀{xs ys:List FV} {C:Cx} {vs:List Value},Fits xs ys→valsR C xs vs→valsR C ys vs:=by
 intro xs
 induction xs with
 | nil =>
  intro ys C vs h hv
  cases ys with
  | nil=>exact hv
  | cons y ys=>have:=h.1; simp at this
 | cons x xs ih =>
  intro ys C vs h hv
  cases ys with
  | nil=>have:=h.1; simp at this
  | cons y ys =>
   cases vs with
   | nil=>exact hv.elim
   | cons v vs =>
    obtain ⟨x',h1,h2⟩:=h.2 0 y rfl
    simp only [List.getElem?_cons_zero,Option.some.injEq] at h1
    subst h1
    exact ⟨h2 C v hv.1,ih ⟨by simpa using h.1,fun q z hz=>by simpa using h.2 (q + 1) z (by simpa using hz)⟩ hv.2⟩
theorem Fits.kept {xs ys:List FV} {C:Cx} {ks:List Nat} {tmps:Array Value} (h:Fits xs ys) (hk:keptR C ks xs tmps):keptR C ks ys tmps:=fun q t y hq hy=>by
 obtain ⟨x,h1,h2⟩:=h.2 q y hy
 obtain ⟨v,h3,h4⟩:=hk q t x hq h1
 exact ⟨v,h3,h2 C v h4⟩
def Cx.bare (C:Cx):Cx:=⟨C.w,C.frz,C.vis,fun _=>none⟩
theorem Ext.bare {T:Nat→Prop} {C C':Cx} (h:Ext T C C'):Ext T C.bare C'.bare:=⟨h.os,h.tape,h.output,h.size,h.blk,h.shp,h.unf,h.frz,h.new,h.vis,fun _ _ h=>by cases h⟩
theorem enter_keep {C:Cx} {ids:List Nat} {ks:List Nat} {xs:List FV} {tmps:Array Value} (hi:∀x∈xs,∀i∈x.ids,i∈ids) (h:keptR C ks xs tmps):keptR (C.enter ids C.vis) ks (xs.map (FV.ren fun i=>idx i ids)) tmps:=fun q t x hq hx=>by
 rw [List.getElem?_map] at hx
 cases hxq:xs[q]? with
 | none=>rw [hxq] at hx; cases hx
 | some y =>
  rw [hxq] at hx
  simp only [Option.map_some,Option.some.injEq] at hx
  subst hx
  obtain ⟨v,h1,h2⟩:=h q t y hq hxq
  exact ⟨v,h1,fvR_ren (C:=C) (D:=C.enter ids C.vis) rfl (fun _ h=>h) (.inr fun _ h=>h) (fun i hi' p hp=>enter_rho (hi y (List.mem_of_getElem? hxq) i hi') hp) h2⟩
theorem prefix_get:∀{k:Nat} {ids:List Nat},prefixOk k ids = true→∀{i:Nat},i < k→i < ids.length∧nth i ids = i
 | 0,ids,_,i,hi=>by omega
 | k + 1,ids,h,i,hi=>by
  unfold prefixOk at h
  simp only [Bool.and_eq_true] at h
  obtain ⟨⟨h1,h2⟩,h3⟩:=h
  rcases Nat.lt_or_ge i k with hk | hk
  ·exact prefix_get h3 hk
  ·have e:i = k:=by omega
   rw [e]
   exact ⟨Nat.le_of_ble_eq_true h1,Nat.eq_of_beq_eq_true h2⟩
section
variable {P:Program} {E:Env} {L:List LCtr} {sz:Nat}
theorem qc_ok {df : List Deferred} (d : LDat) {bs : List Blk} {C C1 C2 : Cx} {s : d.σ} {ex : Ex} {fr2 : Fr} {H2 : Hp} {n2 : Nat} {a2 : Act} {K : Ex → List FV → List Blk → Prop} {Q : Exit → Act → World → Prop}
    (hx1 : Ext (fun b => ∃ i m, (hpOf bs i).live ∧ C.ρ i = some (some b, m)) C.bare C1.bare)
    (hn1 : ∀ i p, C1.ρ i = some p → ∀ b, p.1 = some b → (∃ j m, (hpOf bs j).live ∧ C.ρ j = some (some b, m)) ∨ C.w.heap.size ≤ b)
    (hpin1 : ∀ i, i < d.pn → ∀ q, C.ρ i = some q → C1.ρ i = some q)
    (hS2 : St' C1 (hpOf (d.inp s).1) (d.inp s).1.length sz df fr2 H2 n2 C2 a2) (hq : d.QC s ex fr2 H2 n2) (hK : K (d.out s).1 (d.out s).2.1 (d.out s).2.2)
    (hQ : ∀ e ys bs' C' a', K e ys bs' → AfterL d.pn C C' bs bs' → keptR C' (d.kx e) ys a'.tmps → a'.tmps.size = sz → a'.defers = df → Q (exOf e) a' C'.w) : Q (exOf ex) a2 C2.w := by
  unfold LDat.QC at hq
  cases hk : keptOf fr2 (d.kx ex) with
  | none => rw [hk] at hq; exact hq.elim
  | some ys =>
    rw [hk] at hq
    simp only at hq
    obtain ⟨k1', k2'⟩ := keptOf_R hS2.frm hk
    obtain ⟨C2', kp, hcore, k1, k2⟩ := kept_own (d.sx ex) ⟨hS2.inv, hS2.rho, hS2.hist, hS2.nb⟩ k1' k2'
    rw [← kp.w]
    generalize ownFs ys (d.sx ex) H2 n2 = r at hq hcore k1 k2
    clear k1' k2' hk ys
    obtain ⟨ys, H2, n2⟩ := r
    simp only at hq hcore k1 k2
    cases hid : (idsOk H2 n2 (gather H2 64 (ys.flatMap FV.ids) []) ys && allLive H2 (gather H2 64 (ys.flatMap FV.ids) []) && prefixOk d.pn (gather H2 64 (ys.flatMap FV.ids) [])) with
    | false => rw [hid] at hq; exact hq.elim
    | true =>
      rw [hid] at hq
      simp only [cond_true] at hq
      generalize gather H2 64 (ys.flatMap FV.ids) [] = ids at hq hid
      simp only [Bool.and_eq_true] at hid
      obtain ⟨⟨hid, hlive2⟩, hpre⟩ := hid
      obtain ⟨i1, i2, i3, i4⟩ := idsOk_of hid
      have hI3 := enter_inv (ids := ids) hcore.inv i1 i4
      have hk3 := enter_keep i3 k2
      have hf3 : ∀ i, (handed H2 ids).length ≤ i → (C2'.enter ids C2'.vis).ρ i = none := fun i hi => by
        simp only [Cx.enter]
        rw [if_neg (by have : ids.length ≤ i := by simpa [handed] using hi
                       omega)]
      have hx3 : Ext (fun b => ∃ i m, (hpOf bs i).live ∧ C.ρ i = some (some b, m)) C.bare (C2'.enter ids C2'.vis).bare := by
        refine Ext.trans hx1 (C'' := (C2'.enter ids C2'.vis).bare) (T' := fun b => ∃ i m, (hpOf (d.inp s).1 i).live ∧ C1.ρ i = some (some b, m)) ?_ fun b ⟨i, m, _, h2⟩ hb => ?_
        · have h := hcore.hist.ext.bare
          exact ⟨h.os, h.tape, h.output, h.size, h.blk, h.shp, h.unf, h.frz, h.new, h.vis, fun _ _ h => by cases h⟩
        · rcases hn1 i _ h2 b rfl with h | h
          · exact h
          · exact absurd h (Nat.not_le.2 hb)
      have hn3 : ∀ i p, (C2'.enter ids C2'.vis).ρ i = some p → ∀ b, p.1 = some b → (∃ j m, (hpOf bs j).live ∧ C.ρ j = some (some b, m)) ∨ C.w.heap.size ≤ b := by
        intro i p hp b hpb
        simp only [Cx.enter] at hp
        split at hp
        · rcases hcore.hist.new _ p hp with h | ⟨_, h⟩
          · exact hn1 _ p h b hpb
          · rcases h b hpb with ⟨j, m, _, h2⟩ | h
            · exact hn1 j (some b, m) h2 b rfl
            · exact .inr (Nat.le_trans hx1.size h)
        · cases hp
      have hpin3 : ∀ i, i < d.pn → ∀ q, C.ρ i = some q → (C2'.enter ids C2'.vis).ρ i = some q := fun i hi q hq => by
        obtain ⟨h1, h2⟩ := prefix_get hpre hi
        simp only [Cx.enter]
        rw [if_pos h1, h2]
        exact hcore.hist.ext.rho _ _ (hpin1 i hi q hq)
      rw [hq] at hK
      refine hQ ex _ _ (C2'.enter ids C2'.vis) a2 hK ⟨hI3, ⟨hx3.os, hx3.tape, hx3.output, hx3.size, hx3.blk, hx3.shp, hx3.unf, hx3.frz, hx3.new, hx3.vis, fun _ _ h => by cases h⟩, fun i p hp => ⟨?_, hn3 i p hp⟩, hpin3⟩ hk3 hS2.size hS2.df
      rcases Nat.lt_or_ge i (handed H2 ids).length with h | h
      · exact h
      · rw [hf3 i h] at hp; cases hp
theorem loop_ok (hm : P.follows .mixedOrders = true) (hE : TyOK P E) (hG : ∀ c ∈ E.G, Good P c) (d : LDat) {body : Code} (hok : codeOk P E.ct L sz body) (hdec : ∀ bs xs s, d.dec bs xs = some s → (d.inp s).1 = bs ∧ Fits xs (d.inp s).2)
    (hb : ∀ s, d.pre s → evBody E L body d s) : LGood P sz d.ctr body := by
  intro bs xs K C a Q hS hlive hsz hI hfr hxl hkr hQ
  unfold LDat.ctr LDat.Sf at hS
  simp only at hS
  cases hd : d.dec bs xs with
  | none => rw [hd] at hS; exact hS.elim
  | some s0 =>
    rw [hd] at hS
    obtain ⟨hp0, hK⟩ := hS
    replace hK : K (d.out s0).1 (d.out s0).2.1 (d.out s0).2.2 := allAlts_pick hK
    obtain ⟨e1, e2⟩ := hdec _ _ _ hd
    have claim : ∀ (m : Nat) (s : d.σ) (C1 : Cx) (a1 : Act), d.pre s → d.μ s < m → d.out s = d.out s0 → a1.tmps.size = sz → a1.defers = a.defers → Inv C1 (hpOf (d.inp s).1) → (∀ i, (d.inp s).1.length ≤ i → C1.ρ i = none) → keptR C1 d.keep (d.inp s).2 a1.tmps →
        Ext (fun b => ∃ i m, (hpOf bs i).live ∧ C.ρ i = some (some b, m)) C.bare C1.bare → (∀ i p, C1.ρ i = some p → ∀ b, p.1 = some b → (∃ j m, (hpOf bs j).live ∧ C.ρ j = some (some b, m)) ∨ C.w.heap.size ≤ b) → (∀ i, i < d.pn → ∀ q, C.ρ i = some q → C1.ρ i = some q) → Code.rounds P body Q m a1 C1.w := by
      intro m
      induction m with
      | zero => intro s C1 a1 _ h; omega
      | succ m ih =>
        intro s C1 a1 hp hμ ho hs1 hd1 hI1 hf1 hk1 hx1 hn1 hpin1
        rw [rounds_succ]
        have hst : St' C1 (hpOf (d.inp s).1) (d.inp s).1.length sz a1.defers (keepFr d.keep (d.inp s).2) (hpOf (d.inp s).1) (d.inp s).1.length C1 a1 :=
          ⟨keepFr_R hk1, hI1, hf1, Hist.refl hI1, hs1, rfl, Nat.le_refl _⟩
        refine wp_mono (ev_ok hm hE hG body hok _ _ _ _ C1 a1 (hb s hp) hst) fun e a2 w2 hpost => ?_
        obtain ⟨ex, fr2, H2, n2, C2, rfl, rfl, hS2, hq⟩ := hpost
        have hqc : ∀ e, d.QC s e fr2 H2 n2 → Q (exOf e) a2 C2.w := fun e he => qc_ok d (K := K) hx1 hn1 hpin1 hS2 he (by rw [ho]; exact hK) fun e ys bs' C' a' k1 k2 k3 k4 k5 => hQ e ys bs' C' a' k1 k2 k3 k4 (k5.trans hd1)
        cases ex with
        | exit i => exact hqc (.exit i) hq
        | ret => exact hqc .ret hq
        | normal =>
          unfold LDat.Q at hq
          simp only at hq
          cases hk : keptOf fr2 d.keep with
          | none => rw [hk] at hq; exact hq.elim
          | some ys =>
            rw [hk] at hq
            simp only at hq
            obtain ⟨k1', k2'⟩ := keptOf_R hS2.frm hk
            obtain ⟨C2', kp, hcore, k1, k2⟩ := kept_own d.shp ⟨hS2.inv, hS2.rho, hS2.hist, hS2.nb⟩ k1' k2'
            rw [← kp.w]
            generalize ownFs ys d.shp H2 n2 = r at hq hcore k1 k2
            clear k1' k2' hk ys
            obtain ⟨ys, H2, n2⟩ := r
            simp only at hq hcore k1 k2
            cases hid : (idsOk H2 n2 (gather H2 64 (ys.flatMap FV.ids) []) ys && allLive H2 (gather H2 64 (ys.flatMap FV.ids) []) && prefixOk d.pn (gather H2 64 (ys.flatMap FV.ids) [])) with
            | false => rw [hid] at hq; exact hq.elim
            | true =>
              rw [hid] at hq
              simp only [cond_true] at hq
              generalize gather H2 64 (ys.flatMap FV.ids) [] = ids at hq hid
              simp only [Bool.and_eq_true] at hid
              obtain ⟨⟨hid, hlive2⟩, hpre⟩ := hid
              obtain ⟨i1, i2, i3, i4⟩ := idsOk_of hid
              have hI3 := enter_inv (ids := ids) hcore.inv i1 i4
              have hk3 := enter_keep i3 k2
              have hf3 : ∀ i, (handed H2 ids).length ≤ i → (C2'.enter ids C2'.vis).ρ i = none := fun i hi => by
                simp only [Cx.enter]
                rw [if_neg (by have : ids.length ≤ i := by simpa [handed] using hi
                               omega)]
              have hx3 : Ext (fun b => ∃ i m, (hpOf bs i).live ∧ C.ρ i = some (some b, m)) C.bare (C2'.enter ids C2'.vis).bare := by
                refine Ext.trans hx1 (C'' := (C2'.enter ids C2'.vis).bare) (T' := fun b => ∃ i m, (hpOf (d.inp s).1 i).live ∧ C1.ρ i = some (some b, m)) ?_ fun b ⟨i, m, _, h2⟩ hb => ?_
                · have h := hcore.hist.ext.bare
                  exact ⟨h.os, h.tape, h.output, h.size, h.blk, h.shp, h.unf, h.frz, h.new, h.vis, fun _ _ h => by cases h⟩
                · rcases hn1 i _ h2 b rfl with h | h
                  · exact h
                  · exact absurd h (Nat.not_le.2 hb)
              have hn3 : ∀ i p, (C2'.enter ids C2'.vis).ρ i = some p → ∀ b, p.1 = some b → (∃ j m, (hpOf bs j).live ∧ C.ρ j = some (some b, m)) ∨ C.w.heap.size ≤ b := by
                intro i p hp b hpb
                simp only [Cx.enter] at hp
                split at hp
                · rcases hcore.hist.new _ p hp with h | ⟨_, h⟩
                  · exact hn1 _ p h b hpb
                  · rcases h b hpb with ⟨j, m, _, h2⟩ | h
                    · exact hn1 j (some b, m) h2 b rfl
                    · exact .inr (Nat.le_trans hx1.size h)
                · cases hp
              have hpin3 : ∀ i, i < d.pn → ∀ q, C.ρ i = some q → (C2'.enter ids C2'.vis).ρ i = some q := fun i hi q hq => by
                obtain ⟨h1, h2⟩ := prefix_get hpre hi
                simp only [Cx.enter]
                rw [if_pos h1, h2]
                exact hcore.hist.ext.rho _ _ (hpin1 i hi q hq)
              cases hd' : d.dec (handed H2 ids) (ys.map (FV.ren fun i => idx i ids)) with
              | none => rw [hd'] at hq; exact hq.elim
              | some s' =>
                rw [hd'] at hq
                obtain ⟨q1, q2, q3⟩ := hq
                obtain ⟨f1, f2⟩ := hdec _ _ _ hd'
                have hsz2 : a2.defers = a.defers := hS2.df.trans hd1
                exact ih s' (C2'.enter ids C2'.vis) a2 q1 (by omega) (q3.trans ho) hS2.size hsz2 (by rw [f1]; exact hI3) (by rw [f1]; exact hf3) (f2.kept hk3) hx3 hn3 hpin3
    refine wp_loop_rounds (d.μ s0 + 1) (claim _ s0 C a hp0 (Nat.lt_succ_self _) rfl hsz rfl (by rw [e1]; exact hI) (by rw [e1]; exact hfr) (e2.kept hkr) (Ext.refl _ _) (fun i p hp b hpb => .inl ?_) fun i _ q hq => hq)
    rcases Nat.lt_or_ge i bs.length with h | h
    · exact ⟨i, p.2, hlive i h, by rw [hp, ← hpb]⟩
    · rw [hfr i h] at hp; cases hp
end
end Hw
end Go.Proofs.YtklmllaggigkfaaGreat
/- Functions by contracts. -/
set_option linter.unusedVariables false
set_option linter.unusedSimpArgs false
namespace Go.Proofs.YtklmllaggigkfaaGreat
namespace Hw
open Go
theorem prefix_of:∀{k:Nat} {ids:List Nat},prefixOk k ids = true→k≤ids.length∧∀i,i < k→nth i ids = i
 | 0,_,_=>⟨Nat.zero_le _,fun i h=>by omega⟩
 | k + 1,ids,h=>by
  simp only [prefixOk,Bool.and_eq_true] at h
  obtain ⟨h1,h2⟩:=prefix_of h.2
  have h3:k < ids.length:=Nat.le_of_ble_eq_true h.1.1
  refine ⟨h3,fun i hi=>?_⟩
  by_cases hik:i = k
  ·subst hik; exact Nat.eq_of_beq_eq_true h.1.2
  ·exact h2 i (by omega)
section
variable {P:Program} {E:Env} {L:List LCtr}
theorem valsR_argsFr {C:Cx} {xs:List FV} {vs:List Value} {n:Nat} (h:valsR C xs vs):FrR C (argFr xs) (vs.toArray ++ Array.replicate n undef):=by
 have hg:∀t,(argFr xs t).g = []:=by
  intro t
  unfold argFr
  split <;> rfl
 refine ⟨fun t _=>?_,fun t ht=>absurd (by rw [hg]; exact fun e he=>by cases he) ht⟩
 unfold argFr
 split
 ·rename_i x hx
  obtain ⟨u,h1,h2⟩:=valsR_get h t x hx
  refine .inr ⟨u,?_,h2⟩
  have hl:=(List.getElem?_eq_some_iff.1 h1).1
  rw [Array.getElem?_append_left (by simpa using hl)]
  simpa using h1
 ·exact .inl rfl
def resV (tmps:Array Value):ResultVar→Sem Value
 | .tmp t=>pure (tmps.getD t undef)
 | .cell a t=>do loadVar t (← asAddr (tmps.getD a undef))
theorem results_eq (fn:Func) (tmps:Array Value):results fn tmps = (do
 let vs←fn.results.mapM (resV tmps)
 pure (if h:vs.size = 1 then vs[0] else .tuple vs)):=rfl
theorem resAll_ok (hE:TyOK P E) {fr:Fr} {H:Hp} {C:Cx} {tmps:Array Value} (hF:FrR C fr tmps) (hI:Inv C H):∀{rs:List ResultVar} {xs:List FV},resAll E fr H rs = some xs →
  ∃vs:List Value,(rs.mapM (resV tmps)).run P C.w = .ok vs C.w∧valsR C xs vs:=by
 intro rs
 induction rs with
 | nil =>
  intro xs h
  simp only [resAll,Option.some.injEq] at h
  subst h
  exact ⟨[],by simp,trivial⟩
 | cons r rs ih =>
  intro xs h
  unfold resAll at h
  cases h1:resOf E fr H r with
  | none=>rw [h1] at h; cases h
  | some x =>
   rw [h1] at h
   simp only [Option.bind_some] at h
   cases h2:resAll E fr H rs with
   | none=>rw [h2] at h; cases h
   | some ys =>
    rw [h2] at h
    simp only [Option.map_some,Option.some.injEq] at h
    subst h
    obtain ⟨vs,i1,i2⟩:=ih h2
    have key:∃v,(resV tmps r).run P C.w = .ok v C.w∧fvR C x v:=by
     cases r with
     | tmp t =>
      simp only [resOf] at h1
      cases hg:(fr t).g.isEmpty with
      | false=>rw [hg] at h1; cases h1
      | true =>
       rw [hg] at h1
       simp only [cond_true] at h1
       have hg':=List.isEmpty_iff.1 hg
       unfold asFV at h1
       split at h1
       ·rename_i y hy
        simp only [Option.some.injEq] at h1 hy
        subst h1
        rcases hF.slot t (by rw [hg']; exact fun e he=>by cases he) with h | ⟨v,h3,h4⟩
        ·rw [hy] at h; cases h
        ·rw [hy] at h4
         refine ⟨v,?_,h4⟩
         simp [resV,Array.getD_eq_getD_getElem?,h3]
       ·cases h1
     | cell t ty =>
      simp only [resOf] at h1
      cases ht:E.T.get ty with
      | none=>rw [ht] at h1; cases h1
      | some ti =>
       rw [ht] at h1
       simp only [Option.bind_some] at h1
       cases hp:asC (opnd fr [] (.tmp t)) with
       | none=>rw [hp] at h1; cases h1
       | some p =>
        rw [hp] at h1
        simp only at h1
        split at h1
        ·rename_i chk y rd ws nid hl
         split at h1
         ·rename_i i o
          simp only [Option.some.injEq] at h1
          subst h1
          have hc:=asC_R (a:=⟨tmps,[]⟩) (π:=[]) hF (fun e he=>by cases he) hp
          have hchk:chk = none:=by
           unfold aLoad at hl
           simp only at hl
           split at hl
           ·rename_i m cs hH
            cases hb:Nat.ble (Nat.add o ti.size) cs.length with
            | false=>rw [hb] at hl; cases hl
            | true =>
             rw [hb] at hl
             simp only [cond_true] at hl
             cases hv:fvOfCells ti.agg ((cs.drop o).take ti.size) with
             | none=>rw [hv] at hl; cases hl
             | some w=>rw [hv] at hl; simp only [Option.map_some,Option.some.injEq,OpR.mk.injEq] at hl; exact hl.1.symm
           ·cases hl
          subst hchk
          obtain ⟨u,h3,h4,_⟩:=aLoad_ok (hE.T.get ht) hI hc hl trivial
          obtain ⟨b,m,h5,h6⟩:=hc
          have h6':tmps.getD t undef = .pointer (some ⟨b,o,none⟩):=h6
          refine ⟨u,?_,h4⟩
          have h3':(Instr.loadAt ty (.pointer (some ⟨b,o,none⟩))).run P C.w = .ok u C.w:=by rw [← h6]; exact h3
          simpa [resV,h6',Instr.loadAt,Instr.sureAddr,asAddr] using h3'
         ·cases h1
        ·cases h1
    obtain ⟨v,k1,k2⟩:=key
    refine ⟨v :: vs,?_,k2,i2⟩
    rw [List.mapM_cons,Sem.run_bind,k1]
    simp only [Result.andThen_ok]
    rw [Sem.run_bind,i1]
    simp
theorem wr_gone:∀{tk:List Nat} {H:Hp} {j:Nat},j∈tk→wr H (deadOf tk) j = .dead
 | i :: r,H,j,h=>by
  by_cases hr:j∈r
  ·exact wr_gone (tk:=r) (H:=upd H i .dead) hr
  ·rw [List.mem_cons] at h
   have hji:j = i:=h.resolve_right hr
   subst hji
   show wr (upd H j .dead) (deadOf r) j = .dead
   rw [wr_off _ _ _ (fun h'=>hr (mem_deadOf.1 h')),upd_self]
theorem kill_core {Cb:Cx} {Hb:Hp} {nb:Nat} {C:Cx} {H:Hp} {n:Nat} (h:Core Cb Hb nb H n C) (tk:List Nat):Core Cb Hb nb (wr H (deadOf tk)) n C:=by
 have hc:∀j,wr H (deadOf tk) j = .dead∨wr H (deadOf tk) j = H j:=fun j=>by
  by_cases hj:j∈tk
  ·exact .inl (wr_gone hj)
  ·exact .inr (wr_off _ _ _ (fun h'=>hj (mem_deadOf.1 h')))
 have hl:∀j,(wr H (deadOf tk) j).live→(H j).live:=fun j hj=>by
  rcases hc j with h1 | h1
  ·rw [h1] at hj; exact hj.elim
  ·rw [← h1]; exact hj
 refine ⟨⟨fun j=>?_,fun i j b x y hi hj=>h.inv.inj i j b x y (hl i hi) (hl j hj),h.inv.frz,h.inv.vis⟩,h.rho,⟨h.hist.ext,h.hist.new,fun i b m hi=>h.hist.liv i b m (hl i hi)⟩,h.nb⟩
 rcases hc j with h1 | h1
 ·rw [h1]; trivial
 ·rw [h1]; exact h.inv.own j
theorem set_core {Cb:Cx} {Hb:Hp} {nb:Nat} {C:Cx} {H:Hp} {n m:Nat} {cs cs':List Cell} (h:Core Cb Hb nb H n C) (hH:H 0 = .raw m cs) (hl:cs'.length = cs.length) (hv:∀(b:Nat) (vs:Array Value) (e:TypeId),C.ρ 0 = some (some b,m)→C.w.heap[b]? = some (Obj.cells vs e (0,0))→fvR C (.agg cs') (.agg vs)):Core Cb Hb nb (upd H 0 (.raw m cs')) n C:=by
 have hlv:∀j,(upd H 0 (.raw m cs') j).live→(H j).live:=fun j hj=>by
  by_cases h0:j = 0
  ·subst h0
   rw [hH]
   trivial
  ·rw [upd_ne h0] at hj
   exact hj
 refine ⟨⟨fun j=>?_,fun i j b x y hi hj=>h.inv.inj i j b x y (hlv i hi) (hlv j hj),h.inv.frz,h.inv.vis⟩,h.rho,⟨h.hist.ext,h.hist.new,fun i b m hi=>h.hist.liv i b m (hlv i hi)⟩,h.nb⟩
 by_cases h0:j = 0
 ·subst h0
  rw [upd_self]
  have ho:=h.inv.own 0
  rw [hH] at ho
  obtain ⟨b,vs,e,o1,o2,o3,o4,o5,o6⟩:=ho
  obtain ⟨vs',q1,q2,q3⟩:=hv b vs e o1 o4
  cases q1
  exact ⟨b,vs,e,o1,o2,o3,o4,q2,q3⟩
 ·rw [upd_ne h0]
  exact h.inv.own j
theorem move_core {Cb:Cx} {Hb:Hp} {nb:Nat} {C:Cx} {H:Hp} {n:Nat} {ids:List Nat} {xs:List FV} {us:List Value} (h:Core Cb Hb nb H n C) (hid:idsOk H n ids xs = true) (hlive:allLive H ids = true) (hx:valsR C xs us) :
  ∃C',C'.w = C.w∧Core Cb Hb nb (wr H (deadOf ids ++ wsFrom n [] 0 (handed H ids))) (n + (handed H ids).length) C'∧valsR C' ((xs.map (FV.ren fun i=>idx i ids)).map (FV.ren (sg n []))) us∧∀i p,C.ρ i = some p→C'.ρ i = some p:=by
 obtain ⟨i1,i2,i3,i4⟩:=idsOk_of hid
 have hI:=enter_inv h.inv i1 i4
 have hlen:(handed H ids).length = ids.length:=by simp [handed]
 have hA:AfterL 0 (C.enter ids C.vis) (C.enter ids C.vis) (handed H ids) (handed H ids):=by
  refine ⟨hI,⟨rfl,rfl,rfl,Nat.le_refl _,fun _ _ _=>rfl,fun b vs e h=>⟨vs,h,rfl⟩,fun b o h0 h=>h0 o h,fun _ h=>h,fun _ h=>.inl h,rfl,fun i p hp=>by cases hp⟩,fun i p hp=>?_,fun i hi=>absurd hi (Nat.not_lt_zero i)⟩
  have hi:i < ids.length:=by
   simp only [Cx.enter] at hp
   split at hp
   ·assumption
   ·cases hp
  exact ⟨by omega,fun b hb=>.inl ⟨i,p.2,handed_live hlive i (by omega),by rw [hp,← hb]⟩⟩
 have hall:∀i∈ids,(H i).live:=fun i hi=>by
  have h1:=handed_live hlive (idx i ids) (by have:=(idx_mem hi).1; simpa [handed] using this)
  rw [hpOf_handed (idx_mem hi).1,ren_live,(idx_mem hi).2] at h1
  exact h1
 obtain ⟨g1,g2,g3,g4,g5⟩:=backL_ok h.inv h.rho i1 i2 hall (Nat.zero_le _) (Nat.zero_le _) hA
 have hlv:Left C H n ⟨none,.top,[],deadOf ids ++ wsFrom n [] 0 (handed H ids),n + (handed H ids).length⟩ undef (C.enter ids C.vis).w (C.back (C.enter ids C.vis) n []):=⟨rfl,trivial,g2,g3,g4⟩
 refine ⟨C.back (C.enter ids C.vis) n [],rfl,⟨g2,fun j hj=>?_,h.hist.step h.inv h.nb (fun i h1 _=>h.rho i h1) hlv g5,Nat.le_trans h.nb (Nat.le_add_right _ _)⟩,?_,g3.rho⟩
 ·cases hp:(C.back (C.enter ids C.vis) n []).ρ j with
  | none=>rfl
  | some p =>
   rcases g4 j p hp with h' | ⟨_,h',_⟩
   ·rw [h.rho j (by omega)] at h'; cases h'
   ·omega
 ·have h1:valsR (C.enter ids C.vis) (xs.map (FV.ren fun i=>idx i ids)) us:=valsR_map (fun x hx v hv=>fvR_ren (C:=C) (D:=C.enter ids C.vis) rfl (fun _ h=>h) (.inr fun _ h=>h) (fun i hi p hp=>enter_rho (i3 x hx i hi) hp) hv) hx
  exact valsR_map (fun x hx v hv=>fvR_ren (C:=C.enter ids C.vis) (D:=C.back (C.enter ids C.vis) n []) rfl (fun _ h=>h) (.inr fun b h=>h) (fun i _ p hp=>g1 i p hp) hv) h1
theorem fro_core {Cb:Cx} {Hb:Hp} {nb:Nat} {C:Cx} {H:Hp} {n:Nat} {vs:List Nat} {xs:List FV} {us:List Value} (h:Core Cb Hb nb H n C) (hl:froOk H n vs xs = true) (hx:valsR C xs us) :
  Core Cb Hb nb (wr H (deadOf vs)) n (C.fz vs)∧valsR (C.fz vs) (xs.map fun x=>(x.view H).tt) us:=by
 unfold froOk at hl
 simp only [Bool.and_eq_true] at hl
 obtain ⟨⟨⟨⟨hid,hlive⟩,hsf⟩,hs⟩,hf⟩:=hl
 obtain ⟨i1,i2,i3,i4⟩:=idsOk_of hid
 have hlv:∀j∈vs,(H j).live:=fun j hj=>by
  have:=List.all_eq_true.1 hlive j hj
  cases hb:H j with
  | dead=>rw [hb] at this; cases this
  | raw m cs=>trivial
  | arr a=>trivial
  | mp l=>trivial
 have hI:=fz_inv h.inv hlv
 have hext:Ext (fun b=>∃i m,i∈(deadOf vs).map (·.1)∧(H i).live∧C.ρ i = some (some b,m)) C (C.fz vs) :=
  fz_ext _ fun b j m hj hm=>⟨j,m,mem_deadOf.2 hj,hlv j hj,hm⟩
 have L:Left C H n ⟨none,.top,[],deadOf vs,n⟩ undef C.w (C.fz vs):=⟨rfl,trivial,hI,hext,fun i p hp=>.inl hp⟩
 refine ⟨⟨hI,h.rho,h.hist.step h.inv h.nb (fun i h1 _=>h.rho i h1) L ?_,h.nb⟩,valsR_map (fun x hx v hv=>fv_fro h.inv hv (List.all_eq_true.1 hs x hx) (i3 x hx) i4 (fun i hi=>List.all_eq_true.1 hsf i hi) (List.all_eq_true.1 hf x hx)) hx⟩
 unfold wsOk deadOf
 rw [List.all_eq_true]
 intro e he
 obtain ⟨i,hi,rfl⟩:=List.mem_map.1 he
 have hlt:=i2 i hi
 simp only [Blk.isDead,Bool.true_or,Bool.and_true]
 exact Nat.ble_eq_true_of_le hlt
theorem fn_ok {sh : Shp} {tk : List Nat} (hm : P.follows .mixedOrders = true) (hE : TyOK P E) (hG : ∀ c ∈ E.G, Good P c) {c : Ctr} {fn : Func} {code : Code} (hf : P.funcs[c.fid]? = some fn) (hb : fn.body = some code) (hname : (fn.name == "runtime.NumGoroutine") = false) (hok : codeOk P E.ct L fn.ntmps code)
    (hdec : ∀ bs args s, c.dec bs args = some s → (c.inp s).1 = bs ∧ Fits args (c.inp s).2) (hargs : ∀ s, (c.inp s).2.length ≤ fn.ntmps)
    (hev : ∀ s C vs, Inv C (hpOf (c.inp s).1) → valsR C (c.inp s).2 vs → (∀ p, c.pre = some p → p s) → evFn E L sh tk fn (c.inp s).1 (c.inp s).2 fun r bs' => And (r = (c.out s).1) (bs' = (c.out s).2)) : Good P c where
  fn := ⟨fn, hf, by rw [hb]; rfl, hname⟩
  dec := fun bs args s h => ⟨(hdec bs args s h).1, fun C vs hv => (hdec bs args s h).2.vals hv⟩
  run := fun s C vs hI hfr hv hp => by
    have hes := hev s C vs hI hv hp
    unfold evFn at hes
    rw [hb] at hes
    simp only at hes
    have hvl := valsR_len hv
    have hal := hargs s
    refine calls_of_wp hf hb ?_
    have hsz : (vs.toArray ++ Array.replicate (fn.ntmps - vs.toArray.size) undef).size = fn.ntmps := by simp; omega
    have hst : St' C (hpOf (c.inp s).1) (c.inp s).1.length fn.ntmps [] (argFr (c.inp s).2) (hpOf (c.inp s).1) (c.inp s).1.length C ⟨vs.toArray ++ Array.replicate (fn.ntmps - vs.toArray.size) undef, []⟩ :=
      ⟨valsR_argsFr hv, hI, hfr, Hist.refl hI, hsz, rfl, Nat.le_refl _⟩
    refine wp_mono (ev_ok hm hE hG code hok _ _ _ _ C _ hes hst) fun e a2 w2 hpost => ?_
    obtain ⟨ex, fr2, H2, n2, C2, rfl, rfl, hS2, hq⟩ := hpost
    have hend : (match resAll E (flush fr2) H2 fn.results.toList with
        | some xs => fin E.lst sh tk (c.inp s).1.length n2 H2 xs fun r bs' => And (r = (c.out s).1) (bs' = (c.out s).2)
        | none => False) → a2.defers = [] ∧ ∃ v, (results fn a2.tmps).run P C2.w = .ok v C2.w ∧ ∃ v' C', Ending.returned v = .returned v' ∧ C'.w = C2.w ∧ avR C' (c.out s).1 v' ∧ After C C' (c.inp s).1 (c.out s).2 := by
      intro hq
      refine ⟨hS2.df, ?_⟩
      cases hres : resAll E (flush fr2) H2 fn.results.toList with
      | none => rw [hres] at hq; exact hq.elim
      | some xs =>
        rw [hres] at hq
        simp only at hq
        obtain ⟨us, r1, r2⟩ := resAll_ok hE (FrR_flush hS2.frm).1 hS2.inv hres
        unfold fin at hq
        simp only at hq
        obtain ⟨C2', kp, hcore, r2'⟩ := ownFs_ok (sh := sh) ⟨hS2.inv, hS2.rho, hS2.hist, hS2.nb⟩ r2
        generalize ownFs xs sh H2 n2 = rr at hq hcore r2'
        clear r2 hres xs
        obtain ⟨xs, H2, n2⟩ := rr
        simp only at hq hcore r2'
        have hkw : C2'.w = C2.w := kp.w
        clear kp
        have rest : ∀ (xs : List FV) (H2 : Hp) (n2 : Nat) (C2' : Cx), C2'.w = C2.w → Core C (hpOf (c.inp s).1) (c.inp s).1.length H2 n2 C2' → valsR C2' xs us → fin1 (c.inp s).1.length n2 H2 xs (fun r bs' => And (r = (c.out s).1) (bs' = (c.out s).2)) → ∃ v, (results fn a2.tmps).run P C2.w = .ok v C2.w ∧ ∃ v' C', Ending.returned v = .returned v' ∧ C'.w = C2.w ∧ avR C' (c.out s).1 v' ∧ After C C' (c.inp s).1 (c.out s).2 := by
          clear hq hcore r2' xs H2 n2 hkw C2'
          intro xs H2 n2 C2' hkw hcore r2 hq
          unfold fin1 at hq
          simp only at hq
          generalize gather H2 64 (List.append (xs.flatMap FV.ids) ((rangeN (c.inp s).1.length).flatMap fun i => (H2 i).ids)) (rangeN (c.inp s).1.length) = ids at hq
          cases hid : (prefixOk (c.inp s).1.length ids && idsOk H2 n2 ids xs) with
          | false => rw [hid] at hq; exact hq.elim
          | true =>
            rw [hid] at hq
            simp only [cond_true] at hq
            rw [Bool.and_eq_true] at hid
            obtain ⟨hpre, hid⟩ := hid
            obtain ⟨p1, p2⟩ := prefix_of hpre
            obtain ⟨i1, i2, i3, i4⟩ := idsOk_of hid
            obtain ⟨q1, q2⟩ := hq
            have hus : valsR (C2'.enter ids C2'.vis) (xs.map (FV.ren fun i => idx i ids)) us :=
              valsR_map (fun x hx v hv => fvR_ren (C := C2') (D := C2'.enter ids C2'.vis) rfl (fun _ h => h) (.inr fun _ h => h) (fun i hi p hp => enter_rho (i3 x hx i hi) hp) hv) r2
            have hrun : (results fn a2.tmps).run P C2.w = .ok (if h : us.length = 1 then us[0] else .tuple us.toArray) C2.w := by
              rw [results_eq, Sem.run_bind, Array.mapM_eq_mapM_toList]
              simp only [Sem.run_map]
              rw [r1]
              simp
            refine ⟨_, hrun, _, C2'.enter ids C2'.vis, rfl, hkw, ?_, ?_⟩
            · rw [← q1]
              have hul := valsR_len hus
              split
              · rename_i x hx
                rw [hx] at hus hul
                match us, hul, hus with
                | [u], _, hus => exact hus.1
              · rename_i hx
                have h1 : ¬ us.length = 1 := by
                  intro h1
                  rw [hul] at h1
                  obtain ⟨x, hx'⟩ := List.length_eq_one_iff.1 h1
                  exact hx x hx'
                rw [dif_neg h1]
                exact ⟨us.toArray, rfl, by simpa using hul, fun j x hj => by obtain ⟨u, h1, h2⟩ := valsR_get hus j x hj; exact ⟨u, by simpa using h1, h2⟩⟩
            · rw [← q2]
              have hlen : (handed H2 ids).length = ids.length := by simp [handed]
              refine ⟨enter_inv hcore.inv i1 i4, ?_, fun i p hp => ?_⟩
              · have e := hcore.hist.ext
                refine ⟨e.os, e.tape, e.output, e.size, e.blk, e.shp, e.unf, e.frz, e.new, e.vis, fun i p hp => ?_⟩
                have hi : i < (c.inp s).1.length := by
                  rcases Nat.lt_or_ge i (c.inp s).1.length with h | h
                  · exact h
                  · rw [hfr i h] at hp; cases hp
                simp only [Cx.enter]
                rw [if_pos (by omega), p2 i hi]
                exact e.rho i p hp
              · simp only [Cx.enter] at hp
                split at hp
                · rename_i hil
                  rcases hcore.hist.new _ p hp with h | ⟨h1, h2⟩
                  · have hlt : nth i ids < (c.inp s).1.length := by
                      rcases Nat.lt_or_ge (nth i ids) (c.inp s).1.length with h' | h'
                      · exact h'
                      · rw [hfr _ h'] at h; cases h
                    have : nth i ids = i := by
                      have h3 := p2 _ hlt
                      exact nth_inj i1 (by omega) hil h3
                    rw [this] at h
                    exact .inl h
                  · refine .inr ⟨?_, by omega, h2⟩
                    rcases Nat.lt_or_ge i (c.inp s).1.length with h' | h'
                    · rw [p2 i h'] at h1; omega
                    · exact h'
                · cases hp
        have rest0 : ∀ (xs : List FV) (H2 : Hp) (n2 : Nat) (C2' : Cx), C2'.w = C2.w → Core C (hpOf (c.inp s).1) (c.inp s).1.length H2 n2 C2' → valsR C2' xs us → fin0 tk (c.inp s).1.length n2 H2 xs (fun r bs' => And (r = (c.out s).1) (bs' = (c.out s).2)) → ∃ v, (results fn a2.tmps).run P C2.w = .ok v C2.w ∧ ∃ v' C', Ending.returned v = .returned v' ∧ C'.w = C2.w ∧ avR C' (c.out s).1 v' ∧ After C C' (c.inp s).1 (c.out s).2 := by
          clear hq hcore r2' xs H2 n2 hkw C2'
          intro xs H2 n2 C2' hkw hcore r2' hq
          unfold fin0 at hq
          cases htk : tk with
          | nil =>
            rw [htk] at hq
            exact rest xs H2 n2 C2' hkw hcore r2' hq
          | cons t0 tk0 =>
            rw [htk] at hq
            simp only at hq
            cases ht : Nat.beq t0 1000 with
            | true =>
              rw [ht] at hq
              simp only [cond_true] at hq
              cases hH : H2 0 with
              | dead => rw [hH] at hq; exact hq.elim
              | arr a => rw [hH] at hq; exact hq.elim
              | mp l => rw [hH] at hq; exact hq.elim
              | raw m cs =>
                rw [hH] at hq
                simp only at hq
                generalize hgi : gather H2 64 (List.append (xs.flatMap FV.ids) (cs.flatMap Cell.ids)) [] = ids at hq
                cases hid : (idsOk H2 n2 ids (.agg cs :: xs) && allLive H2 ids && !(memN 0 ids) && !(memN 0 tk0)) with
                | false => rw [hid] at hq; exact hq.elim
                | true =>
                  rw [hid] at hq
                  simp only [cond_true] at hq
                  simp only [Bool.and_eq_true, Bool.not_eq_true'] at hid
                  obtain ⟨⟨⟨e1, e2⟩, e3⟩, e4⟩ := hid
                  have ho := hcore.inv.own 0
                  rw [hH] at ho
                  obtain ⟨b, vs, e, o1, o2, o3, o4, o5, o6⟩ := ho
                  have hx : valsR C2' (.agg cs :: xs) (.agg vs :: us) := ⟨⟨vs, rfl, o5, o6⟩, r2'⟩
                  obtain ⟨C3, k1, k2, k3, k6⟩ := move_core hcore e1 e2 hx
                  have k4 := kill_core k2 tk0
                  have h0 : wr (wr H2 (deadOf ids ++ wsFrom n2 [] 0 (handed H2 ids))) (deadOf tk0) 0 = .raw m cs := by
                    rw [wr_off _ _ _ (fun h' => by rw [mem_deadOf] at h'; rw [memN_iff.2 h'] at e4; cases e4), wr_append, wr_off _ _ _ (fun h' => ?_), wr_off _ _ _ (fun h' => by rw [mem_deadOf] at h'; rw [memN_iff.2 h'] at e3; cases e3)]
                    · exact hH
                    · obtain ⟨k, hk, h7⟩ := (ws_ids n2 [] (handed H2 ids) 0 0).1 h'
                      have h9 : n2 ≤ 0 := by
                        have : n2 ≤ sg n2 [] (0 + k) := by
                          have e : Nat.blt (0 + k) 0 = false := Bool.eq_false_iff.2 fun h => absurd (Nat.le_of_ble_eq_true h) (Nat.not_succ_le_zero _)
                          show n2 ≤ bif Nat.blt (0 + k) 0 then nth (0 + k) [] else n2 + (0 + k - 0)
                          rw [e]
                          exact Nat.le_add_right _ _
                        omega
                      rw [hcore.rho 0 h9] at o1
                      cases o1
                  have k5 := set_core k4 h0 (cs' := (cs.map (Cell.ren fun i => idx i ids)).map (Cell.ren (sg n2 []))) (by simp) fun b' vs' e' q1 q2 => by
                    have q3 : C2'.w.heap[b']? = some (Obj.cells vs' e' (0, 0)) := by rw [← k1]; exact q2
                    rw [k6 0 _ o1] at q1
                    cases q1
                    rw [o4] at q3
                    cases q3
                    exact k3.1
                  exact rest _ _ _ C3 (k1.trans hkw) k5 k3.2 hq
            | false =>
            rw [ht] at hq
            simp only [cond_false] at hq
            cases hid : (idsOk H2 n2 (gather H2 64 (xs.flatMap FV.ids) []) xs && allLive H2 (gather H2 64 (xs.flatMap FV.ids) [])) with
            | false => rw [hid] at hq; exact hq.elim
            | true =>
              rw [hid] at hq
              simp only [cond_true] at hq
              rw [Bool.and_eq_true] at hid
              obtain ⟨C3, k1, k2, k3, -⟩ := move_core hcore hid.1 hid.2 r2'
              exact rest _ _ _ C3 (k1.trans hkw) (kill_core k2 _) k3 hq
        cases hl : E.lst with
        | false =>
          rw [hl] at hq
          exact rest0 xs H2 n2 C2' hkw hcore r2' hq
        | true =>
          rw [hl] at hq
          simp only [cond_true] at hq
          cases hc : froOk H2 n2 (gather H2 64 (xs.flatMap FV.ids) []) xs with
          | false => rw [hc] at hq; exact hq.elim
          | true =>
            rw [hc] at hq
            simp only [cond_true] at hq
            obtain ⟨k2, k3⟩ := fro_core hcore hc r2'
            exact rest0 _ _ _ (C2'.fz (gather H2 64 (xs.flatMap FV.ids) [])) hkw k2 k3 hq
    cases ex with
    | normal => exact hend hq
    | ret => exact hend hq
    | exit i => exact hq.elim
end
end Hw
end Go.Proofs.YtklmllaggigkfaaGreat
