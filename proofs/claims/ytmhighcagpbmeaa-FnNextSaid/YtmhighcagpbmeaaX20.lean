/- Loops by contracts. -/
import Derived.Test.YtmhighcagpbmeaaX19
set_option linter.unusedVariables false
set_option linter.unusedSimpArgs false
namespace Go.Proofs.Ytmhighcagpbmeaa
namespace Hw
open Go
def Fits (xs ys : List FV) : Prop := ys.length = xs.length ∧ ∀ (q : Nat) (y : FV), ys[q]? = some y → ∃ x, xs[q]? = some x ∧ ∀ C v, fvR C x v → fvR C y v
theorem Fits.refl (xs : List FV) : Fits xs xs := ⟨rfl, fun q y h => ⟨y, h, fun _ _ h => h⟩⟩
theorem Fits.vals : ∀ {xs ys : List FV} {C : Cx} {vs : List Value}, Fits xs ys → valsR C xs vs → valsR C ys vs := by
  intro xs
  induction xs with
  | nil =>
    intro ys C vs h hv
    cases ys with
    | nil => exact hv
    | cons y ys => have := h.1; simp at this
  | cons x xs ih =>
    intro ys C vs h hv
    cases ys with
    | nil => have := h.1; simp at this
    | cons y ys =>
      cases vs with
      | nil => exact hv.elim
      | cons v vs =>
        obtain ⟨x', h1, h2⟩ := h.2 0 y rfl
        simp only [List.getElem?_cons_zero, Option.some.injEq] at h1
        subst h1
        exact ⟨h2 C v hv.1, ih ⟨by simpa using h.1, fun q z hz => by simpa using h.2 (q + 1) z (by simpa using hz)⟩ hv.2⟩
theorem Fits.kept {xs ys : List FV} {C : Cx} {ks : List Nat} {tmps : Array Value} (h : Fits xs ys) (hk : keptR C ks xs tmps) : keptR C ks ys tmps := fun q t y hq hy => by
  obtain ⟨x, h1, h2⟩ := h.2 q y hy
  obtain ⟨v, h3, h4⟩ := hk q t x hq h1
  exact ⟨v, h3, h2 C v h4⟩
def Cx.bare (C : Cx) : Cx := ⟨C.w, C.frz, C.vis, fun _ => none⟩
theorem Ext.bare {T : Nat → Prop} {C C' : Cx} (h : Ext T C C') : Ext T C.bare C'.bare := ⟨h.os, h.tape, h.output, h.size, h.blk, h.shp, h.frz, h.new, h.vis, fun _ _ h => by cases h⟩
theorem enter_keep {C : Cx} {ids : List Nat} {ks : List Nat} {xs : List FV} {tmps : Array Value} (hi : ∀ x ∈ xs, ∀ i ∈ x.ids, i ∈ ids) (h : keptR C ks xs tmps) : keptR (C.enter ids C.vis) ks (xs.map (FV.ren fun i => idx i ids)) tmps := fun q t x hq hx => by
  rw [List.getElem?_map] at hx
  cases hxq : xs[q]? with
  | none => rw [hxq] at hx; cases hx
  | some y =>
    rw [hxq] at hx
    simp only [Option.map_some, Option.some.injEq] at hx
    subst hx
    obtain ⟨v, h1, h2⟩ := h q t y hq hxq
    exact ⟨v, h1, fvR_ren (C := C) (D := C.enter ids C.vis) rfl (fun _ h => h) (.inr fun _ h => h) (fun i hi' p hp => enter_rho (hi y (List.mem_of_getElem? hxq) i hi') hp) h2⟩
theorem prefix_get : ∀ {k : Nat} {ids : List Nat}, prefixOk k ids = true → ∀ {i : Nat}, i < k → i < ids.length ∧ nth i ids = i
  | 0, ids, _, i, hi => by omega
  | k + 1, ids, h, i, hi => by
    unfold prefixOk at h
    simp only [Bool.and_eq_true] at h
    obtain ⟨⟨h1, h2⟩, h3⟩ := h
    rcases Nat.lt_or_ge i k with hk | hk
    · exact prefix_get h3 hk
    · have e : i = k := by omega
      rw [e]
      exact ⟨Nat.le_of_ble_eq_true h1, Nat.eq_of_beq_eq_true h2⟩
section
variable {P : Program} {E : Env} {L : List LCtr} {sz : Nat}
theorem qc_ok {df : List Deferred} (d : LDat) {bs : List Blk} {C C1 C2 : Cx} {s : d.σ} {ex : Ex} {fr2 : Fr} {H2 : Hp} {n2 : Nat} {a2 : Act} {K : Ex → List FV → List Blk → Prop} {Q : Exit → Act → World → Prop}
    (hx1 : Ext (fun b => ∃ i m, (hpOf bs i).live ∧ C.ρ i = some (some b, m)) C.bare C1.bare)
    (hn1 : ∀ i p, C1.ρ i = some p → ∀ b, p.1 = some b → (∃ j m, (hpOf bs j).live ∧ C.ρ j = some (some b, m)) ∨ C.w.heap.size ≤ b)
    (hpin1 : ∀ i, i < d.pn → ∀ q, C.ρ i = some q → C1.ρ i = some q)
    (hS2 : St' C1 (hpOf (d.inp s).1) (d.inp s).1.length sz df fr2 H2 n2 C2 a2) (hq : d.QC s ex fr2 H2 n2) (hK : K (d.out s).1 (d.out s).2.1 (d.out s).2.2)
    (hQ : ∀ e ys bs' C' a', K e ys bs' → AfterL d.pn C C' bs bs' → keptR C' (d.kx e) ys a'.tmps → a'.tmps.size = sz → a'.defers = df → Q (exOf e) a' C'.w) : Q (exOf ex) a2 C2.w := by
  unfold LDat.QC at hq
  cases hk : keptOf fr2 (d.kx ex) with
  | none => rw [hk] at hq; exact hq.elim
  | some ys =>
    rw [hk] at hq
    simp only at hq
    obtain ⟨k1', k2'⟩ := keptOf_R hS2.frm hk
    obtain ⟨C2', kp, hcore, k1, k2⟩ := kept_own (d.sx ex) ⟨hS2.inv, hS2.rho, hS2.hist, hS2.nb⟩ k1' k2'
    rw [← kp.w]
    generalize ownFs ys (d.sx ex) H2 n2 = r at hq hcore k1 k2
    clear k1' k2' hk ys
    obtain ⟨ys, H2, n2⟩ := r
    simp only at hq hcore k1 k2
    cases hid : (idsOk H2 n2 (gather H2 64 (ys.flatMap FV.ids) []) ys && allLive H2 (gather H2 64 (ys.flatMap FV.ids) []) && prefixOk d.pn (gather H2 64 (ys.flatMap FV.ids) [])) with
    | false => rw [hid] at hq; exact hq.elim
    | true =>
      rw [hid] at hq
      simp only [cond_true] at hq
      generalize gather H2 64 (ys.flatMap FV.ids) [] = ids at hq hid
      simp only [Bool.and_eq_true] at hid
      obtain ⟨⟨hid, hlive2⟩, hpre⟩ := hid
      obtain ⟨i1, i2, i3, i4⟩ := idsOk_of hid
      have hI3 := enter_inv (ids := ids) hcore.inv i1 i4
      have hk3 := enter_keep i3 k2
      have hf3 : ∀ i, (handed H2 ids).length ≤ i → (C2'.enter ids C2'.vis).ρ i = none := fun i hi => by
        simp only [Cx.enter]
        rw [if_neg (by have : ids.length ≤ i := by simpa [handed] using hi
                       omega)]
      have hx3 : Ext (fun b => ∃ i m, (hpOf bs i).live ∧ C.ρ i = some (some b, m)) C.bare (C2'.enter ids C2'.vis).bare := by
        refine Ext.trans hx1 (C'' := (C2'.enter ids C2'.vis).bare) (T' := fun b => ∃ i m, (hpOf (d.inp s).1 i).live ∧ C1.ρ i = some (some b, m)) ?_ fun b ⟨i, m, _, h2⟩ hb => ?_
        · have h := hcore.hist.ext.bare
          exact ⟨h.os, h.tape, h.output, h.size, h.blk, h.shp, h.frz, h.new, h.vis, fun _ _ h => by cases h⟩
        · rcases hn1 i _ h2 b rfl with h | h
          · exact h
          · exact absurd h (Nat.not_le.2 hb)
      have hn3 : ∀ i p, (C2'.enter ids C2'.vis).ρ i = some p → ∀ b, p.1 = some b → (∃ j m, (hpOf bs j).live ∧ C.ρ j = some (some b, m)) ∨ C.w.heap.size ≤ b := by
        intro i p hp b hpb
        simp only [Cx.enter] at hp
        split at hp
        · rcases hcore.hist.new _ p hp with h | ⟨_, h⟩
          · exact hn1 _ p h b hpb
          · rcases h b hpb with ⟨j, m, _, h2⟩ | h
            · exact hn1 j (some b, m) h2 b rfl
            · exact .inr (Nat.le_trans hx1.size h)
        · cases hp
      have hpin3 : ∀ i, i < d.pn → ∀ q, C.ρ i = some q → (C2'.enter ids C2'.vis).ρ i = some q := fun i hi q hq => by
        obtain ⟨h1, h2⟩ := prefix_get hpre hi
        simp only [Cx.enter]
        rw [if_pos h1, h2]
        exact hcore.hist.ext.rho _ _ (hpin1 i hi q hq)
      rw [hq] at hK
      refine hQ ex _ _ (C2'.enter ids C2'.vis) a2 hK ⟨hI3, ⟨hx3.os, hx3.tape, hx3.output, hx3.size, hx3.blk, hx3.shp, hx3.frz, hx3.new, hx3.vis, fun _ _ h => by cases h⟩, fun i p hp => ⟨?_, hn3 i p hp⟩, hpin3⟩ hk3 hS2.size hS2.df
      rcases Nat.lt_or_ge i (handed H2 ids).length with h | h
      · exact h
      · rw [hf3 i h] at hp; cases hp
theorem loop_ok (hm : P.follows .mixedOrders = true) (hE : TyOK P E) (hG : ∀ c ∈ E.G, Good P c) (d : LDat) {body : Code} (hok : codeOk P E.ct L sz body) (hdec : ∀ bs xs s, d.dec bs xs = some s → (d.inp s).1 = bs ∧ Fits xs (d.inp s).2)
    (hb : ∀ s, d.pre s → evBody E L body d s) : LGood P sz d.ctr body := by
  intro bs xs K C a Q hS hlive hsz hI hfr hxl hkr hQ
  unfold LDat.ctr LDat.Sf at hS
  simp only at hS
  cases hd : d.dec bs xs with
  | none => rw [hd] at hS; exact hS.elim
  | some s0 =>
    rw [hd] at hS
    obtain ⟨hp0, hK⟩ := hS
    replace hK : K (d.out s0).1 (d.out s0).2.1 (d.out s0).2.2 := allAlts_pick hK
    obtain ⟨e1, e2⟩ := hdec _ _ _ hd
    have claim : ∀ (m : Nat) (s : d.σ) (C1 : Cx) (a1 : Act), d.pre s → d.μ s < m → d.out s = d.out s0 → a1.tmps.size = sz → a1.defers = a.defers → Inv C1 (hpOf (d.inp s).1) → (∀ i, (d.inp s).1.length ≤ i → C1.ρ i = none) → keptR C1 d.keep (d.inp s).2 a1.tmps →
        Ext (fun b => ∃ i m, (hpOf bs i).live ∧ C.ρ i = some (some b, m)) C.bare C1.bare → (∀ i p, C1.ρ i = some p → ∀ b, p.1 = some b → (∃ j m, (hpOf bs j).live ∧ C.ρ j = some (some b, m)) ∨ C.w.heap.size ≤ b) → (∀ i, i < d.pn → ∀ q, C.ρ i = some q → C1.ρ i = some q) → Code.rounds P body Q m a1 C1.w := by
      intro m
      induction m with
      | zero => intro s C1 a1 _ h; omega
      | succ m ih =>
        intro s C1 a1 hp hμ ho hs1 hd1 hI1 hf1 hk1 hx1 hn1 hpin1
        rw [rounds_succ]
        have hst : St' C1 (hpOf (d.inp s).1) (d.inp s).1.length sz a1.defers (keepFr d.keep (d.inp s).2) (hpOf (d.inp s).1) (d.inp s).1.length C1 a1 :=
          ⟨keepFr_R hk1, hI1, hf1, Hist.refl hI1, hs1, rfl, Nat.le_refl _⟩
        refine wp_mono (ev_ok hm hE hG body hok _ _ _ _ C1 a1 (hb s hp) hst) fun e a2 w2 hpost => ?_
        obtain ⟨ex, fr2, H2, n2, C2, rfl, rfl, hS2, hq⟩ := hpost
        have hqc : ∀ e, d.QC s e fr2 H2 n2 → Q (exOf e) a2 C2.w := fun e he => qc_ok d (K := K) hx1 hn1 hpin1 hS2 he (by rw [ho]; exact hK) fun e ys bs' C' a' k1 k2 k3 k4 k5 => hQ e ys bs' C' a' k1 k2 k3 k4 (k5.trans hd1)
        cases ex with
        | exit i => exact hqc (.exit i) hq
        | ret => exact hqc .ret hq
        | normal =>
          unfold LDat.Q at hq
          simp only at hq
          cases hk : keptOf fr2 d.keep with
          | none => rw [hk] at hq; exact hq.elim
          | some ys =>
            rw [hk] at hq
            simp only at hq
            obtain ⟨k1', k2'⟩ := keptOf_R hS2.frm hk
            obtain ⟨C2', kp, hcore, k1, k2⟩ := kept_own d.shp ⟨hS2.inv, hS2.rho, hS2.hist, hS2.nb⟩ k1' k2'
            rw [← kp.w]
            generalize ownFs ys d.shp H2 n2 = r at hq hcore k1 k2
            clear k1' k2' hk ys
            obtain ⟨ys, H2, n2⟩ := r
            simp only at hq hcore k1 k2
            cases hid : (idsOk H2 n2 (gather H2 64 (ys.flatMap FV.ids) []) ys && allLive H2 (gather H2 64 (ys.flatMap FV.ids) []) && prefixOk d.pn (gather H2 64 (ys.flatMap FV.ids) [])) with
            | false => rw [hid] at hq; exact hq.elim
            | true =>
              rw [hid] at hq
              simp only [cond_true] at hq
              generalize gather H2 64 (ys.flatMap FV.ids) [] = ids at hq hid
              simp only [Bool.and_eq_true] at hid
              obtain ⟨⟨hid, hlive2⟩, hpre⟩ := hid
              obtain ⟨i1, i2, i3, i4⟩ := idsOk_of hid
              have hI3 := enter_inv (ids := ids) hcore.inv i1 i4
              have hk3 := enter_keep i3 k2
              have hf3 : ∀ i, (handed H2 ids).length ≤ i → (C2'.enter ids C2'.vis).ρ i = none := fun i hi => by
                simp only [Cx.enter]
                rw [if_neg (by have : ids.length ≤ i := by simpa [handed] using hi
                               omega)]
              have hx3 : Ext (fun b => ∃ i m, (hpOf bs i).live ∧ C.ρ i = some (some b, m)) C.bare (C2'.enter ids C2'.vis).bare := by
                refine Ext.trans hx1 (C'' := (C2'.enter ids C2'.vis).bare) (T' := fun b => ∃ i m, (hpOf (d.inp s).1 i).live ∧ C1.ρ i = some (some b, m)) ?_ fun b ⟨i, m, _, h2⟩ hb => ?_
                · have h := hcore.hist.ext.bare
                  exact ⟨h.os, h.tape, h.output, h.size, h.blk, h.shp, h.frz, h.new, h.vis, fun _ _ h => by cases h⟩
                · rcases hn1 i _ h2 b rfl with h | h
                  · exact h
                  · exact absurd h (Nat.not_le.2 hb)
              have hn3 : ∀ i p, (C2'.enter ids C2'.vis).ρ i = some p → ∀ b, p.1 = some b → (∃ j m, (hpOf bs j).live ∧ C.ρ j = some (some b, m)) ∨ C.w.heap.size ≤ b := by
                intro i p hp b hpb
                simp only [Cx.enter] at hp
                split at hp
                · rcases hcore.hist.new _ p hp with h | ⟨_, h⟩
                  · exact hn1 _ p h b hpb
                  · rcases h b hpb with ⟨j, m, _, h2⟩ | h
                    · exact hn1 j (some b, m) h2 b rfl
                    · exact .inr (Nat.le_trans hx1.size h)
                · cases hp
              have hpin3 : ∀ i, i < d.pn → ∀ q, C.ρ i = some q → (C2'.enter ids C2'.vis).ρ i = some q := fun i hi q hq => by
                obtain ⟨h1, h2⟩ := prefix_get hpre hi
                simp only [Cx.enter]
                rw [if_pos h1, h2]
                exact hcore.hist.ext.rho _ _ (hpin1 i hi q hq)
              cases hd' : d.dec (handed H2 ids) (ys.map (FV.ren fun i => idx i ids)) with
              | none => rw [hd'] at hq; exact hq.elim
              | some s' =>
                rw [hd'] at hq
                obtain ⟨q1, q2, q3⟩ := hq
                obtain ⟨f1, f2⟩ := hdec _ _ _ hd'
                have hsz2 : a2.defers = a.defers := hS2.df.trans hd1
                exact ih s' (C2'.enter ids C2'.vis) a2 q1 (by omega) (q3.trans ho) hS2.size hsz2 (by rw [f1]; exact hI3) (by rw [f1]; exact hf3) (f2.kept hk3) hx3 hn3 hpin3
    refine wp_loop_rounds (d.μ s0 + 1) (claim _ s0 C a hp0 (Nat.lt_succ_self _) rfl hsz rfl (by rw [e1]; exact hI) (by rw [e1]; exact hfr) (e2.kept hkr) (Ext.refl _ _) (fun i p hp b hpb => .inl ?_) fun i _ q hq => hq)
    rcases Nat.lt_or_ge i bs.length with h | h
    · exact ⟨i, p.2, hlive i h, by rw [hp, ← hpb]⟩
    · rw [hfr i h] at hp; cases hp
theorem cut_good (hm : P.follows .mixedOrders = true) (hE : TyOK P E) (hG : ∀ c ∈ E.G, Good P c) (d : LDat) {body : Code} (hok : codeOk P E.ct L sz body) (hdec : ∀ bs xs s, d.dec bs xs = some s → (d.inp s).1 = bs ∧ Fits xs (d.inp s).2)
    (hb : ∀ s, d.pre s → evCut E L body d s) : CGood P sz d.ctr body := by
  intro bs xs K C a Q hS hlive hsz hI hfr hxl hkr hQ
  unfold LDat.ctr LDat.Sf at hS
  simp only at hS
  cases hd : d.dec bs xs with
  | none => rw [hd] at hS; exact hS.elim
  | some s =>
    rw [hd] at hS
    obtain ⟨hp0, hK⟩ := hS
    replace hK : K (d.out s).1 (d.out s).2.1 (d.out s).2.2 := allAlts_pick hK
    obtain ⟨e1, e2⟩ := hdec _ _ _ hd
    have hI1 : Inv C (hpOf (d.inp s).1) := by rw [e1]; exact hI
    have hst : St' C (hpOf (d.inp s).1) (d.inp s).1.length sz a.defers (keepFr d.keep (d.inp s).2) (hpOf (d.inp s).1) (d.inp s).1.length C a :=
      ⟨keepFr_R (e2.kept hkr), hI1, by rw [e1]; exact hfr, Hist.refl hI1, hsz, rfl, Nat.le_refl _⟩
    refine wp_mono (ev_ok hm hE hG body hok _ _ _ _ C a (hb s hp0) hst) fun e a2 w2 hpost => ?_
    obtain ⟨ex, fr2, H2, n2, C2, rfl, rfl, hS2, hq⟩ := hpost
    refine qc_ok d (K := K) (Ext.refl _ _) (fun i p hp b hpb => .inl ?_) (fun i _ q hq => hq) hS2 hq hK hQ
    rcases Nat.lt_or_ge i bs.length with h | h
    · exact ⟨i, p.2, hlive i h, by rw [hp, ← hpb]⟩
    · rw [hfr i h] at hp; cases hp
end
end Hw
end Go.Proofs.Ytmhighcagpbmeaa
