/- Functions by contracts. -/
import Derived.Test.YtceihgojdnkfiaaX20
set_option linter.unusedVariables false
set_option linter.unusedSimpArgs false
namespace Go.Proofs.Ytceihgojdnkfiaa
namespace Hw
open Go
theorem prefix_of : ∀ {k : Nat} {ids : List Nat}, prefixOk k ids = true → k ≤ ids.length ∧ ∀ i, i < k → nth i ids = i
  | 0, _, _ => ⟨Nat.zero_le _, fun i h => by omega⟩
  | k + 1, ids, h => by
    simp only [prefixOk, Bool.and_eq_true] at h
    obtain ⟨h1, h2⟩ := prefix_of h.2
    have h3 : k < ids.length := Nat.le_of_ble_eq_true h.1.1
    refine ⟨h3, fun i hi => ?_⟩
    by_cases hik : i = k
    · subst hik; exact Nat.eq_of_beq_eq_true h.1.2
    · exact h2 i (by omega)
section
variable {P : Program} {E : Env} {L : List LCtr}
theorem valsR_argsFr {C : Cx} {xs : List FV} {vs : List Value} {n : Nat} (h : valsR C xs vs) : FrR C (argFr xs) (vs.toArray ++ Array.replicate n undef) := by
  have hg : ∀ t, (argFr xs t).g = [] := by
    intro t
    unfold argFr
    split <;> rfl
  refine ⟨fun t _ => ?_, fun t ht => absurd (by rw [hg]; exact fun e he => by cases he) ht⟩
  unfold argFr
  split
  · rename_i x hx
    obtain ⟨u, h1, h2⟩ := valsR_get h t x hx
    refine .inr ⟨u, ?_, h2⟩
    have hl := (List.getElem?_eq_some_iff.1 h1).1
    rw [Array.getElem?_append_left (by simpa using hl)]
    simpa using h1
  · exact .inl rfl
def resV (tmps : Array Value) : ResultVar → Sem Value
  | .tmp t => pure (tmps.getD t undef)
  | .cell a t => do loadVar t (← asAddr (tmps.getD a undef))
theorem results_eq (fn : Func) (tmps : Array Value) : results fn tmps = (do
  let vs ← fn.results.mapM (resV tmps)
  pure (if h : vs.size = 1 then vs[0] else .tuple vs)) := rfl
theorem resAll_ok (hE : TyOK P E) {fr : Fr} {H : Hp} {C : Cx} {tmps : Array Value} (hF : FrR C fr tmps) (hI : Inv C H) : ∀ {rs : List ResultVar} {xs : List FV}, resAll E fr H rs = some xs →
    ∃ vs : List Value, (rs.mapM (resV tmps)).run P C.w = .ok vs C.w ∧ valsR C xs vs := by
  intro rs
  induction rs with
  | nil =>
    intro xs h
    simp only [resAll, Option.some.injEq] at h
    subst h
    exact ⟨[], by simp, trivial⟩
  | cons r rs ih =>
    intro xs h
    unfold resAll at h
    cases h1 : resOf E fr H r with
    | none => rw [h1] at h; cases h
    | some x =>
      rw [h1] at h
      simp only [Option.bind_some] at h
      cases h2 : resAll E fr H rs with
      | none => rw [h2] at h; cases h
      | some ys =>
        rw [h2] at h
        simp only [Option.map_some, Option.some.injEq] at h
        subst h
        obtain ⟨vs, i1, i2⟩ := ih h2
        have key : ∃ v, (resV tmps r).run P C.w = .ok v C.w ∧ fvR C x v := by
          cases r with
          | tmp t =>
            simp only [resOf] at h1
            cases hg : (fr t).g.isEmpty with
            | false => rw [hg] at h1; cases h1
            | true =>
              rw [hg] at h1
              simp only [cond_true] at h1
              have hg' := List.isEmpty_iff.1 hg
              unfold asFV at h1
              split at h1
              · rename_i y hy
                simp only [Option.some.injEq] at h1 hy
                subst h1
                rcases hF.slot t (by rw [hg']; exact fun e he => by cases he) with h | ⟨v, h3, h4⟩
                · rw [hy] at h; cases h
                · rw [hy] at h4
                  refine ⟨v, ?_, h4⟩
                  simp [resV, Array.getD_eq_getD_getElem?, h3]
              · cases h1
          | cell t ty =>
            simp only [resOf] at h1
            cases ht : E.T.get ty with
            | none => rw [ht] at h1; cases h1
            | some ti =>
              rw [ht] at h1
              simp only [Option.bind_some] at h1
              cases hp : asC (opnd fr [] (.tmp t)) with
              | none => rw [hp] at h1; cases h1
              | some p =>
                rw [hp] at h1
                simp only at h1
                split at h1
                · rename_i chk y rd ws nid hl
                  split at h1
                  · rename_i i o
                    simp only [Option.some.injEq] at h1
                    subst h1
                    have hc := asC_R (a := ⟨tmps, []⟩) (π := []) hF (fun e he => by cases he) hp
                    have hchk : chk = none := by
                      unfold aLoad at hl
                      simp only at hl
                      split at hl
                      · rename_i m cs hH
                        cases hb : Nat.ble (Nat.add o ti.size) cs.length with
                        | false => rw [hb] at hl; cases hl
                        | true =>
                          rw [hb] at hl
                          simp only [cond_true] at hl
                          cases hv : fvOfCells ti.agg ((cs.drop o).take ti.size) with
                          | none => rw [hv] at hl; cases hl
                          | some w => rw [hv] at hl; simp only [Option.map_some, Option.some.injEq, OpR.mk.injEq] at hl; exact hl.1.symm
                      · cases hl
                    subst hchk
                    obtain ⟨u, h3, h4, _⟩ := aLoad_ok (hE.T.get ht) hI hc hl trivial
                    obtain ⟨b, m, h5, h6⟩ := hc
                    have h6' : tmps.getD t undef = .pointer (some ⟨b, o, none⟩) := h6
                    refine ⟨u, ?_, h4⟩
                    have h3' : (Instr.loadAt ty (.pointer (some ⟨b, o, none⟩))).run P C.w = .ok u C.w := by rw [← h6]; exact h3
                    simpa [resV, h6', Instr.loadAt, Instr.sureAddr, asAddr] using h3'
                  · cases h1
                · cases h1
        obtain ⟨v, k1, k2⟩ := key
        refine ⟨v :: vs, ?_, k2, i2⟩
        rw [List.mapM_cons, Sem.run_bind, k1]
        simp only [Result.andThen_ok]
        rw [Sem.run_bind, i1]
        simp
theorem wr_gone : ∀ {tk : List Nat} {H : Hp} {j : Nat}, j ∈ tk → wr H (deadOf tk) j = .dead
  | i :: r, H, j, h => by
    by_cases hr : j ∈ r
    · exact wr_gone (tk := r) (H := upd H i .dead) hr
    · rw [List.mem_cons] at h
      have hji : j = i := h.resolve_right hr
      subst hji
      show wr (upd H j .dead) (deadOf r) j = .dead
      rw [wr_off _ _ _ (fun h' => hr (mem_deadOf.1 h')), upd_self]
theorem kill_core {Cb : Cx} {Hb : Hp} {nb : Nat} {C : Cx} {H : Hp} {n : Nat} (h : Core Cb Hb nb H n C) (tk : List Nat) : Core Cb Hb nb (wr H (deadOf tk)) n C := by
  have hc : ∀ j, wr H (deadOf tk) j = .dead ∨ wr H (deadOf tk) j = H j := fun j => by
    by_cases hj : j ∈ tk
    · exact .inl (wr_gone hj)
    · exact .inr (wr_off _ _ _ (fun h' => hj (mem_deadOf.1 h')))
  have hl : ∀ j, (wr H (deadOf tk) j).live → (H j).live := fun j hj => by
    rcases hc j with h1 | h1
    · rw [h1] at hj; exact hj.elim
    · rw [← h1]; exact hj
  refine ⟨⟨fun j => ?_, fun i j b x y hi hj => h.inv.inj i j b x y (hl i hi) (hl j hj), h.inv.frz, h.inv.vis⟩, h.rho, ⟨h.hist.ext, h.hist.new, fun i b m hi => h.hist.liv i b m (hl i hi)⟩, h.nb⟩
  rcases hc j with h1 | h1
  · rw [h1]; trivial
  · rw [h1]; exact h.inv.own j
theorem move_core {Cb : Cx} {Hb : Hp} {nb : Nat} {C : Cx} {H : Hp} {n : Nat} {ids : List Nat} {xs : List FV} {us : List Value} (h : Core Cb Hb nb H n C) (hid : idsOk H n ids xs = true) (hlive : allLive H ids = true) (hx : valsR C xs us) :
    ∃ C', C'.w = C.w ∧ Core Cb Hb nb (wr H (deadOf ids ++ wsFrom n [] 0 (handed H ids))) (n + (handed H ids).length) C' ∧ valsR C' ((xs.map (FV.ren fun i => idx i ids)).map (FV.ren (sg n []))) us := by
  obtain ⟨i1, i2, i3, i4⟩ := idsOk_of hid
  have hI := enter_inv h.inv i1 i4
  have hlen : (handed H ids).length = ids.length := by simp [handed]
  have hA : AfterL 0 (C.enter ids C.vis) (C.enter ids C.vis) (handed H ids) (handed H ids) := by
    refine ⟨hI, ⟨rfl, rfl, rfl, Nat.le_refl _, fun _ _ _ => rfl, fun b vs e h => ⟨vs, h, rfl⟩, fun _ h => h, fun _ h => .inl h, rfl, fun i p hp => by cases hp⟩, fun i p hp => ?_, fun i hi => absurd hi (Nat.not_lt_zero i)⟩
    have hi : i < ids.length := by
      simp only [Cx.enter] at hp
      split at hp
      · assumption
      · cases hp
    exact ⟨by omega, fun b hb => .inl ⟨i, p.2, handed_live hlive i (by omega), by rw [hp, ← hb]⟩⟩
  have hall : ∀ i ∈ ids, (H i).live := fun i hi => by
    have h1 := handed_live hlive (idx i ids) (by have := (idx_mem hi).1; simpa [handed] using this)
    rw [hpOf_handed (idx_mem hi).1, ren_live, (idx_mem hi).2] at h1
    exact h1
  obtain ⟨g1, g2, g3, g4, g5⟩ := backL_ok h.inv h.rho i1 i2 hall (Nat.zero_le _) (Nat.zero_le _) hA
  have hlv : Left C H n ⟨none, .top, [], deadOf ids ++ wsFrom n [] 0 (handed H ids), n + (handed H ids).length⟩ undef (C.enter ids C.vis).w (C.back (C.enter ids C.vis) n []) := ⟨rfl, trivial, g2, g3, g4⟩
  refine ⟨C.back (C.enter ids C.vis) n [], rfl, ⟨g2, fun j hj => ?_, h.hist.step h.inv h.nb (fun i h1 _ => h.rho i h1) hlv g5, Nat.le_trans h.nb (Nat.le_add_right _ _)⟩, ?_⟩
  · cases hp : (C.back (C.enter ids C.vis) n []).ρ j with
    | none => rfl
    | some p =>
      rcases g4 j p hp with h' | ⟨_, h', _⟩
      · rw [h.rho j (by omega)] at h'; cases h'
      · omega
  · have h1 : valsR (C.enter ids C.vis) (xs.map (FV.ren fun i => idx i ids)) us := valsR_map (fun x hx v hv => fvR_ren (C := C) (D := C.enter ids C.vis) rfl (fun _ h => h) (.inr fun _ h => h) (fun i hi p hp => enter_rho (i3 x hx i hi) hp) hv) hx
    exact valsR_map (fun x hx v hv => fvR_ren (C := C.enter ids C.vis) (D := C.back (C.enter ids C.vis) n []) rfl (fun _ h => h) (.inr fun b h => h) (fun i _ p hp => g1 i p hp) hv) h1
theorem fro_core {Cb : Cx} {Hb : Hp} {nb : Nat} {C : Cx} {H : Hp} {n : Nat} {vs : List Nat} {xs : List FV} {us : List Value} (h : Core Cb Hb nb H n C) (hl : froOk H n vs xs = true) (hx : valsR C xs us) :
    Core Cb Hb nb (wr H (deadOf vs)) n (C.fz vs) ∧ valsR (C.fz vs) (xs.map fun x => (x.view H).tt) us := by
  unfold froOk at hl
  simp only [Bool.and_eq_true] at hl
  obtain ⟨⟨⟨⟨hid, hlive⟩, hsf⟩, hs⟩, hf⟩ := hl
  obtain ⟨i1, i2, i3, i4⟩ := idsOk_of hid
  have hlv : ∀ j ∈ vs, (H j).live := fun j hj => by
    have := List.all_eq_true.1 hlive j hj
    cases hb : H j with
    | dead => rw [hb] at this; cases this
    | raw m cs => trivial
    | arr a => trivial
  have hI := fz_inv h.inv hlv
  have hext : Ext (fun b => ∃ i m, i ∈ (deadOf vs).map (·.1) ∧ (H i).live ∧ C.ρ i = some (some b, m)) C (C.fz vs) :=
    fz_ext _ fun b j m hj hm => ⟨j, m, mem_deadOf.2 hj, hlv j hj, hm⟩
  have L : Left C H n ⟨none, .top, [], deadOf vs, n⟩ undef C.w (C.fz vs) := ⟨rfl, trivial, hI, hext, fun i p hp => .inl hp⟩
  refine ⟨⟨hI, h.rho, h.hist.step h.inv h.nb (fun i h1 _ => h.rho i h1) L ?_, h.nb⟩, valsR_map (fun x hx v hv => fv_fro h.inv hv (List.all_eq_true.1 hs x hx) (i3 x hx) i4 (fun i hi => List.all_eq_true.1 hsf i hi) (List.all_eq_true.1 hf x hx)) hx⟩
  unfold wsOk deadOf
  rw [List.all_eq_true]
  intro e he
  obtain ⟨i, hi, rfl⟩ := List.mem_map.1 he
  have hlt := i2 i hi
  simp only [Blk.isDead, Bool.true_or, Bool.and_true]
  exact Nat.ble_eq_true_of_le hlt
theorem fn_ok {sh : Shp} {tk : List Nat} (hm : P.follows .mixedOrders = true) (hE : TyOK P E) (hG : ∀ c ∈ E.G, Good P c) {c : Ctr} {fn : Func} {code : Code} (hf : P.funcs[c.fid]? = some fn) (hb : fn.body = some code) (hname : (fn.name == "runtime.NumGoroutine") = false) (hok : codeOk P E.ct L fn.ntmps code)
    (hdec : ∀ bs args s, c.dec bs args = some s → (c.inp s).1 = bs ∧ Fits args (c.inp s).2) (hargs : ∀ s, (c.inp s).2.length ≤ fn.ntmps)
    (hev : ∀ s C vs, Inv C (hpOf (c.inp s).1) → valsR C (c.inp s).2 vs → (∀ p, c.pre = some p → p s) → evFn E L sh tk fn (c.inp s).1 (c.inp s).2 fun r bs' => And (r = (c.out s).1) (bs' = (c.out s).2)) : Good P c where
  fn := ⟨fn, hf, by rw [hb]; rfl, hname⟩
  dec := fun bs args s h => ⟨(hdec bs args s h).1, fun C vs hv => (hdec bs args s h).2.vals hv⟩
  run := fun s C vs hI hfr hv hp => by
    have hes := hev s C vs hI hv hp
    unfold evFn at hes
    rw [hb] at hes
    simp only at hes
    have hvl := valsR_len hv
    have hal := hargs s
    refine calls_of_wp hf hb ?_
    have hsz : (vs.toArray ++ Array.replicate (fn.ntmps - vs.toArray.size) undef).size = fn.ntmps := by simp; omega
    have hst : St' C (hpOf (c.inp s).1) (c.inp s).1.length fn.ntmps [] (argFr (c.inp s).2) (hpOf (c.inp s).1) (c.inp s).1.length C ⟨vs.toArray ++ Array.replicate (fn.ntmps - vs.toArray.size) undef, []⟩ :=
      ⟨valsR_argsFr hv, hI, hfr, Hist.refl hI, hsz, rfl, Nat.le_refl _⟩
    refine wp_mono (ev_ok hm hE hG code hok _ _ _ _ C _ hes hst) fun e a2 w2 hpost => ?_
    obtain ⟨ex, fr2, H2, n2, C2, rfl, rfl, hS2, hq⟩ := hpost
    have hend : (match resAll E (flush fr2) H2 fn.results.toList with
        | some xs => fin E.lst sh tk (c.inp s).1.length n2 H2 xs fun r bs' => And (r = (c.out s).1) (bs' = (c.out s).2)
        | none => False) → a2.defers = [] ∧ ∃ v, (results fn a2.tmps).run P C2.w = .ok v C2.w ∧ ∃ v' C', Ending.returned v = .returned v' ∧ C'.w = C2.w ∧ avR C' (c.out s).1 v' ∧ After C C' (c.inp s).1 (c.out s).2 := by
      intro hq
      refine ⟨hS2.df, ?_⟩
      cases hres : resAll E (flush fr2) H2 fn.results.toList with
      | none => rw [hres] at hq; exact hq.elim
      | some xs =>
        rw [hres] at hq
        simp only at hq
        obtain ⟨us, r1, r2⟩ := resAll_ok hE (FrR_flush hS2.frm).1 hS2.inv hres
        unfold fin at hq
        simp only at hq
        obtain ⟨C2', kp, hcore, r2'⟩ := ownFs_ok (sh := sh) ⟨hS2.inv, hS2.rho, hS2.hist, hS2.nb⟩ r2
        generalize ownFs xs sh H2 n2 = rr at hq hcore r2'
        clear r2 hres xs
        obtain ⟨xs, H2, n2⟩ := rr
        simp only at hq hcore r2'
        have hkw : C2'.w = C2.w := kp.w
        clear kp
        have rest : ∀ (xs : List FV) (H2 : Hp) (n2 : Nat) (C2' : Cx), C2'.w = C2.w → Core C (hpOf (c.inp s).1) (c.inp s).1.length H2 n2 C2' → valsR C2' xs us → fin1 (c.inp s).1.length n2 H2 xs (fun r bs' => And (r = (c.out s).1) (bs' = (c.out s).2)) → ∃ v, (results fn a2.tmps).run P C2.w = .ok v C2.w ∧ ∃ v' C', Ending.returned v = .returned v' ∧ C'.w = C2.w ∧ avR C' (c.out s).1 v' ∧ After C C' (c.inp s).1 (c.out s).2 := by
          clear hq hcore r2' xs H2 n2 hkw C2'
          intro xs H2 n2 C2' hkw hcore r2 hq
          unfold fin1 at hq
          simp only at hq
          generalize gather H2 64 (xs.flatMap FV.ids) (rangeN (c.inp s).1.length) = ids at hq
          cases hid : (prefixOk (c.inp s).1.length ids && idsOk H2 n2 ids xs) with
          | false => rw [hid] at hq; exact hq.elim
          | true =>
            rw [hid] at hq
            simp only [cond_true] at hq
            rw [Bool.and_eq_true] at hid
            obtain ⟨hpre, hid⟩ := hid
            obtain ⟨p1, p2⟩ := prefix_of hpre
            obtain ⟨i1, i2, i3, i4⟩ := idsOk_of hid
            obtain ⟨q1, q2⟩ := hq
            have hus : valsR (C2'.enter ids C2'.vis) (xs.map (FV.ren fun i => idx i ids)) us :=
              valsR_map (fun x hx v hv => fvR_ren (C := C2') (D := C2'.enter ids C2'.vis) rfl (fun _ h => h) (.inr fun _ h => h) (fun i hi p hp => enter_rho (i3 x hx i hi) hp) hv) r2
            have hrun : (results fn a2.tmps).run P C2.w = .ok (if h : us.length = 1 then us[0] else .tuple us.toArray) C2.w := by
              rw [results_eq, Sem.run_bind, Array.mapM_eq_mapM_toList]
              simp only [Sem.run_map]
              rw [r1]
              simp
            refine ⟨_, hrun, _, C2'.enter ids C2'.vis, rfl, hkw, ?_, ?_⟩
            · rw [← q1]
              have hul := valsR_len hus
              split
              · rename_i x hx
                rw [hx] at hus hul
                match us, hul, hus with
                | [u], _, hus => exact hus.1
              · rename_i hx
                have h1 : ¬ us.length = 1 := by
                  intro h1
                  rw [hul] at h1
                  obtain ⟨x, hx'⟩ := List.length_eq_one_iff.1 h1
                  exact hx x hx'
                rw [dif_neg h1]
                exact ⟨us.toArray, rfl, by simpa using hul, fun j x hj => by obtain ⟨u, h1, h2⟩ := valsR_get hus j x hj; exact ⟨u, by simpa using h1, h2⟩⟩
            · rw [← q2]
              have hlen : (handed H2 ids).length = ids.length := by simp [handed]
              refine ⟨enter_inv hcore.inv i1 i4, ?_, fun i p hp => ?_⟩
              · have e := hcore.hist.ext
                refine ⟨e.os, e.tape, e.output, e.size, e.blk, e.shp, e.frz, e.new, e.vis, fun i p hp => ?_⟩
                have hi : i < (c.inp s).1.length := by
                  rcases Nat.lt_or_ge i (c.inp s).1.length with h | h
                  · exact h
                  · rw [hfr i h] at hp; cases hp
                simp only [Cx.enter]
                rw [if_pos (by omega), p2 i hi]
                exact e.rho i p hp
              · simp only [Cx.enter] at hp
                split at hp
                · rename_i hil
                  rcases hcore.hist.new _ p hp with h | ⟨h1, h2⟩
                  · have hlt : nth i ids < (c.inp s).1.length := by
                      rcases Nat.lt_or_ge (nth i ids) (c.inp s).1.length with h' | h'
                      · exact h'
                      · rw [hfr _ h'] at h; cases h
                    have : nth i ids = i := by
                      have h3 := p2 _ hlt
                      exact nth_inj i1 (by omega) hil h3
                    rw [this] at h
                    exact .inl h
                  · refine .inr ⟨?_, by omega, h2⟩
                    rcases Nat.lt_or_ge i (c.inp s).1.length with h' | h'
                    · rw [p2 i h'] at h1; omega
                    · exact h'
                · cases hp
        have rest0 : ∀ (xs : List FV) (H2 : Hp) (n2 : Nat) (C2' : Cx), C2'.w = C2.w → Core C (hpOf (c.inp s).1) (c.inp s).1.length H2 n2 C2' → valsR C2' xs us → fin0 tk (c.inp s).1.length n2 H2 xs (fun r bs' => And (r = (c.out s).1) (bs' = (c.out s).2)) → ∃ v, (results fn a2.tmps).run P C2.w = .ok v C2.w ∧ ∃ v' C', Ending.returned v = .returned v' ∧ C'.w = C2.w ∧ avR C' (c.out s).1 v' ∧ After C C' (c.inp s).1 (c.out s).2 := by
          clear hq hcore r2' xs H2 n2 hkw C2'
          intro xs H2 n2 C2' hkw hcore r2' hq
          unfold fin0 at hq
          cases htk : tk with
          | nil =>
            rw [htk] at hq
            exact rest xs H2 n2 C2' hkw hcore r2' hq
          | cons t0 tk0 =>
            rw [htk] at hq
            simp only at hq
            cases hid : (idsOk H2 n2 (gather H2 64 (xs.flatMap FV.ids) []) xs && allLive H2 (gather H2 64 (xs.flatMap FV.ids) [])) with
            | false => rw [hid] at hq; exact hq.elim
            | true =>
              rw [hid] at hq
              simp only [cond_true] at hq
              rw [Bool.and_eq_true] at hid
              obtain ⟨C3, k1, k2, k3⟩ := move_core hcore hid.1 hid.2 r2'
              exact rest _ _ _ C3 (k1.trans hkw) (kill_core k2 _) k3 hq
        cases hl : E.lst with
        | false =>
          rw [hl] at hq
          exact rest0 xs H2 n2 C2' hkw hcore r2' hq
        | true =>
          rw [hl] at hq
          simp only [cond_true] at hq
          cases hc : froOk H2 n2 (gather H2 64 (xs.flatMap FV.ids) []) xs with
          | false => rw [hc] at hq; exact hq.elim
          | true =>
            rw [hc] at hq
            simp only [cond_true] at hq
            obtain ⟨k2, k3⟩ := fro_core hcore hc r2'
            exact rest0 _ _ _ (C2'.fz (gather H2 64 (xs.flatMap FV.ids) [])) hkw k2 k3 hq
    cases ex with
    | normal => exact hend hq
    | ret => exact hend hq
    | exit i => exact hq.elim
end
end Hw
end Go.Proofs.Ytceihgojdnkfiaa
