/- The operations one by one. Part 7: append. -/
import Derived.Test.YtklmllaggigkfaaGreatPX6
import Derived.Laws.AppendOwn
set_option linter.unusedVariables false
set_option linter.unusedSimpArgs false
namespace Go.Proofs.YtklmllaggigkfaaGreat
namespace Hw
open Go
section
variable {P:Program} {C:Cx} {H:Hp} {n:Nat}
theorem app_nil_run (t ty e:TypeId) (i:TypeInfo) (ht:P.underlying t = some (.slice e)) (hi:P.info? e = some i) (w:World)
  (g sLen sCap c:Nat) (hc:sLen≤sCap):(Builtin.append_ #[t,t] ty #[.slice (some ⟨g,0,none⟩) sLen sCap,.slice none 0 c]).run P w = .ok (.slice (some ⟨g,0,none⟩) sLen sCap) w:=by
 simp [Builtin.append_,run_underlying ht,sizeOf,typeInfo,hi,Builtin.lenOf,hc,run_firstCells_none,storeCells]
theorem swap_left {C1:Cx} {i g m:Nat} {e sz:Nat} {a c:Arr} {vs:Array Value} {us:List Value} {cap:Nat} {chk:Option Prop} {rd:List Nat} (hI:Inv C H) (hn:C.ρ n = none) (hH:H i = .arr a) (hne:i≠n)
  (hr:C.ρ i = some (some g,m)) (hx:Ext (fun b=>b = g) C C1) (h1:Inv C1 (upd H i .dead)) (hρ:C1.ρ = C.ρ) (hfz:C1.frz = C.frz) (hg:C1.w.heap[g]? = some (.cells vs e (0,0))) (hrow:rowL C1 c us)
  (hp:∀(j:Nat) (u:Value),us[j]? = some u→vs[j]? = some u) (hb:(c.len:Int)≤big) (hcap:c.len≤cap) (hvs:vs.size = cap * sz) (hsz:c.esz = sz) (hcb:cap≤9223372036854775807) :
  ∃C',Left C H n ⟨chk,.v (.c (.own n sz e)),rd,[(i,.dead),(n,.arr c)],Nat.succ n⟩ (.slice (some ⟨g,0,none⟩) c.len cap) C1.w C':=by
 have hn1:C1.ρ n = none:=by rw [hρ]; exact hn
 have hl:(H i).live:=by rw [hH]; trivial
 have hoff:=hI.off (T:=fun b=>b = g) (fun b hb=>⟨i,m,hl,by rw [hb]; exact hr⟩)
 have ho:=hI.own i
 rw [hH] at ho
 rcases ho with ⟨_,k1⟩ | ⟨b',vs',e',k1,k2,k3,k4,_⟩
 ·rw [hr] at k1; cases k1
 rw [hr] at k1
 cases k1
 have hE:Ext (fun _=>False) C1 ⟨C1.w,C1.frz,C1.vis,upd C1.ρ n (some (some g,c.len))⟩:=⟨rfl,rfl,rfl,Nat.le_refl _,fun _ _ _=>rfl,fun b vs e h=>⟨vs,h,rfl⟩,fun b o h0 h=>h0 o h,fun _ h=>h,fun _ h=>.inl h,rfl,fun k p hp=>by
  by_cases hk:k = n
  ·subst hk; rw [hn1] at hp; cases hp
  ·show upd C1.ρ n _ k = _
   rw [upd_ne hk]; exact hp⟩
 have hrow':rowL ⟨C1.w,C1.frz,C1.vis,upd C1.ρ n (some (some g,c.len))⟩ c us:=rowL_ext hE (off_none h1) hrow
 refine ⟨⟨C1.w,C1.frz,C1.vis,upd C1.ρ n (some (some g,c.len))⟩,rfl,?_,?_,?_,?_⟩
 ·exact .inr ⟨g,c.len,cap,vs,upd_self _ _ _,rfl,hcap,hg,hvs,hcb⟩
 ·refine swap_inv h1 hn1 (fun j k hj hk=>?_) (.inr ⟨g,vs,e,upd_self _ _ _,by rw [hfz]; exact k2,by rw [hx.vis]; exact k3,hg,by rw [hsz,hvs]; exact Nat.mul_le_mul_right _ hcap,hb,fun k hk j x hj=>?_⟩) hne
  ·rw [hρ] at hk
   by_cases hji:j = i
   ·subst hji; rw [upd_self] at hj; exact hj
   ·rw [upd_ne hji] at hj
    exact hji (hI.inj j i g k _ hj hl hk hr)
  ·obtain ⟨u,h2,h3⟩:=hrow'.2 k hk j x hj
   exact ⟨u,hp _ _ h2,h3⟩
 ·refine Ext.trans (T':=fun _=>False) ⟨hx.os,hx.tape,hx.output,hx.size,fun b hb hT=>hx.blk b hb (fun he=>hT ⟨i,a.len,by simp,hl,by rw [he]; exact hr⟩),hx.shp,hx.unf,hx.frz,fun b hb=>.inl (by rw [hfz] at hb; exact hb),hx.vis,hx.rho⟩ hE (fun _ h _=>h.elim)
 ·intro j p hp
  by_cases hj:j = n
  ·subst hj
   have hp':upd C1.ρ j (some (some g,c.len)) j = some p:=hp
   rw [upd_self] at hp'
   cases hp'
   exact .inr ⟨Nat.le_refl _,Nat.lt_succ_self _,fun b hb=>.inl ⟨i,_,by simp,hl,by cases hb; exact hr⟩⟩
  ·have hp':upd C1.ρ n (some (some g,c.len)) j = some p:=hp
   rw [upd_ne hj,hρ] at hp'
   exact .inl hp'
theorem rowL_own {a:Arr} {g m:Nat} {vs:Array Value} (h6:∀k:Nat,k < a.len→∀(j:Nat) (x:Cell),((a.get k).cells true)[j]? = some x→∃u,vs[k * a.esz + j]? = some u∧elC (arrR C.w C.frz 3) x u) (h5:a.len * a.esz≤vs.size) :
  rowL C a (vs.toList.take (a.len * a.esz)) :=
 ⟨by rw [List.length_take]; simp only [Array.length_toList]; omega,fun k hk j x hj=>by
  obtain ⟨u,h1,h2⟩:=h6 k hk j x hj
  have hjl:j < a.esz:=by have:=(List.getElem?_eq_some_iff.1 hj).1; rw [cells_len] at this; exact this
  have:=row_fit hk (Nat.le_refl (a.len * a.esz))
  exact ⟨u,by rw [List.getElem?_take,if_pos (by omega),Array.getElem?_toList]; exact h1,h2⟩⟩
theorem app_nil_run0 (t ty e:TypeId) (i:TypeInfo) (ht:P.underlying t = some (.slice e)) (hi:P.info? e = some i) (w:World) (A:Option Addr) (c:Nat) :
  (Builtin.append_ #[t,t] ty #[.slice none 0 0,.slice A 0 c]).run P w = .ok (.slice none 0 0) w:=by
 cases A with
 | none=>simp [Builtin.append_,run_underlying ht,sizeOf,typeInfo,hi,Builtin.lenOf,run_firstCells_none]
 | some a =>
  have hf:=run_firstCells_some (P:=P) w i.size 0 a 0 c [] (by simp) (fun j v h=>by simp at h)
  simp [Builtin.append_,run_underlying ht,sizeOf,typeInfo,hi,Builtin.lenOf,hf]
theorem nil_inv (hI : Inv C H) (hn : C.ρ n = none) {c : Arr} (h0 : c.len = 0) : Inv ⟨C.w, C.frz, C.vis, upd C.ρ n (some (none, 0))⟩ (upd H n (.arr c)) ∧ ∀ T, Ext T C ⟨C.w, C.frz, C.vis, upd C.ρ n (some (none, 0))⟩ := by
  have hx : ∀ T, Ext T C ⟨C.w, C.frz, C.vis, upd C.ρ n (some (none, 0))⟩ := fun T => ⟨rfl, rfl, rfl, Nat.le_refl _, fun _ _ _ => rfl, fun b vs e h => ⟨vs, h, rfl⟩, fun b o h0 h => h0 o h, fun _ h => h, fun _ h => .inl h, rfl, fun k p hp => by
    by_cases hk : k = n
    · subst hk; rw [hn] at hp; cases hp
    · show upd C.ρ n _ k = _
      rw [upd_ne hk]; exact hp⟩
  refine ⟨⟨fun j => ?_, fun i j b x y hi hj hri hrj => ?_, hI.frz, hI.vis⟩, hx⟩
  · by_cases hj : j = n
    · subst hj; rw [upd_self]; exact .inl ⟨h0, upd_self _ _ _⟩
    · rw [upd_ne hj]
      exact OwnAt_ext (hx (fun _ => False)) (off_none hI) (hI.own j) (fun _ _ _ h => h)
  · have key : ∀ i x, upd C.ρ n (some (none, 0)) i = some (some b, x) → i ≠ n := by
      intro i x h he
      subst he
      rw [upd_self] at h
      cases h
    have h1 := key i x hri
    have h2 := key j y hrj
    rw [upd_ne h1] at hi
    rw [upd_ne h2] at hj
    have hri' : upd C.ρ n (some (none, 0)) i = _ := hri
    have hrj' : upd C.ρ n (some (none, 0)) j = _ := hrj
    rw [upd_ne h1] at hri'
    rw [upd_ne h2] at hrj'
    exact hI.inj i j b x y hi hj hri' hrj'
theorem nil_of {a:Arr} {k:EK} (h:a.ek.code = k.code) (h0:a.len = 0):Arr.nil k = a:=by
 cases a <;> cases k <;> simp [Arr.ek,EK.code] at h <;> (simp only [Arr.len,List.length_eq_zero_iff] at h0; subst h0; rfl)
theorem append_nil_ok {t ty e : Nat} {te : TI} {k : EK} {A : Option Addr} {cb : Nat} {news : List Value} {b c : Arr} (ht : P.underlying t = some (.slice e)) (he : TIok P e te) (hk : te.ek = some k) (hI : Inv C H) (hn : C.ρ n = none)
    (hc : (Arr.nil k).app b = some c) (hm : c.len ≤ 4294967296) (hnews : rowL C b news) (hA : (A = none ∧ news = []) ∨ ∃ ad, A = some ad ∧ ∀ j u, news[j]? = some u → C.w.cell? (ad.add j) = some u) :
    ∃ u w', (Builtin.append_ #[t, t] ty #[.slice none 0 0, .slice A b.len cb]).run P C.w = .ok u w' ∧ ∃ C', C'.w = w' ∧ cellR C' (.own n k.size e) u ∧ Inv C' (upd H n (.arr c)) ∧ (∀ T, Ext T C C') ∧
      ∀ j p, C'.ρ j = some p → C.ρ j = some p ∨ (j = n ∧ ∀ b, p.1 = some b → C.w.heap.size ≤ b) := by
  obtain ⟨i, z, hi1, hi2, hi3, hi4, hi5⟩ := he.i
  have hek := he.ek
  rw [hk] at hek
  obtain ⟨hzv, hsk, hby⟩ := hek
  rw [Bool.and_eq_true] at hby
  have hb2 : te.bytes ≤ 4096 := Nat.le_of_ble_eq_true hby.2
  have hsz : i.size = k.size := by rw [hi3, hsk]
  have hzs : z.cells.size = k.size := by rw [← Array.length_toList, hi5, hzv, zvOf_len]
  obtain ⟨s1, s2, s3, s4, s5⟩ := app_spec hc
  obtain ⟨n1, n2⟩ := nil_spec k
  rw [n1, Nat.zero_add] at s1
  have hcs : c.esz = k.size := s2.trans n2
  have hbs : b.esz = k.size := s3.trans n2
  have hrow : rowL C c news := by
    have := rowL_app hc (us := []) ⟨by rw [n1]; simp, fun k hk => by rw [n1] at hk; omega⟩ hnews
    simpa using this
  rcases Nat.eq_zero_or_pos b.len with h0 | hp
  · obtain ⟨g1, g2⟩ := nil_inv hI hn (c := c) (by omega)
    refine ⟨_, _, by rw [h0]; exact app_nil_run0 t ty e i ht hi1 C.w A cb, _, rfl, .inl ⟨upd_self _ _ _, rfl⟩, g1, g2, fun j p hp => ?_⟩
    by_cases hj : j = n
    · subst hj
      have hp' : upd C.ρ j (some (none, 0)) j = some p := hp
      rw [upd_self] at hp'
      cases hp'
      exact .inr ⟨rfl, fun b hb => by cases hb⟩
    · have hp' : upd C.ρ n (some (none, 0)) j = some p := hp
      rw [upd_ne hj] at hp'
      exact .inl hp'
  · rcases hA with ⟨rfl, rfl⟩ | ⟨ad, rfl, hcell⟩
    · have := hnews.1
      simp only [List.length_nil] at this
      have := Nat.mul_pos hp (esz_pos b)
      omega
    · have hrun := run_append_nil (P := P) C.w t ty e i z ht hi1 hi2 ad b.len cb news (by rw [hnews.1, hbs, hsz]) hcell (by omega) (by omega) (by
        rw [hi4]
        have : b.len * te.bytes ≤ 4294967296 * 4096 := Nat.mul_le_mul (by omega) hb2
        omega)
      have hlt : b.len ≤ maxLen := by simp only [maxLen]; omega
      have hge := grownCap_ge C.w b.len 0 e
      have hle := grownCap_le_maxLen C.w b.len 0 e hlt
      have hD := draw_inv hI
      refine ⟨_, _, hrun, C.draw.add n (news.toArray ++ Builtin.zeroCells z.cells (grownCap C.w b.len 0 e - b.len)) e c.len, rfl, ?_, add_inv hD hn (add_arr hD hn (rowL_ext (draw_ext _) (off_none hI) hrow) (fun j u hj => ?_) ?_ ?_), fun T => ?_, fun j p hp => ?_⟩
      · refine .inr ⟨_, c.len, _, _, add_own, by rw [s1]; rfl, by rw [s1]; exact hge, heap_add_new, ?_, by simpa [maxLen] using hle⟩
        rw [Array.size_append, size_zeroCells, hzs]
        simp only [List.size_toArray]
        rw [hnews.1, hbs, ← Nat.add_mul]
        congr 1
        omega
      · have hjl := (List.getElem?_eq_some_iff.1 hj).1
        rw [Array.getElem?_append_left (by simpa using hjl)]
        simpa using hj
      · simp
      · unfold big; omega
      · have x := add_ext (C := C.draw) (vs := news.toArray ++ Builtin.zeroCells z.cells (grownCap C.w b.len 0 e - b.len)) (e := e) (m := c.len) T hn
        exact ⟨x.os, x.tape, x.output, x.size, x.blk, x.shp, x.unf, x.frz, x.new, x.vis, x.rho⟩
      · rcases add_new j p hp with h | ⟨rfl, h⟩
        · exact .inl h
        · exact .inr ⟨rfl, fun b hb => by rw [h] at hb; cases hb; exact Nat.le_refl _⟩
theorem append_ok {t ty e : Nat} {te : TI} {k : EK} {s x : Cell} {v vx : Value} {r : OpR} (ht : P.underlying t = some (.slice e)) (he : TIok P e te) (hk : te.ek = some k) (hI : Inv C H) (hn : C.ρ n = none)
    (hs : cellR C s v) (hx : cellR C x vx) (hr : aAppend k e H n s x = some r) (hok : r.ok) :
    ∃ u w', (Builtin.append_ #[t, t] ty #[v, vx]).run P C.w = .ok u w' ∧ ∃ C', Left C H n r u w' C' := by
  unfold aAppend at hr
  cases hsrc : asSrc k H x with
  | none => rw [hsrc] at hr; cases hr
  | some y =>
    obtain ⟨b, rd⟩ := y
    rw [hsrc] at hr
    simp only [Option.bind_some] at hr
    obtain ⟨A, cb, news, rfl, hnews, hbb, hA⟩ := src_ok hI hx hsrc
    obtain ⟨i, z, hi1, hi2, hi3, hi4, hi5⟩ := he.i
    have hek := he.ek
    rw [hk] at hek
    obtain ⟨hzv, hsk, hby⟩ := hek
    rw [Bool.and_eq_true] at hby
    have hb1 : 0 < te.bytes := Nat.le_of_ble_eq_true hby.1
    have hb2 : te.bytes ≤ 4096 := Nat.le_of_ble_eq_true hby.2
    have hsz : i.size = k.size := by rw [hi3, hsk]
    have hzs : z.cells.size = k.size := by rw [← Array.length_toList, hi5, hzv, zvOf_len]
    split at hr
    · cases hc : (Arr.nil k).app b with
      | none => rw [hc] at hr; cases hr
      | some c =>
        rw [hc] at hr
        simp only [Option.map_some, Option.some.injEq] at hr
        subst hr
        simp only [cellR] at hs
        subst hs
        obtain ⟨u, w', h1, C', h2, h3, h4, h5, h6⟩ := append_nil_ok (ty := ty) ht he hk hI hn hc hok hnews hA (cb := cb)
        refine ⟨u, w', h1, C', h2, h3, h4, h5 _, fun j p hp => ?_⟩
        rcases h6 j p hp with h | ⟨rfl, h⟩
        · exact .inl h
        · exact .inr ⟨Nat.le_refl _, Nat.lt_succ_self _, fun b hb => .inr (h b hb)⟩
    · rename_i i' sz' e'
      cases hH : H i' with
      | dead => rw [hH] at hr; cases hr
      | mp l => rw [hH] at hr; cases hr
      | raw m cs => rw [hH] at hr; cases hr
      | arr a =>
        rw [hH] at hr
        simp only at hr
        cases hg : (memN i' rd || !Nat.beq sz' a.esz || !Nat.beq sz' k.size || !Nat.beq e e' || !Nat.beq a.ek.code k.code) with
        | true => rw [hg] at hr; cases hr
        | false =>
          rw [hg] at hr
          simp only [Bool.or_eq_false_iff, Bool.not_eq_false'] at hg
          obtain ⟨⟨⟨⟨_, g2⟩, g3⟩, g4⟩, g5⟩ := hg
          have g5 := Nat.eq_of_beq_eq_true g5
          have g2 := Nat.eq_of_beq_eq_true g2
          have g3 := Nat.eq_of_beq_eq_true g3
          have g4 := Nat.eq_of_beq_eq_true g4
          subst g3 g4
          simp only [cond_false] at hr
          cases hc : a.app b with
          | none => rw [hc] at hr; cases hr
          | some c =>
            rw [hc] at hr
            simp only [Option.map_some, Option.some.injEq] at hr
            subst hr
            have hm : c.len ≤ 4294967296 := hok
            obtain ⟨s1, s2, s3, s4, s5⟩ := app_spec hc
            have hcs : c.esz = k.size := s2.trans g2.symm
            have hbs : b.esz = k.size := s3.trans g2.symm
            have ho := hI.own i'
            rw [hH] at ho
            rcases ho with ⟨h0, h0'⟩ | ⟨g, vs, e'', k1, k2, k3, k4, k5, k6, k7⟩
            · rcases hs with ⟨_, rfl⟩ | ⟨g', m', cap, vs', l1, _⟩
              · have hcn : (Arr.nil k).app b = some c := by
                  rw [nil_of g5 h0]; exact hc
                obtain ⟨u, w', h1, C', h2, h3, h4, h5, h6⟩ := append_nil_ok (ty := ty) ht he hk (dead_inv hI i') hn hcn hm hnews hA (cb := cb)
                refine ⟨u, w', h1, C', h2, h3, h4, h5 _, fun j p hp => ?_⟩
                rcases h6 j p hp with h | ⟨rfl, h⟩
                · exact .inl h
                · exact .inr ⟨Nat.le_refl _, Nat.lt_succ_self _, fun b hb => .inr (h b hb)⟩
              · rw [h0'] at l1; cases l1
            rcases hs with ⟨l1, _⟩ | ⟨g', m', cap, vs', l1, rfl, l3, l4, l5, l6⟩
            · rw [k1] at l1; cases l1
            rw [k1] at l1
            cases l1
            rw [k4] at l4
            cases l4
            have hne : i' ≠ n := fun h => by rw [h, hn] at k1; cases k1
            have hl : (H i').live := by rw [hH]; trivial
            have hold := rowL_own (C := C) (m := 0) (g := 0) k7 k5
            by_cases hroom : a.len + b.len ≤ cap
            · rcases hA with ⟨rfl, rfl⟩ | ⟨ad, rfl, hcell⟩
              · have h0 : b.len = 0 := by
                  have := hnews.1
                  simp only [List.length_nil] at this
                  have h2 := esz_pos b
                  rcases Nat.eq_zero_or_pos b.len with h0 | h0
                  · exact h0
                  · have := Nat.mul_pos h0 h2; omega
                rw [h0, Nat.add_zero] at s1
                obtain ⟨C', hC⟩ := swap_left (chk := some (c.len ≤ 4294967296)) (rd := i' :: rd) (c := c) (us := vs.toList.take (a.len * a.esz)) hI hn hH hne k1 (Ext.refl _ C) (dead_inv hI i') rfl rfl k4 (by simpa using rowL_app hc hold hnews)
                  (fun j u hj => by
                    rw [List.getElem?_take] at hj
                    split at hj
                    · simpa using hj
                    · cases hj) (by unfold big; omega) (by omega) l5 hcs l6
                refine ⟨_, _, ?_, C', hC⟩
                rw [h0, s1]
                exact app_nil_run (P := P) t ty e i ht hi1 C.w g a.len cap cb l3
              · have hrun := run_append_room (P := P) C.w t ty e i ht hi1 g a.len cap vs k4 ad b.len cb news (by rw [hnews.1, hbs, hsz]) hcell (rowL_one (esz_pos b) hnews) hroom (by
                  rw [hnews.1, hbs, hsz, l5, ← Nat.add_mul]
                  exact Nat.mul_le_mul_right _ hroom)
                have hsize : (vs.toList.take (a.len * i.size) ++ news ++ vs.toList.drop (a.len * i.size + news.length)).toArray.size = vs.size := by
                  have h2 : a.len * i.size + news.length ≤ vs.size := by
                    rw [hnews.1, hbs, hsz, l5, ← Nat.add_mul]
                    exact Nat.mul_le_mul_right _ hroom
                  simp only [List.size_toArray, List.length_append, List.length_take, List.length_drop, Array.length_toList]
                  omega
                obtain ⟨C', hC⟩ := swap_left (chk := some (c.len ≤ 4294967296)) (rd := i' :: rd) (c := c) (us := vs.toList.take (a.len * a.esz) ++ news) (C1 := C.set g (vs.toList.take (a.len * i.size) ++ news ++ vs.toList.drop (a.len * i.size + news.length)).toArray)
                  hI hn hH hne k1 (set_ext k4 hsize _ rfl) (set_inv hI k1 hl k4 hsize trivial) rfl rfl (setRow_heap C.w g vs _ _ _ k4)
                  (rowL_ext (set_ext k4 hsize (fun b => b = g) rfl) (hI.off (fun b hb => ⟨i', a.len, hl, by rw [hb]; exact k1⟩)) (rowL_app hc hold hnews))
                  (fun j u hj => by
                    have hjl := (List.getElem?_eq_some_iff.1 hj).1
                    rw [← Array.getElem?_toList]
                    simp only
                    rw [hsz, g2, List.getElem?_append_left hjl]
                    exact hj) (by unfold big; omega) (by omega) (by rw [hsize]; exact l5) hcs l6
                refine ⟨_, _, hrun, C', ?_⟩
                exact s1 ▸ hC
            · rcases hA with ⟨rfl, rfl⟩ | ⟨ad, rfl, hcell⟩
              · have := hnews.1
                simp only [List.length_nil] at this
                have h2 := esz_pos b
                have : b.len = 0 := by
                  rcases Nat.eq_zero_or_pos b.len with h0 | h0
                  · exact h0
                  · have := Nat.mul_pos h0 h2; omega
                omega
              · have hrun := run_append_grow (P := P) C.w t ty e i z ht hi1 hi2 ⟨g, 0, none⟩ a.len cap (vs.toList.take (a.len * a.esz)) (by rw [hold.1, ← g2, hsz]) (fun j u hj => by
                    have ha : (⟨g, 0, none⟩ : Addr).add j = ⟨g, j, none⟩ := by unfold Addr.add; split <;> simp_all
                    rw [ha]
                    rw [List.getElem?_take] at hj
                    split at hj
                    · simpa [World.cell?, k4] using hj
                    · cases hj) ad b.len cb news (by rw [hnews.1, hbs, hsz]) hcell (by omega) (by omega) (growslice_fits (by omega) (by
                    rw [hi4, ← s1]
                    have : c.len * te.bytes ≤ 4294967296 * 4096 := Nat.mul_le_mul hm hb2
                    omega))
                have hlt : a.len + b.len ≤ maxLen := by simp only [maxLen]; omega
                have hge := grownCap_ge C.w (a.len + b.len) cap e
                have hle := grownCap_le_maxLen C.w (a.len + b.len) cap e hlt
                have hD := dead_inv (draw_inv hI) i'
                have hlen : (vs.toList.take (a.len * a.esz)).length + news.length = (a.len + b.len) * k.size := by rw [hold.1, hnews.1, hbs, ← g2, Nat.add_mul]
                have L := made_left (C := C.draw) (H := upd H i' .dead) (n := n) (r := ⟨none, .v (.c (.own n k.size e)), [], [(n, .arr c)], Nat.succ n⟩) (m := c.len)
                  (vs := (vs.toList.take (a.len * a.esz)).toArray ++ news.toArray ++ Builtin.zeroCells z.cells (grownCap C.w (a.len + b.len) cap e - (a.len + b.len))) (e := e) (v := .slice (some ⟨C.w.heap.size, 0, none⟩) (a.len + b.len) (grownCap C.w (a.len + b.len) cap e))
                  hD hn (add_arr hD hn (rowL_ext (draw_ext _) (off_none hI) (rowL_app hc hold hnews)) (fun j u hj => by
                    have hjl := (List.getElem?_eq_some_iff.1 hj).1
                    rw [Array.getElem?_append_left (by simpa using hjl)]
                    simpa using hj) (by simp) (by unfold big; omega)) rfl rfl
                  (.inr ⟨_, c.len, _, _, add_own, by rw [s1]; rfl, by rw [s1]; exact hge, heap_add_new, by
                    rw [Array.size_append, Array.size_append, size_zeroCells, hzs]
                    simp only [List.size_toArray]
                    rw [hlen, ← Nat.add_mul]
                    congr 1
                    omega, by simpa [maxLen] using hle⟩)
                refine ⟨_, _, hrun, _, L.w, L.v, L.inv, add_ext (C := C.draw) _ hn |> fun x => ⟨x.os, x.tape, x.output, x.size, x.blk, x.shp, x.unf, x.frz, x.new, x.vis, x.rho⟩, fun j p hp => ?_⟩
                rcases add_new j p hp with h | ⟨rfl, h⟩
                · exact .inl h
                · exact .inr ⟨Nat.le_refl _, Nat.lt_succ_self _, fun b hb => .inr (by rw [h] at hb; cases hb; exact Nat.le_refl _)⟩
    · cases hr
end
end Hw
end Go.Proofs.YtklmllaggigkfaaGreat
