/- The operations one by one: copy. -/
import Derived.Test.YtklmllaggigkfaaGreatPX9
import Derived.Laws.CopyRow
set_option linter.unusedVariables false
set_option linter.unusedSimpArgs false
namespace Go.Proofs.YtklmllaggigkfaaGreat
namespace Hw
open Go
section
variable {P:Program} {C:Cx} {H:Hp} {n:Nat}
theorem copy_run (w:World) (t ty e e':TypeId) (i:TypeInfo) (ht:P.underlying t = some (.slice e)) (hi:P.info? e = some i) (g dLen dCap:Nat) (a:Addr) (sLen sCap:Nat) (cur:Array Value) (cs:List Value)
  (hg:w.heap[g]? = some (.cells cur e' (0,0))) (hn:cs.length = Nat.min sLen dLen * i.size) (hsrc:∀j v,cs[j]? = some v→w.cell? (a.add j) = some v) (hfit:cs.length≤cur.size) (h1:∀v∈cs,v.oneCell' = true) :
  (Builtin.copy_ #[t,t] ty #[.slice (some ⟨g,0,none⟩) dLen dCap,.slice (some a) sLen sCap]).run P w = .ok (goInt (Nat.min sLen dLen)) (w.setRow g (cs ++ cur.toList.drop cs.length).toArray):=by
 have hl:=run_loadCells_list (P:=P) w a cs hsrc
 have hst:=run_storeCells_at P g 0 e' cs 0 cur w hg (by simpa using hfit) h1
 simp [Builtin.copy_,run_underlying ht,Builtin.lenOf,Builtin.firstCells,sizeOf,typeInfo,hi,← hn,hl,hst]
theorem copy_run0 (w:World) (t ty e:TypeId) (i:TypeInfo) (ht:P.underlying t = some (.slice e)) (hi:P.info? e = some i) (d a:Option Addr) (dCap sCap:Nat) :
  (Builtin.copy_ #[t,t] ty #[.slice d 0 dCap,.slice a 0 sCap]).run P w = .ok (goInt 0) w:=by
 have hl:∀(x:Addr),(loadCells x 0).run P w = .ok #[] w:=fun x=>by simpa using run_loadCells_list (P:=P) w x [] (by simp)
 cases d <;> cases a <;> simp [Builtin.copy_,run_underlying ht,Builtin.lenOf,Builtin.firstCells,sizeOf,typeInfo,hi,storeCells,hl]
theorem same_inv {i:Nat} {nb:Blk} (hI:Inv C H) (hl:(H i).live) (ho:OwnAt C i nb):Inv C (upd H i nb) where
 own:=fun j=>by
  by_cases hj:j = i
  ·subst hj; rw [upd_self]; exact ho
  ·rw [upd_ne hj]; exact hI.own j
 inj:=fun j k c x y hj hk hrj hrk=>by
  have old:∀j,(upd H i nb j).live→(H j).live:=fun j h=>by
   by_cases hj:j = i
   ·subst hj; exact hl
   ·rw [upd_ne hj] at h; exact h
  exact hI.inj j k c x y (old j hj) (old k hk) hrj hrk
 frz:=hI.frz
 vis:=hI.vis
theorem copy_ok {t ty e : Nat} {te : TI} {k : EK} {s x : Cell} {v vx : Value} {r : OpR} (ht : P.underlying t = some (.slice e)) (he : TIok P e te) (hk : te.ek = some k) (hI : Inv C H)
    (hs : cellR C s v) (hx : cellR C x vx) (hr : aCopy k e H n s x = some r) (hok : r.ok) :
    ∃ u w', (Builtin.copy_ #[t, t] ty #[v, vx]).run P C.w = .ok u w' ∧ ∃ C', Left C H n r u w' C' := by
  unfold aCopy at hr
  cases hsrc : asSrc k H x with
  | none => rw [hsrc] at hr; cases hr
  | some y =>
    obtain ⟨b, rd⟩ := y
    rw [hsrc] at hr
    simp only [Option.bind_some] at hr
    obtain ⟨A, cb, news, rfl, hnews, hbb, hA⟩ := src_ok hI hx hsrc
    obtain ⟨i, z, hi1, hi2, hi3, hi4, hi5⟩ := he.i
    have hek := he.ek
    rw [hk] at hek
    obtain ⟨hzv, hsk, hby⟩ := hek
    have hsz : i.size = k.size := by rw [hi3, hsk]
    split at hr
    · rename_i i' sz' e'
      cases hH : H i' with
      | dead => rw [hH] at hr; cases hr
      | mp l => rw [hH] at hr; cases hr
      | raw m cs => rw [hH] at hr; cases hr
      | arr a =>
        rw [hH] at hr
        simp only at hr
        cases hg : (memN i' rd || !Nat.beq sz' a.esz || !Nat.beq sz' k.size || !Nat.beq e e' || !Nat.beq b.ek.code k.code) with
        | true => rw [hg] at hr; cases hr
        | false =>
          rw [hg] at hr
          simp only [Bool.or_eq_false_iff, Bool.not_eq_false'] at hg
          obtain ⟨⟨⟨⟨_, g2⟩, g3⟩, g4⟩, g5⟩ := hg
          have g5 := Nat.eq_of_beq_eq_true g5
          have g2 := Nat.eq_of_beq_eq_true g2
          have g3 := Nat.eq_of_beq_eq_true g3
          have g4 := Nat.eq_of_beq_eq_true g4
          subst g3 g4
          simp only [cond_false, Option.some.injEq] at hr
          subst hr
          have hm : a.len = b.len := hok
          have hbs : b.esz = k.size := by
            unfold Arr.esz
            cases h1 : b.ek <;> cases h2 : k <;> rw [h1, h2] at g5 <;> simp [EK.code] at g5 <;> rfl
          have hl : (H i').live := by rw [hH]; trivial
          have ho := hI.own i'
          rw [hH] at ho
          rcases ho with ⟨h0, h0'⟩ | ⟨g, vs, e'', k1, k2, k3, k4, k5, k6, k7⟩
          · rcases hs with ⟨_, rfl⟩ | ⟨g', m', cap, vs', l1, _⟩
            · rw [← hm, h0]
              refine ⟨_, _, copy_run0 C.w t ty e i ht hi1 _ _ _ _, C, rfl, ?_, same_inv hI hl (.inl ⟨by rw [← hm]; exact h0, h0'⟩), Ext.refl _ C, fun j p hp => .inl hp⟩
              rfl
            · rw [h0'] at l1; cases l1
          rcases hs with ⟨l1, _⟩ | ⟨g', m', cap, vs', l1, rfl, l3, l4, l5, l6⟩
          · rw [k1] at l1; cases l1
          rw [k1] at l1
          cases l1
          rw [k4] at l4
          cases l4
          rcases Nat.eq_zero_or_pos b.len with h0 | h0
          · rw [hm, h0]
            refine ⟨_, _, copy_run0 C.w t ty e i ht hi1 _ _ _ _, C, rfl, ?_, same_inv hI hl (.inr ⟨g, vs, _, by rw [← hm]; exact k1, k2, k3, k4, by rw [h0]; omega, hbb, fun k' hk' => by omega⟩), Ext.refl _ C, fun j p hp => .inl hp⟩
            rfl
          · rcases hA with ⟨rfl, rfl⟩ | ⟨ad, rfl, hcell⟩
            · have := hnews.1
              simp only [List.length_nil] at this
              have := Nat.mul_pos h0 (esz_pos b)
              omega
            · have hfit : news.length ≤ vs.size := by
                rw [hnews.1, hbs, ← g2, ← hm] at *
                exact k5
              have hrun := copy_run (P := P) C.w t ty e e i ht hi1 g a.len cap ad b.len cb vs news k4 (by rw [hnews.1, hbs, hsz, hm, show Nat.min b.len b.len = b.len from Nat.min_self _]) hcell hfit (rowL_one (esz_pos b) hnews)
              have hsize : (news ++ vs.toList.drop news.length).toArray.size = vs.size := by
                simp only [List.size_toArray, List.length_append, List.length_drop, Array.length_toList]
                omega
              refine ⟨_, _, hrun, C.set g _, rfl, ?_, set_inv hI k1 hl k4 hsize ?_, set_ext k4 hsize _ ⟨i', a.len, by simp, hl, k1⟩, fun j p hp => .inl hp⟩
              · show _ = _
                rw [hm, show Nat.min b.len b.len = b.len from Nat.min_self _]
                rfl
              · have hext := set_ext k4 hsize (fun b => b = g) rfl
                have hoff : Off (fun b => b = g) C := hI.off (fun b hb => ⟨i', a.len, hl, by rw [hb]; exact k1⟩)
                have hrow := rowL_ext hext hoff hnews
                refine .inr ⟨g, _, e, by rw [← hm]; exact k1, k2, k3, setRow_heap C.w g vs _ e _ k4, by rw [hsize, hbs, ← hm, g2]; exact k5, hbb, fun k' hk' j x hj => ?_⟩
                obtain ⟨u, h7, h8⟩ := hrow.2 k' hk' j x hj
                have hjl := (List.getElem?_eq_some_iff.1 h7).1
                refine ⟨u, ?_, h8⟩
                rw [List.getElem?_toArray, List.getElem?_append_left hjl]
                exact h7
    · cases hr
end
end Hw
end Go.Proofs.YtklmllaggigkfaaGreat
