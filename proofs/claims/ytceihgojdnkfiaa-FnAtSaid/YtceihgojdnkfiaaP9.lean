/- Laws of heights, 3: made by gen.py. -/
import Derived.Test.YtceihgojdnkfiaaP8
import Derived.Test.YtceihgojdnkfiaaP4
import Derived.Test.YtceihgojdnkfiaaK5
set_option linter.unusedVariables false
set_option linter.unusedSimpArgs false
set_option maxRecDepth 100000
set_option maxHeartbeats 400000
namespace Go.Proofs.Ytceihgojdnkfiaa
namespace Hw
open Go
noncomputable section
attribute [local irreducible] evFn evBody wrap wxor
theorem st_send {c : Ch} {k f t s u : Int} (h : StOk c.st) (hp : PktOk (pkS c k f t s u)) : StOk (sndS c k f t s u) := by
  obtain ⟨a1, a2, a3, a4, a5, a6, a7, a8, a9⟩ := h
  have hq : (1 : Int) ≤ (c.st.sent.length : Int) + 1 ∧ (c.st.sent.length : Int) + 1 ≤ 8 := hp.1
  refine ⟨a1, a2, ?_, ?_, ?_, a6, fun j hj => ?_, a8, a9⟩
  · show (c.st.sent ++ [_]).length ≤ 8
    rw [List.length_append, List.length_singleton]
    omega
  · show (c.st.live ++ [true]).length = (c.st.sent ++ [_]).length
    simp only [List.length_append, List.length_singleton]
    omega
  · show (c.st.back ++ [false]).length = (c.st.sent ++ [_]).length
    simp only [List.length_append, List.length_singleton]
    omega
  · have hj : j < (c.st.sent ++ [pkS c k f t s u]).length := hj
    rw [List.length_append, List.length_singleton] at hj
    show PktOk ((c.st.sent ++ [pkS c k f t s u]).getD j zPkt) ∧ ((c.st.sent ++ [pkS c k f t s u]).getD j zPkt).seq = j + 1 ∧ ((c.st.live ++ [true]).getD j false = true → (c.st.back ++ [false]).getD j false = false) ∧ ((c.st.sent ++ [pkS c k f t s u]).getD j zPkt).ver ≤ c.st.ver
    rw [getD_app, getD_app, getD_app, a4, a5]
    split
    · exact a7 j (by assumption)
    · rw [if_pos (by omega), if_pos (by omega), if_pos (by omega)]
      refine ⟨hp, ?_, fun _ => rfl, Int.le_refl _⟩
      show (c.st.sent.length : Int) + 1 = j + 1
      omega
theorem parts_set {l : List Int} {f v : Int} (h : Parts l) (hf : 1 ≤ f ∧ f ≤ 3) (hv : 0 ≤ v ∧ v ≤ 30) : Parts (l.set (f - 1).toNat v) := by
  refine ⟨by rw [List.length_set]; exact h.1, fun k hk => ?_⟩
  rw [List.length_set] at hk
  rw [List.getD_eq_getElem?_getD, List.getElem?_set]
  split
  · rw [if_pos (by omega)]
    exact hv
  · rw [← List.getD_eq_getElem?_getD]
    exact h.2 k hk
theorem tot_set {l : List Int} {f v : Int} (h : l.length = 3) (hf : 1 ≤ f ∧ f ≤ 3) : tot (l.set (f - 1).toNat v) = tot l - l.getD (f - 1).toNat 0 + v := by
  obtain ⟨a, b, c, rfl⟩ : ∃ a b c, l = [a, b, c] := by
    match l, h with
    | [a, b, c], _ => exact ⟨a, b, c, rfl⟩
  have : f = 1 ∨ f = 2 ∨ f = 3 := by omega
  rcases this with rfl | rfl | rfl
  · show v + b + c = a + b + c - a + v
    omega
  · show a + v + c = a + b + c - b + v
    omega
  · show a + b + v = a + b + c - c + v
    omega
theorem away_ok {b : Bk} {k f s : Int} (h : MayAway b k f s) : BkOk (awayB b k f s) := by
  obtain ⟨hb, hk, hf, h0, hs⟩ := h
  obtain ⟨h1, h2, h3, h4, h5⟩ := hb
  have r1 := parts_at h1 hf
  have r2 := parts_at h2 hf
  unfold lstK at hs
  unfold awayB
  split at hs
  · rename_i g
    rw [if_pos g]
    refine ⟨parts_set h1 hf (by omega), h2, by show 0 ≤ b.locked + s; omega, ?_, h5⟩
    show tot (b.own.set (f - 1).toNat _) + (b.locked + s) = 30
    rw [tot_set h1.1 hf]
    omega
  · rename_i g
    rw [if_neg g]
    refine ⟨h1, parts_set h2 hf (by omega), h3, h4, ?_⟩
    show tot (b.notes.set (f - 1).toNat _) ≤ 30
    rw [tot_set h2.1 hf]
    omega
theorem send_ok {c : Ch} {k f t s u : Int} (ho : ChOk c) (hp : PktOk (pkS c k f t s u)) (hm : MayAway c.bank k f s) : ChOk (sndC c k f t s u) := by
  obtain ⟨h1, h2, h3, h4, h5, h6⟩ := ho
  exact ⟨h1, away_ok hm, st_send h3 hp, h4, h5, h6⟩
theorem at_lt {c : Ch} {h : Int} {r : St} {b : Bool} (q : AtQ c h r b) (hl : c.lt) : r.lt := by
  by_cases g : b = true
  · rw [q.2.1 g]
    exact hl.2.2.1.2 _
  · rw [q.2.2 g]
    exact snd_zst_lt
theorem at_same {c : Ch} {h : Int} {r r' : St} {b b' : Bool} (q : AtQ c h r b) (q' : AtQ c h r' b') : b = b' ∧ r = r' := by
  have hb : b = b' := Bool.eq_iff_iff.2 (q.1.trans q'.1.symm)
  subst hb
  refine ⟨rfl, ?_⟩
  by_cases g : b = true
  · rw [q.2.1 g, q'.2.1 g]
  · rw [q.2.2 g, q'.2.2 g]
theorem atB {c : Ch} {h : Int} {r r' : St} {b b' x : Bool} (q : AtQ c h r b) (q' : AtQ c h r' b') (q7 : x = true ↔ r' = r) : (bif b' == b then x else false) = true := by
  obtain ⟨h1, h2⟩ := at_same q' q
  rw [h1, q7.2 h2]
  simp
theorem at_no {c : Ch} {h : Int} {r : St} {b x : Bool} (ho : ChOk c) (q : AtQ c h r b) (g : ¬ b = true) (e : x = true ↔ h < 1 ∨ h > (c.past.length : Int)) : x = true := by
  refine e.2 (Classical.byContradiction fun g' => g (q.1.2 ⟨ho, by omega, by omega⟩))
theorem blk_pre {c : Ch} {k : Nat} (h : k < c.past.length) : (blkC c).past.getD k zSt = c.past.getD k zSt ∧ c.past.length ≤ (blkC c).past.length := by
  unfold blkC
  split
  · refine ⟨?_, ?_⟩
    · show (c.past ++ [c.st]).getD k zSt = _
      rw [getD_app, if_pos h]
    · show _ ≤ (c.past ++ [c.st]).length
      rw [List.length_append]
      omega
  · exact ⟨rfl, Nat.le_refl _⟩
theorem at_fin {c x y : Ch} {s s1 s2 : St} {h k f t m u n : Int} {b b1 b2 b3 x15 x16 x18 : Bool} (q4 : AtQ c h s b) (hb : b = true) (q9 : BlkQ c x) (q10 : AtQ x h s1 b1) (q13 : CsQ c k f t m u y n b3) (hy : b3 = true → ChOk y) (q14 : AtQ y h s2 b2) (q15 : x15 = true ↔ s1 = s) (q16 : x16 = true ↔ s2 = s) (e18 : x18 = true ↔ (b1 = true ∧ x15 = true) ∧ (¬b3 = true ∨ b2 = true ∧ x16 = true)) : x18 = true := by
  obtain ⟨ho, h1, h2⟩ := q4.1.1 hb
  have hs := q4.2.1 hb
  have hx := q9.1 ho
  subst hx
  obtain ⟨p1, p2⟩ := blk_pre (c := c) (k := (h - 1).toNat) (by omega)
  have hb1 : b1 = true := q10.1.2 ⟨blk_ok ho, h1, by omega⟩
  refine e18.2 ⟨⟨hb1, q15.2 ?_⟩, ?_⟩
  · rw [q10.2.1 hb1, p1, hs]
  · by_cases g : b3 = true
    · have e : y.past = c.past := by rw [(q13.2.1 g).1]; rfl
      have hb2 : b2 = true := q14.1.2 ⟨hy g, h1, by rw [e]; exact h2⟩
      refine .inr ⟨hb2, q16.2 ?_⟩
      rw [q14.2.1 hb2, e, hs]
    · exact .inl g
theorem blkQ_lt9 {c r : Ch} (q : BlkQ c r) (h : c.lt) : r.lt := blkQ_lt q h

def Zcs.L : FL := fCons (fC (cArr true kU8s)) (fCons (fC (cArr true kU8s)) (fNil))
def Zcs : List Int × List Int × Unit → FR (Bool) := fun (a0, a1, ()) => ⟨(∀ k, 0 ≤ a0.getD k 0 ∧ a0.getD k 0 ≤ 255) ∧ True, fun X => Lt (bif decide ((a0.length : Int) > 1048576) then true else decide ((a1.length : Int) > 1048576)) fun x1 => And (Imp (x1 = true) (X true)) (Imp (x1 = false) (Call Zcr.X (a0, ()) fun x2 => Call ZbR.X (x2.1, x2.2, ()) fun x3 => Call ZbQ.X (x2.1, x2.2, ()) fun x4 => And (Imp (And ((!((x4.2 : Bool) == x3.2)) = false) (True)) ((Zbq (x4.1, x3.1, ())).P)) (Lt ((Zbq.S (x4.1, x3.1, ()))) fun x5 => Lt (bif bif !((x4.2 : Bool) == x3.2) then true else !x5 then true else !(ZV.S x2.1)) fun x6 => And (Imp (x6 = true) (And (Imp (And (((x4.2 : Bool) == x3.2) = true) (True)) ((Zbq (x4.1, x3.1, ())).P)) (Lt ((Zbq.S (x4.1, x3.1, ()))) fun x7 => X (bif (x4.2 : Bool) == x3.2 then x7 else false)))) (Imp (x6 = false) (And (Imp ((!x4.2) = true) (Lt (bif decide (x2.2 < 1) then true else decide (x2.2 > (x2.1.past.length : Int))) fun x8 => X x8)) (Imp ((!x4.2) = false) (Call ZbO.X (x2.1, ()) fun x9 => Call ZbQ.X (x9, x2.2, ()) fun x10 => And ((3 : Int) ≠ 0) (Lt ((a1.length : Int).tmod 3) fun x11 => Lt (wrap (1 + x11)) fun x12 => Call Zcj.X (x2.1, 1, x12, 1, 1, 60, ()) fun x13 => Call ZbQ.X (x13.1, x2.2, ()) fun x14 => And (Imp (And (x10.2 = true) (True)) ((Zbq (x10.1, x4.1, ())).P)) (Lt ((Zbq.S (x10.1, x4.1, ()))) fun x15 => And (Imp (And (x14.2 = true) (And ((!x13.2.2) = false) (And ((bif x10.2 then x15 else false) = true) (True)))) ((Zbq (x14.1, x4.1, ())).P)) (Lt ((Zbq.S (x14.1, x4.1, ()))) fun x16 => Lt (bif !x13.2.2 then true else bif x14.2 then x16 else false) fun x17 => Lt (bif bif x10.2 then x15 else false then x17 else false) fun x18 => X x18)))))))))), fun r => (r = true) ∧ True, fun r => (.v (.c (.bool r)), [])⟩
theorem Zcs.X : XF Zcs := mkF (false) fun (a0, a1, ()) hp => by
  obtain ⟨p0, -⟩ := hp
  dsimp only [Zcs]
  refine May.lp (B.or (B.dec) (B.dec)) fun x1 e1 => May.iff (e1) (fun h1 => ?_) (fun h1 => ?_)
  refine May.ret ⟨?_, trivial⟩; rotate_left 1
  refine May.call ⟨?_, trivial⟩ fun x2 q2 => have q2 := q2.1; May.call ⟨?_, trivial⟩ fun x3 q3 => have q3 := q3.1; May.call ⟨?_, trivial⟩ fun x4 q4 => have q4 := q4.1; May.chk (fun hπ => have g1 := B.neg (B.not (B.beq)) hπ.1; ⟨?_, trivial⟩) fun c1 => May.clq ⟨?_, trivial⟩ fun x5 q5 => have q5 := q5.1; May.lp (B.or (B.or (B.not (B.beq)) (B.not (Iff.rfl))) (B.not (Iff.rfl))) fun x6 e6 => May.iff (e6) (fun h2 => ?_) (fun h2 => ?_); rotate_left 5
  refine May.chk (fun hπ => have g1 := Iff.mp (B.beq) hπ.1; ⟨?_, trivial⟩) fun c2 => May.clq ⟨?_, trivial⟩ fun x7 q7 => have q7 := q7.1; May.ret ⟨?_, trivial⟩; rotate_left 3
  refine May.iff (B.not (Iff.rfl)) (fun h3 => ?_) (fun h3 => ?_)
  refine May.lp (B.or (B.dec) (B.dec)) fun x8 e8 => May.ret ⟨?_, trivial⟩; rotate_left 1
  refine May.call ⟨?_, trivial⟩ fun x9 q9 => have q9 := q9.1; May.call ⟨?_, trivial⟩ fun x10 q10 => have q10 := q10.1; May.chk ?_ fun c3 => May.lm ?_ fun x11 e11 => May.lw ⟨?_, ?_⟩ fun x12 e12 => May.call ⟨?_, trivial⟩ fun x13 q13 => have q13 := q13.1; May.call ⟨?_, trivial⟩ fun x14 q14 => have q14 := q14.1; May.chk (fun hπ => have g1 := Iff.mp (Iff.rfl) hπ.1; ⟨?_, trivial⟩) fun c4 => ?_; rotate_left 9
  refine May.clq ⟨?_, trivial⟩ fun x15 q15 => have q15 := q15.1; May.chk (fun hπ => have g1 := Iff.mp (Iff.rfl) hπ.1; have g2 := B.neg (B.not (Iff.rfl)) hπ.2.1; have g3 := Iff.mp (B.and (Iff.rfl) (Iff.rfl)) hπ.2.2.1; ⟨?_, trivial⟩) fun c5 => May.clq ⟨?_, trivial⟩ fun x16 q16 => have q16 := q16.1; May.lp (B.or (B.not (Iff.rfl)) (B.and (Iff.rfl) (Iff.rfl))) fun x17 e17 => May.lp (B.and (B.and (Iff.rfl) (Iff.rfl)) (e17)) fun x18 e18 => May.ret ⟨?_, trivial⟩
  all_goals try dsimp only
  all_goals first | with_reducible assumption | omega | (with_reducible rfl; done) | (exact at_lt q4 q2; done) | (exact atB q3 q4 q7; done) | (exact at_no (csOk q2 h2) q4 h3 e8; done) | (exact blkQ_lt q9 q2; done) | (exact cs_lt q13 q2; done) | (exact at_lt q10 (blkQ_lt q9 q2); done) | (exact at_lt q14 (cs_lt q13 q2); done) | (exact at_fin q4 (nn h3) q9 q10 q13 (fun g => by rw [(q13.2.1 g).1]; exact send_ok (q13.1.1 g).1 (q13.1.1 g).2.2.1 (q13.1.1 g).2.2.2) q14 q15 q16 e18; done)
abbrev Zcs.S := Classical.choose Zcs.X
def Zcs.c : Ctr := fc 11 [false, false] Zcs.L Zcs Zcs.S
theorem Zcs.good : Good Try.prog Zcs.c := mkFG (fn := Try.f11) {} Zcs.X (consG Zcr.good (consG ZbR.good (consG ZbQ.good (consG Zbq.good (consG ZV.good (consG ZbO.good (consG Zcj.good noG))))))) (by kernel_rfl) (by kernel_rfl) (l0 (by kernel_rfl)) (c0 (by kernel_rfl)) fun s K => by kernel_rfl
end
end Hw
end Go.Proofs.Ytceihgojdnkfiaa
