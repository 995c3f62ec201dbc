/- Laws of what is sent, 3: made by gen.py. -/
import Derived.Test.YtceihgojdnkfiaaP4
import Derived.Test.YtceihgojdnkfiaaG2
set_option linter.unusedVariables false
set_option linter.unusedSimpArgs false
set_option maxRecDepth 100000
set_option maxHeartbeats 400000
namespace Go.Proofs.Ytceihgojdnkfiaa
namespace Hw
open Go
noncomputable section
attribute [local irreducible] evFn evBody wrap wxor
theorem st_send {c : Ch} {k f t s u : Int} (h : StOk c.st) (hp : PktOk (pkS c k f t s u)) : StOk (sndS c k f t s u) := by
  obtain ⟨a1, a2, a3, a4, a5, a6, a7, a8, a9⟩ := h
  have hq : (1 : Int) ≤ (c.st.sent.length : Int) + 1 ∧ (c.st.sent.length : Int) + 1 ≤ 8 := hp.1
  refine ⟨a1, a2, ?_, ?_, ?_, a6, fun j hj => ?_, a8, a9⟩
  · show (c.st.sent ++ [_]).length ≤ 8
    rw [List.length_append, List.length_singleton]
    omega
  · show (c.st.live ++ [true]).length = (c.st.sent ++ [_]).length
    simp only [List.length_append, List.length_singleton]
    omega
  · show (c.st.back ++ [false]).length = (c.st.sent ++ [_]).length
    simp only [List.length_append, List.length_singleton]
    omega
  · have hj : j < (c.st.sent ++ [pkS c k f t s u]).length := hj
    rw [List.length_append, List.length_singleton] at hj
    show PktOk ((c.st.sent ++ [pkS c k f t s u]).getD j zPkt) ∧ ((c.st.sent ++ [pkS c k f t s u]).getD j zPkt).seq = j + 1 ∧ ((c.st.live ++ [true]).getD j false = true → (c.st.back ++ [false]).getD j false = false) ∧ ((c.st.sent ++ [pkS c k f t s u]).getD j zPkt).ver ≤ c.st.ver
    rw [getD_app, getD_app, getD_app, a4, a5]
    split
    · exact a7 j (by assumption)
    · rw [if_pos (by omega), if_pos (by omega), if_pos (by omega)]
      refine ⟨hp, ?_, fun _ => rfl, Int.le_refl _⟩
      show (c.st.sent.length : Int) + 1 = j + 1
      omega
theorem parts_set {l : List Int} {f v : Int} (h : Parts l) (hf : 1 ≤ f ∧ f ≤ 3) (hv : 0 ≤ v ∧ v ≤ 30) : Parts (l.set (f - 1).toNat v) := by
  refine ⟨by rw [List.length_set]; exact h.1, fun k hk => ?_⟩
  rw [List.length_set] at hk
  rw [List.getD_eq_getElem?_getD, List.getElem?_set]
  split
  · rw [if_pos (by omega)]
    exact hv
  · rw [← List.getD_eq_getElem?_getD]
    exact h.2 k hk
theorem tot_set {l : List Int} {f v : Int} (h : l.length = 3) (hf : 1 ≤ f ∧ f ≤ 3) : tot (l.set (f - 1).toNat v) = tot l - l.getD (f - 1).toNat 0 + v := by
  obtain ⟨a, b, c, rfl⟩ : ∃ a b c, l = [a, b, c] := by
    match l, h with
    | [a, b, c], _ => exact ⟨a, b, c, rfl⟩
  have : f = 1 ∨ f = 2 ∨ f = 3 := by omega
  rcases this with rfl | rfl | rfl
  · show v + b + c = a + b + c - a + v
    omega
  · show a + v + c = a + b + c - b + v
    omega
  · show a + b + v = a + b + c - c + v
    omega
theorem away_ok {b : Bk} {k f s : Int} (h : MayAway b k f s) : BkOk (awayB b k f s) := by
  obtain ⟨hb, hk, hf, h0, hs⟩ := h
  obtain ⟨h1, h2, h3, h4, h5⟩ := hb
  have r1 := parts_at h1 hf
  have r2 := parts_at h2 hf
  unfold lstK at hs
  unfold awayB
  split at hs
  · rename_i g
    rw [if_pos g]
    refine ⟨parts_set h1 hf (by omega), h2, by show 0 ≤ b.locked + s; omega, ?_, h5⟩
    show tot (b.own.set (f - 1).toNat _) + (b.locked + s) = 30
    rw [tot_set h1.1 hf]
    omega
  · rename_i g
    rw [if_neg g]
    refine ⟨h1, parts_set h2 hf (by omega), h3, h4, ?_⟩
    show tot (b.notes.set (f - 1).toNat _) ≤ 30
    rw [tot_set h2.1 hf]
    omega
theorem send_ok {c : Ch} {k f t s u : Int} (ho : ChOk c) (hp : PktOk (pkS c k f t s u)) (hm : MayAway c.bank k f s) : ChOk (sndC c k f t s u) := by
  obtain ⟨h1, h2, h3, h4, h5, h6⟩ := ho
  exact ⟨h1, away_ok hm, st_send h3 hp, h4, h5, h6⟩
theorem take_app {α : Type} (l : List α) (x : α) (n : Nat) (h : n = l.length) : List.drop 0 (List.take n (l ++ [x])) = l := by
  subst h
  simp
theorem sendOkB {b : Bool} {p : Prop} (h : ¬(p ∨ ¬b = true)) : b = true := Classical.byContradiction fun g => h (.inr g)
theorem snd_rng {c r : Ch} {k f t s u n : Int} {b : Bool} (q : CsQ c k f t s u r n b) (h : b = true) : (0 ≤ (c.st.sent.length : Int) ∧ (c.st.sent.length : Int) ≤ (r.st.sent.length : Int)) ∧ (0 ≤ (c.st.sent.length : Int) ∧ (c.st.sent.length : Int) ≤ (r.st.live.length : Int)) ∧ (0 ≤ (c.st.sent.length : Int) ∧ (c.st.sent.length : Int) ≤ (r.st.back.length : Int)) := by
  have ho := (q.1.1 h).1.2.2.1
  have h4 := ho.2.2.2.1
  have h5 := ho.2.2.2.2.1
  rw [(q.2.1 h).1]
  show (_ ∧ _ ≤ (((c.st.sent ++ [_]).length : Nat) : Int)) ∧ (_ ∧ _ ≤ (((c.st.live ++ [true]).length : Nat) : Int)) ∧ (_ ∧ _ ≤ (((c.st.back ++ [false]).length : Nat) : Int))
  simp only [List.length_append, List.length_singleton]
  omega
theorem cutst_lt {s : St} {n : Nat} (h : s.lt) : (⟨s.way, s.ver, s.want, List.drop 0 (List.take n s.sent), List.drop 0 (List.take n s.live), List.drop 0 (List.take n s.back), s.got⟩ : St).lt := by
  obtain ⟨h1, h2, h3, h4⟩ := h
  refine ⟨?_, ?_, ?_, h4⟩
  · show (List.drop 0 (List.take n s.sent)).length ≤ _
    rw [List.drop_zero, List.length_take]
    omega
  · show (List.drop 0 (List.take n s.live)).length ≤ _
    rw [List.drop_zero, List.length_take]
    omega
  · show (List.drop 0 (List.take n s.back)).length ≤ _
    rw [List.drop_zero, List.length_take]
    omega
theorem send_fin {c r : Ch} {w : Bk} {k f t s u n x11 : Int} {b b9 x10 x13 x14 x16 x18 : Bool} (hl : c.lt) (q3 : CsQ c k f t s u r n b) (h : b = true) (q9 : AwayQ c.bank k f s w b9) (q10 : x10 = true ↔ r.bank = w) (e11 : -9223372036854775808 ≤ (c.st.sent.length : Int) + 1 ∧ (c.st.sent.length : Int) + 1 ≤ 9223372036854775807 → x11 = (c.st.sent.length : Int) + 1) (q13 : x13 = true ↔ HasP r.st ⟨n, k, f, t, s, u, c.st.ver⟩)
    (q14 : x14 = true ↔ (⟨r.st.way, r.st.ver, r.st.want, List.drop 0 (List.take (c.st.sent.length : Int).toNat r.st.sent), List.drop 0 (List.take (c.st.sent.length : Int).toNat r.st.live), List.drop 0 (List.take (c.st.sent.length : Int).toNat r.st.back), r.st.got⟩ : St) = c.st) (q16 : x16 = true ↔ r.knows = c.knows)
    (e18 : x18 = true ↔ (((((b9 = true ∧ x10 = true) ∧ n = x11) ∧ x13 = true) ∧ x14 = true) ∧ x16 = true) ∧ (r.past.length : Int) = (c.past.length : Int)) : (bif x18 then ZY.S r else false) = true := by
  obtain ⟨ho, hw, hp, hm⟩ := q3.1.1 h
  have hlr := cs_lt q3 hl
  obtain ⟨hr, hn⟩ := q3.2.1 h
  have h9 := q9.1.2 hm
  have hw9 := q9.2.1 h9
  have h3 := ho.2.2.1.2.2.1
  have e11 := e11 (by omega)
  have hok : ChOk r := by rw [hr]; exact send_ok ho hp hm
  have hc := (implChL hlr).2 hok
  have hL : c.st.live.length = c.st.sent.length := ho.2.2.1.2.2.2.1
  have hB : c.st.back.length = c.st.sent.length := ho.2.2.1.2.2.2.2.1
  have h18 : x18 = true := by
    refine e18.2 ⟨⟨⟨⟨⟨⟨h9, q10.2 ?_⟩, hn.trans e11.symm⟩, q13.2 ?_⟩, q14.2 ?_⟩, q16.2 ?_⟩, ?_⟩
    · rw [hr, hw9]
      rfl
    · refine ⟨hok.2.2.1, ?_, ?_, ?_⟩
      · rw [hr]
        show 1 ≤ n ∧ n ≤ (((c.st.sent ++ [_]).length : Nat) : Int)
        rw [List.length_append, List.length_singleton]
        omega
      · rw [hr]
        show (c.st.sent ++ [pkS c k f t s u]).getD (n - 1).toNat zPkt = _
        rw [show (n - 1).toNat = c.st.sent.length by omega, getD_app, if_neg (by omega), if_pos rfl]
        show (⟨(c.st.sent.length : Int) + 1, k, f, t, s, u, c.st.ver⟩ : Pkt) = _
        rw [hn]
      · rw [hr]
        show (c.st.live ++ [true]).getD (n - 1).toNat false = true
        rw [show (n - 1).toNat = c.st.live.length by omega, getD_app, if_neg (by omega), if_pos rfl]
    · rw [hr]
      refine st_ext rfl rfl rfl ?_ ?_ ?_ rfl
      · exact take_app _ _ _ (by omega)
      · exact take_app _ _ _ (by omega)
      · exact take_app _ _ _ (by omega)
    · rw [hr]
      rfl
    · rw [hr]
      rfl
  rw [h18, hc]
  rfl
theorem lives_app {l : List Bool} {a : Bool} : ∀ k, k ≤ l.length → lives (l ++ [a]) k = lives l k
  | 0, _ => rfl
  | k + 1, h => by
    show lives (l ++ [a]) k ++ _ = lives l k ++ _
    have e : (l ++ [a]).getD k false = l.getD k false := by rw [getD_app, if_pos (by omega)]
    rw [lives_app k (by omega), e]
theorem lives_one (l : List Bool) : (lives (l ++ [true]) (l ++ [true]).length).length = (lives l l.length).length + 1 := by
  rw [List.length_append, List.length_singleton]
  show (lives (l ++ [true]) l.length ++ _).length = _
  have e : (l ++ [true]).getD l.length false = true := by rw [getD_app, if_neg (by omega), if_pos rfl]
  rw [lives_app l.length (Nat.le_refl _), e, if_pos rfl, List.length_append]
  rfl
theorem two_rng {c x : Ch} {k f t s u n : Int} {b : Bool} (q : CsQ c k f t s u x n b) (h : b = true) : 1 ≤ n ∧ n ≤ 9 ∧ (x.st.sent.length : Int) = n := by
  have h3 := (q.1.1 h).1.2.2.1.2.2.1
  rw [(q.2.1 h).1, (q.2.1 h).2]
  show _ ∧ _ ∧ (((c.st.sent ++ [_]).length : Nat) : Int) = _
  rw [List.length_append, List.length_singleton]
  omega
theorem two_not {x y : Ch} {k f t s u n : Int} {b x13 : Bool} (ho : ChOk x) (q : CsQ x k f t s u y n b) (h : ¬ b = true) (q13 : x13 = true ↔ y = x) : (bif n == 0 then x13 else false) = true := by
  rw [(q.2.2 h).1, q13.2 ((q.2.2 h).2.1 ho)]
  rfl
theorem snd_chok {c x : Ch} {k f t s u n : Int} {b : Bool} (q : CsQ c k f t s u x n b) (h : b = true) : ChOk x := by
  rw [(q.2.1 h).1]
  exact send_ok (q.1.1 h).1 (q.1.1 h).2.2.1 (q.1.1 h).2.2.2
theorem two_fin {c x y : Ch} {k f t s u n k' f' t' s' u' m x14 x15 x19 : Int} {b b' x16 x20 : Bool} {x17 x18 : List Int} (q : CsQ c k f t s u x n b) (h : b = true) (q' : CsQ x k' f' t' s' u' y m b') (h' : b' = true) (e14 : x14 = n + 1) (e15 : -9223372036854775808 ≤ n - 1 ∧ n - 1 ≤ 9223372036854775807 → x15 = n - 1) (q16 : x16 = true ↔ HasP y.st (x.st.sent.getD x15.toNat zPkt))
    (q17 : StOk y.st → x17 = lives y.st.live y.st.live.length) (q18 : StOk c.st → x18 = lives c.st.live c.st.live.length) (e19 : -9223372036854775808 ≤ (x18.length : Int) + 2 ∧ (x18.length : Int) + 2 ≤ 9223372036854775807 → x19 = (x18.length : Int) + 2) (e20 : x20 = true ↔ (m = x14 ∧ x16 = true) ∧ (x17.length : Int) = x19) : x20 = true := by
  have r1 := two_rng q h
  have r2 := two_rng q' h'
  have e15 := e15 (by omega)
  subst e14 e15
  have ho := (q.1.1 h).1.2.2.1
  have hx := snd_chok q h
  have hy := snd_chok q' h'
  obtain ⟨ex, en⟩ := q.2.1 h
  obtain ⟨ey, em⟩ := q'.2.1 h'
  have q17 := q17 hy.2.2.1
  have q18 := q18 ho
  have hL : c.st.live.length = c.st.sent.length := ho.2.2.2.1
  have hLx : x.st.live = c.st.live ++ [true] := by rw [ex]; rfl
  have hLy : y.st.live = x.st.live ++ [true] := by rw [ey]; rfl
  have hSx : x.st.sent = c.st.sent ++ [pkS c k f t s u] := by rw [ex]; rfl
  have hSy : y.st.sent = x.st.sent ++ [pkS x k' f' t' s' u'] := by rw [ey]; rfl
  have hl18 : x18.length ≤ 8 := by
    rw [q18]
    exact Nat.le_trans (lives_len _) (by have := ho.2.2.1; omega)
  have e19 := e19 (by omega)
  have hp : x.st.sent.getD (n - 1).toNat zPkt = pkS c k f t s u := by rw [hSx, show (n - 1).toNat = c.st.sent.length by omega, getD_app, if_neg (by omega), if_pos rfl]
  refine e20.2 ⟨⟨by omega, q16.2 ?_⟩, ?_⟩
  · rw [hp]
    have hseq : (pkS c k f t s u).seq = n := en.symm
    refine ⟨hy.2.2.1, ?_, ?_, ?_⟩
    · rw [hseq]
      omega
    · rw [hseq, hSy, getD_app, if_pos (by omega), hp]
    · rw [hseq, hLy, getD_app, if_pos (by rw [hLx, List.length_append, List.length_singleton]; omega), hLx, getD_app, if_neg (by omega), if_pos (by omega)]
  · rw [q17, hLy, lives_one, hLx, lives_one, ← q18, e19]
    omega

def Zcq.L : FL := fCons (fC (cArr true kU8s)) (fCons (fC (cArr true kU8s)) (fNil))
def Zcq : List Int × List Int × Unit → FR (Bool) := fun (a0, a1, ()) => ⟨(∀ k, 0 ≤ a0.getD k 0 ∧ a0.getD k 0 ≤ 255) ∧ True, fun X => Lt (bif decide ((a0.length : Int) > 1048576) then true else decide ((a1.length : Int) > 1048576)) fun x1 => And (Imp (x1 = true) (X true)) (Imp (x1 = false) (Call Zcl.X (a0, ()) fun x2 => Call Zck.X (x2.1, x2.2.1, x2.2.2.1, x2.2.2.2.1, x2.2.2.2.2.1, x2.2.2.2.2.2, ()) fun x3 => Call Zcj.X (x2.1, x2.2.1, x2.2.2.1, x2.2.2.2.1, x2.2.2.2.2.1, x2.2.2.2.2.2, ()) fun x4 => Lt (bif !((x4.2.2 : Bool) == x3.2.2) then true else x4.2.1 != x3.2.1) fun x5 => And (Imp (And (x5 = false) (True)) ((ZbT (x4.1, x3.1, ())).P)) (Lt ((ZbT.S (x4.1, x3.1, ()))) fun x6 => Lt (bif bif x5 then true else !x6 then true else !x4.2.2) fun x7 => And (Imp (x7 = true) (Lt (bif (x4.2.2 : Bool) == x3.2.2 then x4.2.1 == x3.2.1 else false) fun x8 => And (Imp (And (x8 = true) (True)) ((ZbT (x4.1, x3.1, ())).P)) (Lt ((ZbT.S (x4.1, x3.1, ()))) fun x9 => X (bif x8 then x9 else false)))) (Imp (x7 = false) (And ((3 : Int) ≠ 0) (Lt ((a1.length : Int).tmod 3) fun x10 => Lt (wrap (1 + x10)) fun x11 => Call Zcj.X (x4.1, 1, x11, 0, 1, 9, ()) fun x12 => And (Imp ((!x12.2.2) = true) (And (Imp (And ((x12.2.1 == 0) = true) (True)) ((ZbT (x12.1, x4.1, ())).P)) (Lt ((ZbT.S (x12.1, x4.1, ()))) fun x13 => X (bif x12.2.1 == 0 then x13 else false)))) (Imp ((!x12.2.2) = false) (Lt (wrap (x4.2.1 + 1)) fun x14 => Lt (wrap (x4.2.1 - 1)) fun x15 => And (Imp (And ((x12.2.1 == x14) = true) (True)) ((0 : Int) ≤ x15 ∧ x15 < (x4.1.st.sent.length : Int))) (Lt ((Zbf.S (x12.1.st, (x4.1.st.sent.getD (x15).toNat zPkt), ()))) fun x16 => Lt ((Zbg.S (x12.1.st, ()))) fun x17 => Lt ((Zbg.S (x2.1.st, ()))) fun x18 => Lt (wrap ((x18.length : Int) + 2)) fun x19 => Lt (bif bif x12.2.1 == x14 then x16 else false then (x17.length : Int) == x19 else false) fun x20 => X x20))))))))), fun r => (r = true) ∧ True, fun r => (.v (.c (.bool r)), [])⟩
theorem Zcq.X : XF Zcq := mkF (false) fun (a0, a1, ()) hp => by
  obtain ⟨p0, -⟩ := hp
  dsimp only [Zcq]
  refine May.lp (B.or (B.dec) (B.dec)) fun x1 e1 => May.iff (e1) (fun h1 => ?_) (fun h1 => ?_)
  refine May.ret ⟨?_, trivial⟩; rotate_left 1
  refine May.call ⟨?_, trivial⟩ fun x2 q2 => have q2 := q2.1; May.call ⟨?_, trivial⟩ fun x3 q3 => have q3 := q3.1; May.call ⟨?_, trivial⟩ fun x4 q4 => have q4 := q4.1; May.lp (B.or (B.not (B.beq)) (B.ne)) fun x5 e5 => May.chk (fun hπ => have g1 := B.neg (e5) hπ.1; ⟨?_, trivial⟩) fun c1 => May.clq ⟨?_, trivial⟩ fun x6 q6 => have q6 := q6.1; May.lp (B.or (B.or (e5) (B.not (Iff.rfl))) (B.not (Iff.rfl))) fun x7 e7 => May.iff (e7) (fun h2 => ?_) (fun h2 => ?_); rotate_left 5
  refine May.lp (B.and (B.beq) (B.eq)) fun x8 e8 => May.chk (fun hπ => have g1 := Iff.mp (e8) hπ.1; ⟨?_, trivial⟩) fun c2 => May.clq ⟨?_, trivial⟩ fun x9 q9 => have q9 := q9.1; May.ret ⟨?_, trivial⟩; rotate_left 3
  refine May.chk ?_ fun c3 => May.lm ?_ fun x10 e10 => May.lw ⟨?_, ?_⟩ fun x11 e11 => May.call ⟨?_, trivial⟩ fun x12 q12 => have q12 := q12.1; May.iff (B.not (Iff.rfl)) (fun h3 => ?_) (fun h3 => ?_); rotate_left 5
  refine May.chk (fun hπ => have g1 := Iff.mp (B.eq) hπ.1; ⟨?_, trivial⟩) fun c4 => May.clq ⟨?_, trivial⟩ fun x13 q13 => have q13 := q13.1; May.ret ⟨?_, trivial⟩; rotate_left 3
  refine May.lw ⟨?_, ?_⟩ fun x14 e14 => May.lwi fun x15 e15 => May.chk (fun hπ => have g1 := Iff.mp (B.eq) hπ.1; ?_) fun c5 => May.clq trivial fun x16 q16 => have q16 := q16.1; May.clq trivial fun x17 q17 => have q17_0 := q17.1; have q17_1 := q17.2.1; May.clq trivial fun x18 q18 => have q18_0 := q18.1; have q18_1 := q18.2.1; May.lwi fun x19 e19 => May.lp (B.and (B.and (B.eq) (Iff.rfl)) (B.eq)) fun x20 e20 => May.ret ⟨?_, trivial⟩
  all_goals try dsimp only
  all_goals first | with_reducible assumption | omega | (with_reducible rfl; done) | (have := two_rng q4 (sendOkB h2); omega; done) | (have := two_rng q4 (sendOkB h2); have := e15 (by omega); omega; done) | (exact two_fin q4 (sendOkB h2) q12 (nn h3) e14 e15 q16 q17_0 q18_0 e19 e20; done) | (exact cs_lt q4 q2; done) | (exact csB q3 q4 e8 q9; done) | (exact cs_lt q12 (cs_lt q4 q2); done) | (exact two_not (snd_chok q4 (sendOkB h2)) q12 h3 q13; done)
abbrev Zcq.S := Classical.choose Zcq.X
def Zcq.c : Ctr := fc 14 [false, false] Zcq.L Zcq Zcq.S
theorem Zcq.good : Good Try.prog Zcq.c := mkFG (fn := Try.f14) {} Zcq.X (consG Zcl.good (consG Zck.good (consG Zcj.good (consG ZbT.good (consG Zbf.good (consG Zbg.good noG)))))) (by kernel_rfl) (by kernel_rfl) (l0 (by kernel_rfl)) (c0 (by kernel_rfl)) fun s K => by kernel_rfl
end
end Hw
end Go.Proofs.Ytceihgojdnkfiaa
