/- Laws of what is sent, 2: made by gen.py. -/
import Derived.Test.YtceihgojdnkfiaaP4
import Derived.Test.YtceihgojdnkfiaaG2
set_option linter.unusedVariables false
set_option linter.unusedSimpArgs false
set_option maxRecDepth 100000
set_option maxHeartbeats 400000
namespace Go.Proofs.Ytceihgojdnkfiaa
namespace Hw
open Go
noncomputable section
attribute [local irreducible] evFn evBody wrap wxor
theorem st_send {c : Ch} {k f t s u : Int} (h : StOk c.st) (hp : PktOk (pkS c k f t s u)) : StOk (sndS c k f t s u) := by
  obtain ⟨a1, a2, a3, a4, a5, a6, a7, a8, a9⟩ := h
  have hq : (1 : Int) ≤ (c.st.sent.length : Int) + 1 ∧ (c.st.sent.length : Int) + 1 ≤ 8 := hp.1
  refine ⟨a1, a2, ?_, ?_, ?_, a6, fun j hj => ?_, a8, a9⟩
  · show (c.st.sent ++ [_]).length ≤ 8
    rw [List.length_append, List.length_singleton]
    omega
  · show (c.st.live ++ [true]).length = (c.st.sent ++ [_]).length
    simp only [List.length_append, List.length_singleton]
    omega
  · show (c.st.back ++ [false]).length = (c.st.sent ++ [_]).length
    simp only [List.length_append, List.length_singleton]
    omega
  · have hj : j < (c.st.sent ++ [pkS c k f t s u]).length := hj
    rw [List.length_append, List.length_singleton] at hj
    show PktOk ((c.st.sent ++ [pkS c k f t s u]).getD j zPkt) ∧ ((c.st.sent ++ [pkS c k f t s u]).getD j zPkt).seq = j + 1 ∧ ((c.st.live ++ [true]).getD j false = true → (c.st.back ++ [false]).getD j false = false) ∧ ((c.st.sent ++ [pkS c k f t s u]).getD j zPkt).ver ≤ c.st.ver
    rw [getD_app, getD_app, getD_app, a4, a5]
    split
    · exact a7 j (by assumption)
    · rw [if_pos (by omega), if_pos (by omega), if_pos (by omega)]
      refine ⟨hp, ?_, fun _ => rfl, Int.le_refl _⟩
      show (c.st.sent.length : Int) + 1 = j + 1
      omega
theorem parts_set {l : List Int} {f v : Int} (h : Parts l) (hf : 1 ≤ f ∧ f ≤ 3) (hv : 0 ≤ v ∧ v ≤ 30) : Parts (l.set (f - 1).toNat v) := by
  refine ⟨by rw [List.length_set]; exact h.1, fun k hk => ?_⟩
  rw [List.length_set] at hk
  rw [List.getD_eq_getElem?_getD, List.getElem?_set]
  split
  · rw [if_pos (by omega)]
    exact hv
  · rw [← List.getD_eq_getElem?_getD]
    exact h.2 k hk
theorem tot_set {l : List Int} {f v : Int} (h : l.length = 3) (hf : 1 ≤ f ∧ f ≤ 3) : tot (l.set (f - 1).toNat v) = tot l - l.getD (f - 1).toNat 0 + v := by
  obtain ⟨a, b, c, rfl⟩ : ∃ a b c, l = [a, b, c] := by
    match l, h with
    | [a, b, c], _ => exact ⟨a, b, c, rfl⟩
  have : f = 1 ∨ f = 2 ∨ f = 3 := by omega
  rcases this with rfl | rfl | rfl
  · show v + b + c = a + b + c - a + v
    omega
  · show a + v + c = a + b + c - b + v
    omega
  · show a + b + v = a + b + c - c + v
    omega
theorem away_ok {b : Bk} {k f s : Int} (h : MayAway b k f s) : BkOk (awayB b k f s) := by
  obtain ⟨hb, hk, hf, h0, hs⟩ := h
  obtain ⟨h1, h2, h3, h4, h5⟩ := hb
  have r1 := parts_at h1 hf
  have r2 := parts_at h2 hf
  unfold lstK at hs
  unfold awayB
  split at hs
  · rename_i g
    rw [if_pos g]
    refine ⟨parts_set h1 hf (by omega), h2, by show 0 ≤ b.locked + s; omega, ?_, h5⟩
    show tot (b.own.set (f - 1).toNat _) + (b.locked + s) = 30
    rw [tot_set h1.1 hf]
    omega
  · rename_i g
    rw [if_neg g]
    refine ⟨h1, parts_set h2 hf (by omega), h3, h4, ?_⟩
    show tot (b.notes.set (f - 1).toNat _) ≤ 30
    rw [tot_set h2.1 hf]
    omega
theorem send_ok {c : Ch} {k f t s u : Int} (ho : ChOk c) (hp : PktOk (pkS c k f t s u)) (hm : MayAway c.bank k f s) : ChOk (sndC c k f t s u) := by
  obtain ⟨h1, h2, h3, h4, h5, h6⟩ := ho
  exact ⟨h1, away_ok hm, st_send h3 hp, h4, h5, h6⟩
theorem take_app {α : Type} (l : List α) (x : α) (n : Nat) (h : n = l.length) : List.drop 0 (List.take n (l ++ [x])) = l := by
  subst h
  simp
theorem sendOkB {b : Bool} {p : Prop} (h : ¬(p ∨ ¬b = true)) : b = true := Classical.byContradiction fun g => h (.inr g)
theorem snd_rng {c r : Ch} {k f t s u n : Int} {b : Bool} (q : CsQ c k f t s u r n b) (h : b = true) : (0 ≤ (c.st.sent.length : Int) ∧ (c.st.sent.length : Int) ≤ (r.st.sent.length : Int)) ∧ (0 ≤ (c.st.sent.length : Int) ∧ (c.st.sent.length : Int) ≤ (r.st.live.length : Int)) ∧ (0 ≤ (c.st.sent.length : Int) ∧ (c.st.sent.length : Int) ≤ (r.st.back.length : Int)) := by
  have ho := (q.1.1 h).1.2.2.1
  have h4 := ho.2.2.2.1
  have h5 := ho.2.2.2.2.1
  rw [(q.2.1 h).1]
  show (_ ∧ _ ≤ (((c.st.sent ++ [_]).length : Nat) : Int)) ∧ (_ ∧ _ ≤ (((c.st.live ++ [true]).length : Nat) : Int)) ∧ (_ ∧ _ ≤ (((c.st.back ++ [false]).length : Nat) : Int))
  simp only [List.length_append, List.length_singleton]
  omega
theorem cutst_lt {s : St} {n : Nat} (h : s.lt) : (⟨s.way, s.ver, s.want, List.drop 0 (List.take n s.sent), List.drop 0 (List.take n s.live), List.drop 0 (List.take n s.back), s.got⟩ : St).lt := by
  obtain ⟨h1, h2, h3, h4⟩ := h
  refine ⟨?_, ?_, ?_, h4⟩
  · show (List.drop 0 (List.take n s.sent)).length ≤ _
    rw [List.drop_zero, List.length_take]
    omega
  · show (List.drop 0 (List.take n s.live)).length ≤ _
    rw [List.drop_zero, List.length_take]
    omega
  · show (List.drop 0 (List.take n s.back)).length ≤ _
    rw [List.drop_zero, List.length_take]
    omega
theorem send_fin {c r : Ch} {w : Bk} {k f t s u n x11 : Int} {b b9 x10 x13 x14 x16 x18 : Bool} (hl : c.lt) (q3 : CsQ c k f t s u r n b) (h : b = true) (q9 : AwayQ c.bank k f s w b9) (q10 : x10 = true ↔ r.bank = w) (e11 : -9223372036854775808 ≤ (c.st.sent.length : Int) + 1 ∧ (c.st.sent.length : Int) + 1 ≤ 9223372036854775807 → x11 = (c.st.sent.length : Int) + 1) (q13 : x13 = true ↔ HasP r.st ⟨n, k, f, t, s, u, c.st.ver⟩)
    (q14 : x14 = true ↔ (⟨r.st.way, r.st.ver, r.st.want, List.drop 0 (List.take (c.st.sent.length : Int).toNat r.st.sent), List.drop 0 (List.take (c.st.sent.length : Int).toNat r.st.live), List.drop 0 (List.take (c.st.sent.length : Int).toNat r.st.back), r.st.got⟩ : St) = c.st) (q16 : x16 = true ↔ r.knows = c.knows)
    (e18 : x18 = true ↔ (((((b9 = true ∧ x10 = true) ∧ n = x11) ∧ x13 = true) ∧ x14 = true) ∧ x16 = true) ∧ (r.past.length : Int) = (c.past.length : Int)) : (bif x18 then ZY.S r else false) = true := by
  obtain ⟨ho, hw, hp, hm⟩ := q3.1.1 h
  have hlr := cs_lt q3 hl
  obtain ⟨hr, hn⟩ := q3.2.1 h
  have h9 := q9.1.2 hm
  have hw9 := q9.2.1 h9
  have h3 := ho.2.2.1.2.2.1
  have e11 := e11 (by omega)
  have hok : ChOk r := by rw [hr]; exact send_ok ho hp hm
  have hc := (implChL hlr).2 hok
  have hL : c.st.live.length = c.st.sent.length := ho.2.2.1.2.2.2.1
  have hB : c.st.back.length = c.st.sent.length := ho.2.2.1.2.2.2.2.1
  have h18 : x18 = true := by
    refine e18.2 ⟨⟨⟨⟨⟨⟨h9, q10.2 ?_⟩, hn.trans e11.symm⟩, q13.2 ?_⟩, q14.2 ?_⟩, q16.2 ?_⟩, ?_⟩
    · rw [hr, hw9]
      rfl
    · refine ⟨hok.2.2.1, ?_, ?_, ?_⟩
      · rw [hr]
        show 1 ≤ n ∧ n ≤ (((c.st.sent ++ [_]).length : Nat) : Int)
        rw [List.length_append, List.length_singleton]
        omega
      · rw [hr]
        show (c.st.sent ++ [pkS c k f t s u]).getD (n - 1).toNat zPkt = _
        rw [show (n - 1).toNat = c.st.sent.length by omega, getD_app, if_neg (by omega), if_pos rfl]
        show (⟨(c.st.sent.length : Int) + 1, k, f, t, s, u, c.st.ver⟩ : Pkt) = _
        rw [hn]
      · rw [hr]
        show (c.st.live ++ [true]).getD (n - 1).toNat false = true
        rw [show (n - 1).toNat = c.st.live.length by omega, getD_app, if_neg (by omega), if_pos rfl]
    · rw [hr]
      refine st_ext rfl rfl rfl ?_ ?_ ?_ rfl
      · exact take_app _ _ _ (by omega)
      · exact take_app _ _ _ (by omega)
      · exact take_app _ _ _ (by omega)
    · rw [hr]
      rfl
    · rw [hr]
      rfl
  rw [h18, hc]
  rfl

def Zcp.L : FL := fCons (fC (cArr true kU8s)) (fNil)
def Zcp : List Int × Unit → FR (Bool) := fun (a0, ()) => ⟨(∀ k, 0 ≤ a0.getD k 0 ∧ a0.getD k 0 ≤ 255) ∧ True, fun X => And (Imp ((decide ((a0.length : Int) > 1048576)) = true) (X true)) (Imp ((decide ((a0.length : Int) > 1048576)) = false) (Call Zcl.X (a0, ()) fun x1 => Call Zck.X (x1.1, x1.2.1, x1.2.2.1, x1.2.2.2.1, x1.2.2.2.2.1, x1.2.2.2.2.2, ()) fun x2 => Call Zcj.X (x1.1, x1.2.1, x1.2.2.1, x1.2.2.2.1, x1.2.2.2.2.1, x1.2.2.2.2.2, ()) fun x3 => Lt (bif !((x3.2.2 : Bool) == x2.2.2) then true else x3.2.1 != x2.2.1) fun x4 => And (Imp (And (x4 = false) (True)) ((ZbT (x3.1, x2.1, ())).P)) (Lt ((ZbT.S (x3.1, x2.1, ()))) fun x5 => Lt (bif bif x4 then true else !x5 then true else !x3.2.2) fun x6 => And (Imp (x6 = true) (Lt (bif (x3.2.2 : Bool) == x2.2.2 then x3.2.1 == x2.2.1 else false) fun x7 => And (Imp (And (x7 = true) (True)) ((ZbT (x3.1, x2.1, ())).P)) (Lt ((ZbT.S (x3.1, x2.1, ()))) fun x8 => X (bif x7 then x8 else false)))) (Imp (x6 = false) (Call0 Zcg.X (x1.1.bank, x1.2.1, x1.2.2.1, x1.2.2.2.2.1, ()) fun x9 => And ((0 : Int) ≤ (x1.1.st.sent.length : Int) ∧ (x1.1.st.sent.length : Int) ≤ (x3.1.st.sent.length : Int)) (And ((0 : Int) ≤ (x1.1.st.sent.length : Int) ∧ (x1.1.st.sent.length : Int) ≤ (x3.1.st.live.length : Int)) (And ((0 : Int) ≤ (x1.1.st.sent.length : Int) ∧ (x1.1.st.sent.length : Int) ≤ (x3.1.st.back.length : Int)) (And (Imp (And (x9.2 = true) (True)) ((ZbS (x3.1.bank, x9.1, ())).P)) (Lt ((ZbS.S (x3.1.bank, x9.1, ()))) fun x10 => Lt (wrap ((x1.1.st.sent.length : Int) + 1)) fun x11 => Lt (bif bif x9.2 then x10 else false then x3.2.1 == x11 else false) fun x12 => Lt ((Zbf.S (x3.1.st, (⟨x3.2.1, x1.2.1, x1.2.2.1, x1.2.2.2.1, x1.2.2.2.2.1, x1.2.2.2.2.2, x1.1.st.ver⟩ : Pkt), ()))) fun x13 => And (Imp (And ((bif x12 then x13 else false) = true) (True)) ((Zbq ((⟨x3.1.st.way, x3.1.st.ver, x3.1.st.want, (x3.1.st.sent.take ((x1.1.st.sent.length : Int)).toNat).drop 0, (x3.1.st.live.take ((x1.1.st.sent.length : Int)).toNat).drop 0, (x3.1.st.back.take ((x1.1.st.sent.length : Int)).toNat).drop 0, x3.1.st.got⟩ : St), x1.1.st, ())).P)) (Lt ((Zbq.S ((⟨x3.1.st.way, x3.1.st.ver, x3.1.st.want, (x3.1.st.sent.take ((x1.1.st.sent.length : Int)).toNat).drop 0, (x3.1.st.live.take ((x1.1.st.sent.length : Int)).toNat).drop 0, (x3.1.st.back.take ((x1.1.st.sent.length : Int)).toNat).drop 0, x3.1.st.got⟩ : St), x1.1.st, ()))) fun x14 => Lt (bif bif x12 then x13 else false then x14 else false) fun x15 => And (Imp (And (x15 = true) (True)) ((Za (x3.1.knows, x1.1.knows, ())).P)) (Lt ((Za.S (x3.1.knows, x1.1.knows, ()))) fun x16 => Lt ((x3.1.past.length : Int) == (x1.1.past.length : Int)) fun x17 => Lt (bif bif x15 then x16 else false then x17 else false) fun x18 => X (bif x18 then (ZY.S x3.1) else false)))))))))))), fun r => (r = true) ∧ True, fun r => (.v (.c (.bool r)), [])⟩
theorem Zcp.X : XF Zcp := mkF (false) fun (a0, ()) hp => by
  obtain ⟨p0, -⟩ := hp
  dsimp only [Zcp]
  refine May.iff (B.dec) (fun h1 => ?_) (fun h1 => ?_)
  refine May.ret ⟨?_, trivial⟩; rotate_left 1
  refine May.call ⟨?_, trivial⟩ fun x1 q1 => have q1 := q1.1; May.call ⟨?_, trivial⟩ fun x2 q2 => have q2 := q2.1; May.call ⟨?_, trivial⟩ fun x3 q3 => have q3 := q3.1; May.lp (B.or (B.not (B.beq)) (B.ne)) fun x4 e4 => May.chk (fun hπ => have g1 := B.neg (e4) hπ.1; ⟨?_, trivial⟩) fun c1 => May.clq ⟨?_, trivial⟩ fun x5 q5 => have q5 := q5.1; May.lp (B.or (B.or (e4) (B.not (Iff.rfl))) (B.not (Iff.rfl))) fun x6 e6 => May.iff (e6) (fun h2 => ?_) (fun h2 => ?_); rotate_left 5
  refine May.lp (B.and (B.beq) (B.eq)) fun x7 e7 => May.chk (fun hπ => have g1 := Iff.mp (e7) hπ.1; ⟨?_, trivial⟩) fun c2 => May.clq ⟨?_, trivial⟩ fun x8 q8 => have q8 := q8.1; May.ret ⟨?_, trivial⟩; rotate_left 3
  refine May.call0 trivial fun x9 q9 => have q9 := q9.1; May.chk ?_ fun c3 => May.chk ?_ fun c4 => May.chk ?_ fun c5 => May.chk (fun hπ => have g1 := Iff.mp (Iff.rfl) hπ.1; ⟨?_, ?_, trivial⟩) fun c6 => May.clq ⟨?_, ?_, trivial⟩ fun x10 q10 => have q10 := q10.1; May.lwi fun x11 e11 => May.lp (B.and (B.and (Iff.rfl) (Iff.rfl)) (B.eq)) fun x12 e12 => ?_; rotate_left 7
  refine May.clq trivial fun x13 q13 => have q13 := q13.1; May.chk (fun hπ => have g1 := Iff.mp (B.and (e12) (Iff.rfl)) hπ.1; ⟨?_, trivial⟩) fun c7 => May.clq ⟨?_, trivial⟩ fun x14 q14 => have q14 := q14.1; May.lp (B.and (B.and (e12) (Iff.rfl)) (Iff.rfl)) fun x15 e15 => May.chk (fun hπ => have g1 := Iff.mp (e15) hπ.1; ⟨?_, trivial⟩) fun c8 => May.clq ⟨?_, trivial⟩ fun x16 q16 => have q16 := q16.1; May.lp (B.eq) fun x17 e17 => May.lp (B.and (B.and (e15) (Iff.rfl)) (e17)) fun x18 e18 => May.ret ⟨?_, trivial⟩
  all_goals try dsimp only
  all_goals first | with_reducible assumption | omega | (with_reducible rfl; done) | (exact cutst_lt (cs_lt q3 q1).2.1; done) | (exact (cs_lt q3 q1).2.2.2; done) | (exact cs_lt q3 q1; done) | (exact csB q2 q3 e7 q8; done) | (exact (snd_rng q3 (sendOkB h2)).1; done) | (exact (snd_rng q3 (sendOkB h2)).2.1; done) | (exact (snd_rng q3 (sendOkB h2)).2.2; done) | (exact (cs_lt q3 q1).1.1; done) | (exact (cs_lt q3 q1).1.2.1; done) | (exact send_fin q1 q3 (sendOkB h2) q9 q10 e11 q13 q14 q16 e18; done)
abbrev Zcp.S := Classical.choose Zcp.X
def Zcp.c : Ctr := fc 12 [false] Zcp.L Zcp Zcp.S
theorem Zcp.good : Good Try.prog Zcp.c := mkFG (fn := Try.f12) {} Zcp.X (consG Zcl.good (consG Zck.good (consG Zcj.good (consG ZbT.good (consG Zcg.good (consG ZbS.good (consG Zbf.good (consG Zbq.good (consG Za.good (consG ZY.good noG)))))))))) (by kernel_rfl) (by kernel_rfl) (l0 (by kernel_rfl)) (c0 (by kernel_rfl)) fun s K => by kernel_rfl
end
end Hw
end Go.Proofs.Ytceihgojdnkfiaa
