/- Packets that are settled, in laws: made by gen.py. -/
import Derived.Test.YtloicplgckomdaaQ3
import Derived.Test.YtloicplgckomdaaK6
import Derived.Test.YtloicplgckomdaaTB
set_option linter.unusedVariables false
set_option linter.unusedSimpArgs false
set_option maxRecDepth 100000
set_option maxHeartbeats 400000
namespace Go.Proofs.Ytloicplgckomdaa
namespace Hw
open Go
noncomputable section
attribute [local irreducible] evFn evBody wrap wxor
theorem bkE_ok {b r : Bk} {p : Pkt} (h : BkOk b) (q : BackE b p r) : BkOk r := by
  by_cases m : MayBack b p.kind p.frm p.sum
  · rw [q.1 m]
    exact bkback_ok m
  · rw [q.2 m]
    exact h
theorem st_set {s : St} {i : Int} {k : Bool} (h : StOk s) (hi : 1 ≤ i ∧ i ≤ (s.sent.length : Int)) : StOk ⟨s.way, s.ver, s.want, s.sent, s.live.set (i - 1).toNat false, (bif k then s.back.set (i - 1).toNat true else s.back), s.got⟩ := by
  obtain ⟨a1, a2, a3, a4, a5, a6, a7, a8, a9⟩ := h
  have hb : (bif k then s.back.set (i - 1).toNat true else s.back).length = s.sent.length := by
    cases k
    · exact a5
    · show (s.back.set _ _).length = _
      rw [List.length_set]
      exact a5
  refine ⟨a1, a2, a3, by simp only [List.length_set]; exact a4, hb, a6, fun j hj => ?_, a8, a9⟩
  have h7 := a7 j hj
  refine ⟨h7.1, h7.2.1, fun g => ?_, h7.2.2.2⟩
  have g : (s.live.set (i - 1).toNat false).getD j false = true := g
  rw [getD_set (by omega)] at g
  split at g
  · cases g
  · have := h7.2.2.1 g
    cases k
    · exact this
    · show (s.back.set (i - 1).toNat true).getD j false = false
      rw [getD_set (by omega), if_neg (by assumption)]
      exact this
theorem setE_ok {c r : Ch} {i : Int} {k : Bool} (h : ChOk c) (hi : 1 ≤ i ∧ i ≤ (c.st.sent.length : Int)) (q : SetE c i k r) : ChOk r ∧ r.knows = c.knows := by
  obtain ⟨b, h1, h2, h3⟩ := q
  have hb : BkOk b := by
    by_cases g : k = true
    · exact bkE_ok h.2.1 (h1 g)
    · rw [h2 g]
      exact h.2.1
  rw [h3]
  exact ⟨⟨h.1, hb, st_set h.2.2.1 hi, h.2.2.2⟩, rfl⟩
theorem rly_lt {ok may : Prop} {how : Ch → Prop} {c r : Ch} {t : Bool} (hh : ok → may → how r → ChOk r ∧ r.knows = c.knows) (q : RlyQ ok may how c r t) (h : c.lt) : r.lt := by
  by_cases g : t = true
  · obtain ⟨h1, h2⟩ := hh (q.1.1 g).1 (q.1.1 g).2 (q.2.1 g)
    exact ch_lt h1 (by rw [h2]; exact h.2.2.2)
  · by_cases g' : ok
    · rw [(q.2.2 g).1 g']
      exact h
    · rw [(q.2.2 g).2 g']
      exact zch_lt
theorem rt_lt {c r : Ch} {s : St} {i : Int} {t : Bool} (q : RtQ c s i r t) (h : c.lt) : r.lt := rly_lt (fun h1 h2 h3 => setE_ok h1.1 h2.1.1 h3) q h
theorem rl_lt {c r : Ch} {s : St} {n i : Int} {t : Bool} (q : RlQ c s n i r t) (h : c.lt) : r.lt := rly_lt (fun h1 h2 h3 => setE_ok h1.1.1 h2.1.1 h3) q h
theorem rtB {c r r' : Ch} {s : St} {i : Int} {b b' x : Bool} (q : RtQ c s i r b) (q' : RtQ c s i r' b') (q6 : x = true ↔ r' = r) : (bif b' == b then x else false) = true := by
  obtain ⟨h1, h2⟩ := rly_same (fun x y h h' => setE_same h h') q' q
  rw [h1, q6.2 h2]
  simp
theorem rlB {c r r' : Ch} {s : St} {n i : Int} {b b' x : Bool} (q : RlQ c s n i r b) (q' : RlQ c s n i r' b') (q6 : x = true ↔ r' = r) : (bif b' == b then x else false) = true := by
  obtain ⟨h1, h2⟩ := rly_same (fun x y h h' => setE_same h h') q' q
  rw [h1, q6.2 h2]
  simp
theorem stl_one {s : St} {i x : Int} (h : StOk s) (q : StlQ s i x) : x = 1 ↔ Mine0 s i := by
  rw [← stl_mine h]
  exact ⟨fun g => by rw [← g]; exact q, fun g => stlQ_eq q g⟩
theorem mine_rng {s : St} {i : Int} (h : StOk s) (m : Mine0 s i) : 1 ≤ i ∧ i ≤ (s.sent.length : Int) ∧ i ≤ 8 ∧ i ≤ (s.live.length : Int) ∧ i ≤ (s.back.length : Int) := by
  have h1 := m.1
  have h2 := stL h
  omega
theorem got_0 {s : St} {i y v : Int} (h : StOk s) (hi : 1 ≤ i ∧ i ≤ 8) (q : GotQ s i y) : y = v ↔ s.got.getD (i - 1).toNat 0 = v := by rw [← q.1 h hi.1 hi.2]
theorem set_stl {c r : Ch} {i x : Int} {k : Bool} (h : ChOk c) (hm : Mine0 c.st i) (q : SetE c i k r) (q5 : StlQ r.st i x) : x = (bif k then 3 else 2) := by
  have ho := (setE_ok h hm.1 q).1.2.2.1
  have hr := mine_rng h.2.2.1 hm
  have h7 := stK h.2.2.1 (i := i - 1) (by omega) (by omega)
  obtain ⟨b, h1, h2, h3⟩ := q
  have e := q5.1 ho hr.1 (by rw [h3]; exact hr.2.1)
  rw [e, h3]
  show (if (c.st.live.set (i - 1).toNat false).getD (i - 1).toNat false = true then 1 else if (bif k then c.st.back.set (i - 1).toNat true else c.st.back).getD (i - 1).toNat false = true then 3 else 2) = _
  rw [getD_set (by omega), if_pos rfl, if_neg (by simp)]
  cases k
  · show (if c.st.back.getD (i - 1).toNat false = true then 3 else 2) = 2
    rw [if_neg]
    rw [h7.2.2.1 hm.2]
    simp
  · show (if (c.st.back.set (i - 1).toNat true).getD (i - 1).toNat false = true then 3 else 2) = 3
    rw [getD_set (by omega), if_pos rfl, if_pos rfl]

end
end Hw
end Go.Proofs.Ytloicplgckomdaa
