/- Packets that come, in laws: made by gen.py. -/
import Derived.Test.YtloicplgckomdaaQ1
import Derived.Test.YtloicplgckomdaaRB
import Derived.Test.YtloicplgckomdaaK6
import Derived.Test.YtloicplgckomdaaTB
set_option linter.unusedVariables false
set_option linter.unusedSimpArgs false
set_option maxRecDepth 100000
set_option maxHeartbeats 400000
namespace Go.Proofs.Ytloicplgckomdaa
namespace Hw
open Go
noncomputable section
attribute [local irreducible] evFn evBody wrap wxor
abbrev AllQ (b : Bk) (x y : Int) : Prop := (BkOk b → x = tot b.own + b.locked ∧ y = tot b.notes) ∧ (¬ BkOk b → x = -1 ∧ y = -1)
theorem st_got {s : St} {i g : Int} (h : StOk s) (hg : 0 ≤ g ∧ g ≤ 2) (hi : 1 ≤ i ∧ i ≤ 8) : StOk ⟨s.way, s.ver, s.want, s.sent, s.live, s.back, s.got.set (i - 1).toNat g⟩ := by
  obtain ⟨a1, a2, a3, a4, a5, a6, a7, a8, a9⟩ := h
  refine ⟨a1, a2, a3, a4, a5, by simp only [List.length_set]; exact a6, a7, fun k hk => ?_, a9⟩
  simp only [List.length_set] at hk ⊢
  rw [getD_set (by omega)]
  split
  · exact hg
  · exact a8 k hk
theorem pay_ok {b r : Bk} {p : Pkt} {g : Int} (h : BkOk b) (q : PayL b p r g) : BkOk r ∧ (g = 1 ∨ g = 2) := by
  by_cases m : PayOk b p
  · rw [(q.1 m).1, (q.1 m).2]
    exact ⟨bkback_ok m.2, .inl rfl⟩
  · rw [(q.2 m).1, (q.2 m).2]
    exact ⟨h, .inr rfl⟩
theorem rg_may {c r : Ch} {s : St} {p : Pkt} {t : Bool} (q : RgQ c s p r t) (h : t = true) : (ChOk c ∧ StOk s ∧ PktOk p) ∧ MayG c s p ∧ ∃ b g, PayL c.bank p b g ∧ r = gotC c b p.seq g ∧ (g = 1 ∨ g = 2) ∧ ChOk r := by
  obtain ⟨h1, h2⟩ := q.1.1 h
  obtain ⟨b, g, h3, h4⟩ := q.2.1 h
  have h5 := pay_ok h1.1.2.1 h3
  refine ⟨h1, h2, b, g, h3, h4, h5.2, ?_⟩
  rw [h4]
  exact ⟨h1.1.1, h5.1, st_got h1.1.2.2.1 (by omega) h1.2.2.1, h1.1.2.2.2⟩
theorem rg_lt {c r : Ch} {s : St} {p : Pkt} {t : Bool} (q : RgQ c s p r t) (h : c.lt) : r.lt := by
  by_cases g : t = true
  · obtain ⟨h1, h2, b, x, h3, h4, h5, h6⟩ := rg_may q g
    refine ch_lt h6 ?_
    rw [h4]
    exact h.2.2.2
  · by_cases g' : ChOk c ∧ StOk s ∧ PktOk p
    · rw [(q.2.2 g).1 g']
      exact h
    · rw [(q.2.2 g).2 g']
      exact zch_lt'
theorem rgB {c r r' : Ch} {s : St} {p : Pkt} {b b' x : Bool} (q : RgQ c s p r b) (q' : RgQ c s p r' b') (q6 : x = true ↔ r' = r) : (bif b' == b then x else false) = true := by
  obtain ⟨h1, h2⟩ := rg_same q' q
  rw [h1, q6.2 h2]
  simp
theorem gotQ_0 {s : St} {n x y : Int} (h : StOk s) (hn : 1 ≤ n ∧ n ≤ 8) (q : GotQ s n x) : x = y ↔ s.got.getD (n - 1).toNat 0 = y := by rw [← q.1 h hn.1 hn.2]
theorem got_at {s : St} {n g : Int} (h : StOk s) (hn : 1 ≤ n ∧ n ≤ 8) : (s.got.set (n - 1).toNat g).getD (n - 1).toNat 0 = g := by
  have := h.2.2.2.2.2.1
  rw [getD_set (by omega), if_pos rfl]
theorem rg_got {c r : Ch} {s : St} {p : Pkt} {t : Bool} {x : Int} (q : RgQ c s p r t) (h : t = true) (q9 : GotQ r.st p.seq x) : ∃ b, PayL c.bank p b x ∧ r.bank = b := by
  obtain ⟨h1, h2, b, g, h3, h4, h5, h6⟩ := rg_may q h
  have e := (gotQ_0 (y := g) h6.2.2.1 h1.2.2.1 q9).2 (by rw [h4]; exact got_at h1.1.2.2.1 h1.2.2.1)
  subst e
  exact ⟨b, h3, by rw [h4]; rfl⟩
theorem t_ok {c : Ch} {s : St} {p : Pkt} {u : Prop} (hl : c.lt) (h : ¬(((u ∨ ¬ZV.S c = true) ∨ ¬StOk s) ∨ ¬PktOk p)) : ChOk c ∧ StOk s ∧ PktOk p := ⟨(specChL hl).1 (nn fun g => h (.inl (.inl (.inr g)))), nn fun g => h (.inl (.inr g)), nn fun g => h (.inr g)⟩
theorem rg_seq {c r : Ch} {s : St} {p : Pkt} {t : Bool} (q3 : RgQ c s p r t) (h : t = true) : 1 ≤ p.seq ∧ p.seq ≤ 8 ∧ r.st.got.length = 8 := by
  obtain ⟨h1, h2, b, g, h3, h4, h5, h6⟩ := rg_may q3 h
  exact ⟨h1.2.2.1.1, h1.2.2.1.2, h6.2.2.1.2.2.2.2.2.1⟩

end
end Hw
end Go.Proofs.Ytloicplgckomdaa
