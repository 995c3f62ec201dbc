/- What a law writes over chains that it was handed: the walk. -/
import Derived.Shelf.Abstract
import Derived.RangeFuncBox
import Derived.WalkKit
import Derived.OwnWalkIn
import Derived.TacticsInMore
import Derived.LoopNIn
import Derived.LoopIn
import Derived.Test.YtfboldbfbmmahaaProg
import Derived.Test.YtfboldbfbmmahaaXM
namespace Go.Proofs.Ytfboldbfbmmahaa
namespace Hw
open Go Go.RowKit
attribute [local go_sem] Oper.semAt_some
set_option maxRecDepth 100000
set_option linter.unusedVariables false
set_option linter.unusedSimpArgs false
set_option maxHeartbeats 10000000
def chN (c : Ch) : Nat := 5 + c.bank.own.length + c.bank.notes.length + 7 * c.st.sent.length + c.st.live.length + c.st.back.length + c.st.got.length + stsN c.past c.past.length + c.knows.length
def chsN (l : List Ch) : Nat → Nat
  | 0 => 0
  | k + 1 => chsN l k + chN (l.getD k zCh)
def ChW (W : World) (R : Nat → Prop) (c : Ch) (j : Nat) (u : Value) : Prop := match j with
  | 1 => IntsW W R c.bank.own.length u
  | 2 => IntsW W R c.bank.notes.length u
  | 7 => PktsW W R c.st.sent.length u
  | 8 => BoolsW W R c.st.live.length u
  | 9 => BoolsW W R c.st.back.length u
  | 10 => IntsW W R c.st.got.length u
  | 11 => StsW W R c.past u
  | 12 => IntsW W R c.knows.length u
  | _ => isI u
theorem ChW.mk {W W' : World} {R R' : Nat → Prop} (k : Mk R' W W') {s : Ch} {j : Nat} {u v : Value} (hl : like u v) (h : ChW W R s j u) : ChW W' R s j v := by
  unfold ChW at h ⊢
  split at h
  · exact row_like k (fun _ _ _ _ a b => b.like a) h hl
  · exact row_like k (fun _ _ _ _ a b => b.like a) h hl
  · exact row_like k (fun _ _ _ _ a b => b.like a) h hl
  · exact row_like k (fun _ _ _ _ a b => b.like a) h hl
  · exact row_like k (fun _ _ _ _ a b => b.like a) h hl
  · exact row_like k (fun _ _ _ _ a b => b.like a) h hl
  · exact row_like k (fun _ _ _ _ a b => b.mk k a) h hl
  · exact row_like k (fun _ _ _ _ a b => b.like a) h hl
  · exact h.like hl
def ChsW (W : World) (R : Nat → Prop) (l : List Ch) (v : Value) : Prop := RowW W R v l.length 13 fun k j u => ChW W R (l.getD k zCh) j u
theorem ChsW.mk {W W' : World} {R R' : Nat → Prop} (k : Mk R' W W') {l : List Ch} {v : Value} (h : ChsW W R l v) : ChsW W' R l v := RowW.mk k (fun _ _ _ _ a b => b.mk k a) h
theorem chsN_le {l : List Ch} {a b : Nat} (h : a ≤ b) : chsN l a ≤ chsN l b := by
  induction b with
  | zero => rw [show a = 0 by omega]; exact Nat.le_refl _
  | succ b ih =>
    rcases Nat.lt_or_ge a (b + 1) with g | g
    · exact Nat.le_trans (ih (by omega)) (Nat.le_add_right _ _)
    · rw [show a = b + 1 by omega]; exact Nat.le_refl _
theorem markChs_in (F : Fence) (n : Nat) (hf : F.fn 57) (ht : F.fn 75) (hp : F.fn 73) (hb : F.fn 74) (hi : F.fn 25) (hro : F.round = none) (hn : 2 ≤ n) (R : Nat → Prop) (l : List Ch) (v : Value) (k : Int) (W : World) (hu : UnfR R W) (hv : ChsW W R l v) (h0 : 0 ≤ k) (hk : k + (chsN l l.length : Int) ≤ 1000000000000) (hs : ∀ j, j < l.length → (l.getD j zCh).st.sent.length ≤ 4294967296 ∧ ∀ i, i < (l.getD j zCh).past.length → ((l.getD j zCh).past.getD i zSt).sent.length ≤ 4294967296) :
    CallsIn F n Try.prog 57 #[v, .int .i64 k] W fun e W' => e = .returned (.int .i64 (k + chsN l l.length)) ∧ Mk R W W' := by
  have h1n : 1 ≤ n := by omega
  obtain ⟨A, c, rfl, hl, hrow⟩ := id hv
  refine callsIn_of_wp Try.func57 rfl hf ?_ hro
  simp only [Try.ntmps57, List.size_toArray, List.length_cons, List.length_nil, Nat.reduceAdd, Nat.reduceSub, Array.replicate_succ, Array.replicate_zero, List.push_toArray, List.append_toArray, List.nil_append, List.cons_append]
  gi_wp2
  gi_loopw [1, 5] (fun kk i wr => ∃ j : Nat, j ≤ l.length ∧ kk = .int .i64 (k + chsN l j) ∧ i = .int .i64 j ∧ Mk R W wr)
    (fun _ i _ => l.length - (intOf i).toNat)
  case atStart => exact ⟨0, Nat.zero_le _, by simp [chsN], rfl, Mk.refl _ _⟩
  case round =>
    obtain ⟨j, hj, rfl, rfl, hm⟩ := hrel
    by_cases hlt : j < l.length
    · obtain ⟨b, off, rfl, hR, -⟩ := hrow (by omega)
      have hle : chsN l j + chN (l.getD j zCh) ≤ chsN l l.length := chsN_le (l := l) (a := j + 1) (by omega)
      have hsj := hs j hlt
      obtain ⟨s, es⟩ : ∃ s, l.getD j zCh = s := ⟨_, rfl⟩
      have e1 : chsN l (j + 1) = chsN l j + chN s := by rw [← es]; rfl
      rw [es] at hle hsj
      have hst : chN s = 5 + s.bank.own.length + s.bank.notes.length + 7 * s.st.sent.length + s.st.live.length + s.st.back.length + s.st.got.length + stsN s.past s.past.length + s.knows.length := rfl
      obtain ⟨hs1, hs2⟩ := hsj
      have at_ : ∀ {x : World}, Mk R W x → ∀ i, i < 13 → ∃ u, x.cell? ⟨b, off + j * 13 + i, none⟩ = some u ∧ ChW x R s i u := fun {x} hx i hi => by
        obtain ⟨A', c', e, -, h2⟩ := hv.mk hx
        cases e
        obtain ⟨b', off', e, -, h3⟩ := h2 (by omega)
        cases e
        have h4 := h3 j hlt i hi
        rw [← Nat.add_assoc] at h4
        rw [← es]
        exact h4
      have hz : ∀ {x : World}, Mk R W x → ∀ o, x.frozen? ⟨b, o, none⟩ = false := fun hx o => (hu.mk hx).at hR
      clear hrow
      obtain ⟨_, c0, y0, rfl⟩ := at_ hm 0 (by decide)
      obtain ⟨u1, c1, s1⟩ := at_ hm 1 (by decide)
      have z0 := hz hm (off + j * 13)
      have c0 : wr.cell? ⟨b, off + j * 13, none⟩ = some (.int .i64 y0) := c0
      have q0 : Mk R wr _ := (Mk.refl R wr).put (m := k + chsN l j) hR c0
      have m0 := hm.trans q0
      have s1 : IntsW _ R s.bank.own.length u1 := ChW.mk q0 (.inl rfl) s1
      gi_wp2
      refine (markInts_in F (n - 1) hi hro R (s.bank.own.length) u1 _ _ (hu.mk m0) s1 (by omega) (by omega)).mono ?_
      rintro e w1 ⟨rfl, q1, -⟩
      have m1 := m0.trans q1
      clear c0 c1 s1 z0 q0 q1 m0
      obtain ⟨u2, c2, s2⟩ := at_ m1 2 (by decide)
      have s2 : IntsW _ R s.bank.notes.length u2 := s2
      gi_wp2
      refine (markInts_in F (n - 1) hi hro R (s.bank.notes.length) u2 _ _ (hu.mk m1) s2 (by omega) (by omega)).mono ?_
      rintro e w2 ⟨rfl, q2, -⟩
      have m2 := m1.trans q2
      clear c2 s2 q2 m1
      obtain ⟨_, c3, y3, rfl⟩ := at_ m2 3 (by decide)
      obtain ⟨_, c4, y4, rfl⟩ := at_ m2 4 (by decide)
      obtain ⟨_, c5, y5, rfl⟩ := at_ m2 5 (by decide)
      obtain ⟨_, c6, y6, rfl⟩ := at_ m2 6 (by decide)
      obtain ⟨u7, c7, s7⟩ := at_ m2 7 (by decide)
      have z3 := hz m2 (off + j * 13 + 3)
      have z4 := hz m2 (off + j * 13 + 4)
      have z5 := hz m2 (off + j * 13 + 5)
      have z6 := hz m2 (off + j * 13 + 6)
      have d3 : w2.cell? ⟨b, off + j * 13 + 1 + 2, none⟩ = some (.int .i64 y3) := c3
      have d5 : w2.cell? ⟨b, off + j * 13 + 4 + 1, none⟩ = some (.int .i64 y5) := c5
      have d6 : w2.cell? ⟨b, off + j * 13 + 4 + 2, none⟩ = some (.int .i64 y6) := c6
      have q3 : Mk R w2 _ := ((((Mk.refl R w2).put (m := k + (chsN l j : Int) + 1 + (s.bank.own.length : Int) + (s.bank.notes.length : Int)) hR d3).put (m := k + (chsN l j : Int) + 1 + (s.bank.own.length : Int) + (s.bank.notes.length : Int) + 1) hR c4).put (m := k + (chsN l j : Int) + 1 + (s.bank.own.length : Int) + (s.bank.notes.length : Int) + 1 + 1) hR d5).put (m := k + (chsN l j : Int) + 1 + (s.bank.own.length : Int) + (s.bank.notes.length : Int) + 1 + 1 + 1) hR d6
      clear d3 d5 d6
      have m3 := m2.trans q3
      have s7 : PktsW _ R s.st.sent.length u7 := ChW.mk q3 (.inl rfl) s7
      gi_wp2
      refine (markPkts_in F (n - 1) hp hro R (s.st.sent.length) u7 _ _ (hu.mk m3) s7 (by omega) (by omega) (by omega)).mono ?_
      rintro e w3 ⟨rfl, q4⟩
      have m4 := m3.trans q4
      clear c3 c4 c5 c6 c7 s7 z3 z4 z5 z6 q3 q4 m3 m2
      obtain ⟨u8, c8, s8⟩ := at_ m4 8 (by decide)
      have s8 : BoolsW _ R s.st.live.length u8 := s8
      gi_wp2
      refine (markBools_in F (n - 1) hb hro R (s.st.live.length) u8 _ _ (hu.mk m4) s8 (by omega) (by omega)).mono ?_
      rintro e w4 ⟨rfl, q5⟩
      have m5 := m4.trans q5
      clear c8 s8 q5 m4
      obtain ⟨u9, c9, s9⟩ := at_ m5 9 (by decide)
      have s9 : BoolsW _ R s.st.back.length u9 := s9
      gi_wp2
      refine (markBools_in F (n - 1) hb hro R (s.st.back.length) u9 _ _ (hu.mk m5) s9 (by omega) (by omega)).mono ?_
      rintro e w5 ⟨rfl, q6⟩
      have m6 := m5.trans q6
      clear c9 s9 q6 m5
      obtain ⟨u10, c10, s10⟩ := at_ m6 10 (by decide)
      have s10 : IntsW _ R s.st.got.length u10 := s10
      gi_wp2
      refine (markInts_in F (n - 1) hi hro R (s.st.got.length) u10 _ _ (hu.mk m6) s10 (by omega) (by omega)).mono ?_
      rintro e w6 ⟨rfl, q7, -⟩
      have m7 := m6.trans q7
      clear c10 s10 q7 m6
      obtain ⟨u11, c11, s11⟩ := at_ m7 11 (by decide)
      have s11 : StsW _ R s.past u11 := s11
      gi_wp2
      refine (markSts_in F (n - 1) ht hp hb hi hro (by omega) R s.past u11 _ _ (hu.mk m7) s11 (by omega) (by omega) hs2).mono ?_
      rintro e w7 ⟨rfl, q8⟩
      have m8 := m7.trans q8
      clear c11 s11 q8 m7
      obtain ⟨u12, c12, s12⟩ := at_ m8 12 (by decide)
      have s12 : IntsW _ R s.knows.length u12 := s12
      gi_wp2
      refine (markInts_in F (n - 1) hi hro R (s.knows.length) u12 _ _ (hu.mk m8) s12 (by omega) (by omega)).mono ?_
      rintro e w8 ⟨rfl, q9, -⟩
      have m9 := m8.trans q9
      clear c12 s12 q9 m8
      gi_wp2
      go_roundw
      case rel =>
        refine ⟨j + 1, by omega, ?_, ?_, m9⟩
        · rw [e1]
          congr 1
          omega
        · rw [show (j : Int) + 1 = ((j + 1 : Nat) : Int) by omega]
      case measure => simp [intOf]; omega
    · obtain rfl : j = l.length := by omega
      gi_wp2
      go_ret
      exact ⟨rfl, hm⟩
theorem markWorld_in (F : Fence) (n : Nat) (hw : F.fn 24) (hf : F.fn 57) (ht : F.fn 75) (hp : F.fn 73) (hb : F.fn 74) (hi : F.fn 25) (hro : F.round = none) (hn : 3 ≤ n) (R : Nat → Prop) (l : List Ch) (v : Value) (k : Int) (W : World) (hu : UnfR R W) (hv : ChsW W R l v) (h0 : 0 ≤ k) (hk : k + (chsN l l.length : Int) ≤ 1000000000000) (hs : ∀ j, j < l.length → (l.getD j zCh).st.sent.length ≤ 4294967296 ∧ ∀ i, i < (l.getD j zCh).past.length → ((l.getD j zCh).past.getD i zSt).sent.length ≤ 4294967296) :
    CallsIn F n Try.prog 24 #[.agg #[v], .int .i64 k] W fun e W' => e = .returned (.int .i64 (k + chsN l l.length)) ∧ Mk R W W' := by
  have h1n : 1 ≤ n := by omega
  refine callsIn_of_wp Try.func24 rfl hw ?_ hro
  simp only [Try.ntmps24, List.size_toArray, List.length_cons, List.length_nil, Nat.reduceAdd, Nat.reduceSub, Array.replicate_succ, Array.replicate_zero, List.push_toArray, List.append_toArray, List.nil_append, List.cons_append]
  gi_wp2
  have q0 : Mk R W (W.alloc (.cells #[v] 29)) := Mk.alloc W rfl
  refine (markChs_in F (n - 1) hf ht hp hb hi hro (by omega) R l v k _ (hu.mk q0) (hv.mk q0) h0 hk hs).mono ?_
  rintro e w1 ⟨rfl, q1⟩
  have m1 := q0.trans q1
  gi_wp2
  go_ret
  exact ⟨rfl, m1⟩
end Hw
end Go.Proofs.Ytfboldbfbmmahaa
