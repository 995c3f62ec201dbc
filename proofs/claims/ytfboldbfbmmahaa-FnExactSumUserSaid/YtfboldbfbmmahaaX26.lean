/- What worlds of the laws' own types read as. -/
import Derived.Test.YtfboldbfbmmahaaX25
set_option linter.unusedVariables false
set_option linter.unusedSimpArgs false
set_option maxRecDepth 100000
namespace Go.Proofs.Ytfboldbfbmmahaa
namespace Hw
open Go
section
variable {H : Type} {enc : TypeId × Value → H} {w : World} {base : Nat} {spare : Nat → Bool} {held : Bool} {fuel : Nat} {t : TypeId} {cs : List Value} {x : DataW H × List MemPlace}
theorem rd_lpkt (d : Nat) (h : DataW.trod enc Try.prog w base spare held fuel 147 cs = some x) : ∃ p, elRel w d (pktCells p) cs := by
  obtain ⟨fs, hu, hf⟩ := isStr_of (t := 147) (L := [(3, 0, 1), (3, 1, 1), (3, 2, 1), (3, 3, 1), (3, 4, 1), (3, 5, 1), (3, 6, 1)]) (by kernel_rfl)
  obtain ⟨hl, hx⟩ := rd_struct hu hf h
  have hc : Try.prog.cellsOf 147 = 7 := by kernel_rfl
  obtain ⟨_, _, e0⟩ := hx 0 _ _ _ rfl
  obtain ⟨_, _, e1⟩ := hx 1 _ _ _ rfl
  obtain ⟨_, _, e2⟩ := hx 2 _ _ _ rfl
  obtain ⟨_, _, e3⟩ := hx 3 _ _ _ rfl
  obtain ⟨_, _, e4⟩ := hx 4 _ _ _ rfl
  obtain ⟨_, _, e5⟩ := hx 5 _ _ _ rfl
  obtain ⟨_, _, e6⟩ := hx 6 _ _ _ rfl
  obtain ⟨n0, r0⟩ := rd_int (d := d) i64U e0
  obtain ⟨n1, r1⟩ := rd_int (d := d) i64U e1
  obtain ⟨n2, r2⟩ := rd_int (d := d) i64U e2
  obtain ⟨n3, r3⟩ := rd_int (d := d) i64U e3
  obtain ⟨n4, r4⟩ := rd_int (d := d) i64U e4
  obtain ⟨n5, r5⟩ := rd_int (d := d) i64U e5
  obtain ⟨n6, r6⟩ := rd_int (d := d) i64U e6
  exact ⟨⟨n0, n1, n2, n3, n4, n5, n6⟩, elRel_step (o := 0) (n := 1) rfl r0 (elRel_step (n := 1) rfl r1 (elRel_step (n := 1) rfl r2 (elRel_step (n := 1) rfl r3 (elRel_step (n := 1) rfl r4 (elRel_step (n := 1) rfl r5 (elRel_step (n := 1) rfl r6 (elRel_end (by rw [hl, hc]; decide))))))))⟩
theorem lpktsU : Try.prog.underlying 89 = some (.slice 147) := by kernel_rfl
theorem rd_lpkts (d : Nat) (h : DataW.trod enc Try.prog w base spare held fuel 89 cs = some x) : ∃ v l, cs = [v] ∧ arrR w (inW w) (d + 1) (.pkts l) v :=
  rd_slice0 kPkts .pkt zPkt (fun _ => rfl) (fun _ _ => rfl) lpktsU (fun _ => by kernel_rfl) (pos_of (n := 7) (by decide) (by kernel_rfl)) (fun _ _ _ h => rd_lpkt d h) h
theorem elRel_eq {d : Nat} {A : List Cell} {xs ys : List Value} (e : xs = ys) (h : elRel w d A ys) : elRel w d A xs := e ▸ h
theorem rd_lst (d : Nat) (h : DataW.trod enc Try.prog w base spare held fuel 91 cs = some x) : ∃ s, elRel w (d + 1) (stCells true s) cs := by
  obtain ⟨fs, hu, hf⟩ := isStr_of (t := 91) (L := [(3, 0, 1), (3, 1, 1), (3, 2, 1), (89, 3, 1), (43, 4, 1), (43, 5, 1), (37, 6, 1)]) (by kernel_rfl)
  obtain ⟨hl, hx⟩ := rd_struct hu hf h
  have hc : Try.prog.cellsOf 91 = 7 := by kernel_rfl
  obtain ⟨_, _, e0⟩ := hx 0 _ _ _ rfl
  obtain ⟨_, _, e1⟩ := hx 1 _ _ _ rfl
  obtain ⟨_, _, e2⟩ := hx 2 _ _ _ rfl
  obtain ⟨_, _, e3⟩ := hx 3 _ _ _ rfl
  obtain ⟨_, _, e4⟩ := hx 4 _ _ _ rfl
  obtain ⟨_, _, e5⟩ := hx 5 _ _ _ rfl
  obtain ⟨_, _, e6⟩ := hx 6 _ _ _ rfl
  obtain ⟨n0, r0⟩ := rd_int (d := d + 1) i64U e0
  obtain ⟨n1, r1⟩ := rd_int (d := d + 1) i64U e1
  obtain ⟨n2, r2⟩ := rd_int (d := d + 1) i64U e2
  obtain ⟨v3, l3, q3, r3⟩ := rd_lpkts d e3
  obtain ⟨v4, l4, q4, r4⟩ := rd_bools d e4
  obtain ⟨v5, l5, q5, r5⟩ := rd_bools d e5
  obtain ⟨v6, l6, q6, r6⟩ := rd_ints d e6
  exact ⟨⟨n0, n1, n2, l3, l4, l5, l6⟩, elRel_step (o := 0) (n := 1) rfl r0 (elRel_step (n := 1) rfl r1 (elRel_step (n := 1) rfl r2 (elRel_step (n := 1) rfl (elRel_eq q3 (elRel_arr r3)) (elRel_step (n := 1) rfl (elRel_eq q4 (elRel_arr r4)) (elRel_step (n := 1) rfl (elRel_eq q5 (elRel_arr r5)) (elRel_step (n := 1) rfl (elRel_eq q6 (elRel_arr r6)) (elRel_end (by rw [hl, hc]; decide))))))))⟩
theorem lstsU : Try.prog.underlying 92 = some (.slice 91) := by kernel_rfl
theorem rd_lsts (d : Nat) (h : DataW.trod enc Try.prog w base spare held fuel 92 cs = some x) : ∃ v l, cs = [v] ∧ arrR w (inW w) (d + 2) (.sts l) v :=
  rd_slice0 kSts .st zSt (fun _ => rfl) (fun _ _ => rfl) lstsU (fun _ => by kernel_rfl) (pos_of (n := 7) (by decide) (by kernel_rfl)) (fun _ _ _ h => rd_lst d h) h
theorem rd_lbk (d : Nat) (h : DataW.trod enc Try.prog w base spare held fuel 88 cs = some x) : ∃ s, elRel w (d + 1) (bkCells true s) cs ∧ inI s.locked := by
  obtain ⟨fs, hu, hf⟩ := isStr_of (t := 88) (L := [(37, 0, 1), (37, 1, 1), (3, 2, 1)]) (by kernel_rfl)
  obtain ⟨hl, hx⟩ := rd_struct hu hf h
  have hc : Try.prog.cellsOf 88 = 3 := by kernel_rfl
  obtain ⟨_, _, e0⟩ := hx 0 _ _ _ rfl
  obtain ⟨_, _, e1⟩ := hx 1 _ _ _ rfl
  obtain ⟨_, _, e2⟩ := hx 2 _ _ _ rfl
  obtain ⟨v0, l0, q0, r0⟩ := rd_ints d e0
  obtain ⟨v1, l1, q1, r1⟩ := rd_ints d e1
  obtain ⟨n2, r2, g2⟩ := rd_intR (d := d + 1) i64U e2
  refine ⟨⟨l0, l1, n2⟩, ?_, g2⟩
  exact elRel_step (o := 0) (n := 1) rfl (elRel_eq q0 (elRel_arr r0)) (elRel_step (n := 1) rfl (elRel_eq q1 (elRel_arr r1)) (elRel_step (n := 1) rfl r2 (elRel_end (by rw [hl, hc]; decide))))
theorem rd_lch (d : Nat) (h : DataW.trod enc Try.prog w base spare held fuel 94 cs = some x) : ∃ s, elRel w (d + 2) (chCells true s) cs ∧ inI s.bank.locked := by
  obtain ⟨fs, hu, hf⟩ := isStr_of (t := 94) (L := [(3, 0, 1), (88, 1, 3), (91, 4, 7), (92, 11, 1), (37, 12, 1)]) (by kernel_rfl)
  obtain ⟨hl, hx⟩ := rd_struct hu hf h
  have hc : Try.prog.cellsOf 94 = 13 := by kernel_rfl
  obtain ⟨_, _, e0⟩ := hx 0 _ _ _ rfl
  obtain ⟨_, _, e1⟩ := hx 1 _ _ _ rfl
  obtain ⟨_, _, e2⟩ := hx 2 _ _ _ rfl
  obtain ⟨_, _, e3⟩ := hx 3 _ _ _ rfl
  obtain ⟨_, _, e4⟩ := hx 4 _ _ _ rfl
  obtain ⟨n0, r0⟩ := rd_int (d := d + 2) i64U e0
  obtain ⟨b, r1, g1⟩ := rd_lbk (d + 1) e1
  obtain ⟨s, r2⟩ := rd_lst (d + 1) e2
  obtain ⟨v3, l3, q3, r3⟩ := rd_lsts d e3
  obtain ⟨v4, l4, q4, r4⟩ := rd_ints (d + 1) e4
  refine ⟨⟨n0, b, s, l3, l4⟩, ?_, g1⟩
  exact elRel_step (o := 0) (n := 1) rfl r0 (elRel_step (n := 3) rfl r1 (elRel_step (n := 7) rfl r2 (elRel_step (n := 1) rfl (elRel_eq q3 (elRel_arr r3)) (elRel_step (n := 1) rfl (elRel_eq q4 (elRel_arr r4)) (elRel_end (by rw [hl, hc]; decide))))))
theorem lchsU : Try.prog.underlying 22 = some (.slice 94) := by kernel_rfl
theorem rd_lchs (d : Nat) (h : DataW.trod enc Try.prog w base spare held fuel 22 cs = some x) : ∃ v l, cs = [v] ∧ arrR w (inW w) (d + 3) (.chs l) v ∧ ∀ k, k < l.length → inI (l.getD k zCh).bank.locked :=
  rd_slice kChs .ch zCh (fun _ => rfl) (fun _ _ => rfl) lchsU (fun _ => by kernel_rfl) (pos_of (n := 13) (by decide) (by kernel_rfl)) (fun _ _ _ h => rd_lch d h) h
theorem rd_lworld (h : DataW.trod enc Try.prog w base spare held fuel 24 cs = some x) : ∃ v l, cs = [v] ∧ arrR w (inW w) 4 (.chs l) v ∧ ∀ k, k < l.length → inI (l.getD k zCh).bank.locked := by
  obtain ⟨fs, hu, hf⟩ := isStr_of (t := 24) (L := [(22, 0, 1)]) (by kernel_rfl)
  obtain ⟨hl, hx⟩ := rd_struct hu hf h
  have hc : Try.prog.cellsOf 24 = 1 := by kernel_rfl
  obtain ⟨_, _, e0⟩ := hx 0 _ _ _ rfl
  obtain ⟨v, l, q, r, g⟩ := rd_lchs 1 e0
  refine ⟨v, l, ?_, r, g⟩
  rw [← q, List.drop_zero, List.take_of_length_le (by rw [hl, hc]; decide)]
theorem rd_lworldV {v : Value} {xs : Array Value} (hv : v = .agg xs) (h : DataW.trod enc Try.prog w base spare held fuel 24 v.cells.toList = some x) : ∃ l, fvR (C0 w) (.agg [.arr false (.chs l)]) v ∧ ∀ k, k < l.length → inI (l.getD k zCh).bank.locked := by
  subst hv
  obtain ⟨v, l, q, r, g⟩ := rd_lworld h
  refine ⟨l, ⟨xs, rfl, ?_, fun j y hj => ?_⟩, g⟩
  · have := congrArg List.length q
    simpa [Value.cells] using this
  · cases j with
    | zero =>
      simp only [List.getElem?_cons_zero, Option.some.injEq] at hj
      subst hj
      refine ⟨v, ?_, r⟩
      have : xs.toList[0]? = some v := by
        have q' : xs.toList = [v] := q
        rw [q']
        rfl
      simpa using this
    | succ j => simp at hj
end
end Hw
end Go.Proofs.Ytfboldbfbmmahaa
