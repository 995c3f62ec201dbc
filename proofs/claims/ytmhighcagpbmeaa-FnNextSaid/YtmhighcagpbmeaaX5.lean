/- The operations one by one. Part 3: elements out of cells; stores. -/
import Derived.Test.YtmhighcagpbmeaaX4
set_option linter.unusedVariables false
set_option linter.unusedSimpArgs false
namespace Go.Proofs.Ytmhighcagpbmeaa
namespace Hw
open Go

def Cell.plain : Cell → Prop
  | .int _ => True
  | .u8 _ => True
  | .bool _ => True
  | .nilS => True
  | .arr z _ => z = true
  | .fnv _ => True
  | .mk _ _ => True
  | _ => False
theorem last_plain {H : Hp} {x : Cell} (h : x.lasts H = true) : (x.last H).plain := by
  cases x <;> simp only [Cell.lasts] at h <;> simp only [Cell.last, Cell.plain]
  case own i sz e => cases hH : H i <;> rw [hH] at h <;> first | cases h | rfl
  case arr z a => exact h
  all_goals cases h
theorem nil_R (w : World) (S : Nat → Prop) (d : Nat) (k : EK) : arrR w S (d + 1) (.nil k) (.slice none 0 0) := by
  refine ⟨none, 0, ?_, ?_, ?_, fun j hj => ?_⟩
  · cases k <;> rfl
  · cases k <;> exact Nat.le_refl _
  · cases k <;> simp [Arr.nil, Arr.len, big]
  · cases k <;> simp [Arr.nil, Arr.len] at hj
section
variable {C : Cx} {x : Cell} {u : Value}
theorem asInts_R {l : List Int} (h : x.asInts = some l) (hp : x.plain) (hx : cellR C x u) : arrR C.w C.frz 3 (.ints l) u := by
  cases x with
  | arr z a => cases a <;> simp [Cell.asInts] at h; subst h; simp only [Cell.plain] at hp; subst hp; exact arrR_43 hx
  | nilS => simp [Cell.asInts] at h; subst h; simp only [cellR] at hx; subst hx; exact nil_R _ _ 2 .int
  | _ => simp [Cell.asInts] at h
theorem asBools_R {l : List Bool} (h : x.asBools = some l) (hp : x.plain) (hx : cellR C x u) : arrR C.w C.frz 3 (.bools l) u := by
  cases x with
  | arr z a => cases a <;> simp [Cell.asBools] at h; subst h; simp only [Cell.plain] at hp; subst hp; exact arrR_43 hx
  | nilS => simp [Cell.asBools] at h; subst h; simp only [cellR] at hx; subst hx; exact nil_R _ _ 2 .bool
  | _ => simp [Cell.asBools] at h
theorem asPkts_R {l : List Pkt} (h : x.asPkts = some l) (hp : x.plain) (hx : cellR C x u) : arrR C.w C.frz 3 (.pkts l) u := by
  cases x with
  | arr z a => cases a <;> simp [Cell.asPkts] at h; subst h; simp only [Cell.plain] at hp; subst hp; exact arrR_43 hx
  | nilS => simp [Cell.asPkts] at h; subst h; simp only [cellR] at hx; subst hx; exact nil_R _ _ 2 .pkt
  | _ => simp [Cell.asPkts] at h
theorem asSts_R {l : List St} (h : x.asSts = some l) (hp : x.plain) (hx : cellR C x u) : arrR C.w C.frz 3 (.sts l) u := by
  cases x with
  | arr z a => cases a <;> simp [Cell.asSts] at h; subst h; simp only [Cell.plain] at hp; subst hp; exact arrR_43 hx
  | nilS => simp [Cell.asSts] at h; subst h; simp only [cellR] at hx; subst hx; exact nil_R _ _ 2 .st
  | _ => simp [Cell.asSts] at h
end
def elR (C : Cx) (e : El) (us : List Value) : Prop := ∀ (j : Nat) (x : Cell), (e.cells true)[j]? = some x → ∃ u, us[j]? = some u ∧ elC (arrR C.w C.frz 3) x u
def allR (C : Cx) : List Cell → List Value → Prop
  | [], [] => True
  | x :: xs, u :: us => x.plain ∧ cellR C x u ∧ allR C xs us
  | _, _ => False
theorem allR_of {C : Cx} : ∀ {xs : List Cell} {us : List Value}, cellsR C xs us → (∀ x ∈ xs, x.plain) → allR C xs us
  | [], [], _, _ => trivial
  | [], u :: us, h, _ => by have := h.1; simp at this
  | x :: xs, [], h, _ => by have := h.1; simp at this
  | x :: xs, u :: us, h, hp => by
    obtain ⟨u', h1, h2⟩ := h.2 0 x rfl
    simp only [List.getElem?_cons_zero, Option.some.injEq] at h1
    subst h1
    exact ⟨hp x List.mem_cons_self, h2, allR_of ⟨by simpa using h.1, fun j y hj => by
      obtain ⟨v, h3, h4⟩ := h.2 (j + 1) y (by simpa using hj)
      exact ⟨v, by simpa using h3, h4⟩⟩ fun y hy => hp y (List.mem_cons_of_mem _ hy)⟩
def allE (C : Cx) : List Cell → List Value → Prop
  | [], _ => True
  | x :: xs, u :: us => elC (arrR C.w C.frz 3) x u ∧ allE C xs us
  | _ :: _, [] => False
theorem elR_of {C : Cx} {e : El} {us : List Value} (h : allE C (e.cells true) us) : elR C e us := by
  have key : ∀ (xs : List Cell) (us : List Value), allE C xs us → ∀ (j : Nat) (x : Cell), xs[j]? = some x → ∃ u, us[j]? = some u ∧ elC (arrR C.w C.frz 3) x u := by
    intro xs
    induction xs with
    | nil => intro us _ j x hj; simp at hj
    | cons y ys ih =>
      intro us h j x hj
      cases us with
      | nil => exact h.elim
      | cons u us =>
        cases j with
        | zero =>
          simp only [List.getElem?_cons_zero, Option.some.injEq] at hj
          subst hj
          exact ⟨u, rfl, h.1⟩
        | succ j => exact ih us h.2 j x (by simpa using hj)
  exact key _ _ h
theorem pktOf_R {C : Cx} {xs : List Cell} {us : List Value} {p : Pkt} (hx : allR C xs us) (h : pktOf xs = some p) : allE C (pktCells p) us := by
  unfold pktOf at h
  split at h
  · simp only [Option.some.injEq] at h
    subst h
    match us, hx with
    | [_, _, _, _, _, _, _], ⟨_, a, _, b, _, c, _, d, _, e, _, f, _, g, _⟩ => exact ⟨a, b, c, d, e, f, g, trivial⟩
  · cases h
theorem stOf_R {C : Cx} {xs : List Cell} {us : List Value} {p : St} (hx : allR C xs us) (h : stOf xs = some p) : allE C (stCells true p) us := by
  unfold stOf at h
  split at h
  · rename_i a b c x y z q
    simp only [Option.bind_eq_some_iff] at h
    obtain ⟨x', hx', y', hy', z', hz', q', hq', h⟩ := h
    simp only [Option.some.injEq] at h
    subst h
    match us, hx with
    | [_, _, _, _, _, _, _], ⟨_, a, _, b, _, c, p1, d, p2, e, p3, f, p4, g, _⟩ => exact ⟨a, b, c, asPkts_R hx' p1 d, asBools_R hy' p2 e, asBools_R hz' p3 f, asInts_R hq' p4 g, trivial⟩
  · cases h
theorem evOf_R {C : Cx} {xs : List Cell} {us : List Value} {p : Ev} (hx : allR C xs us) (h : evOf xs = some p) : allE C (evCells p) us := by
  unfold evOf at h
  split at h
  · rename_i a b c d e f g i j k l
    simp only [Option.bind_eq_some_iff] at h
    obtain ⟨q, hq, h⟩ := h
    simp only [Option.some.injEq] at h
    subst h
    match us, hx with
    | _ :: _ :: _ :: _ :: us, ⟨_, a, _, b, _, c, _, d, hr⟩ => exact ⟨a, b, c, d, pktOf_R hr hq⟩
  · cases h
theorem wsOf_R {C : Cx} {xs : List Cell} {us : List Value} {p : Ws} (hx : allR C xs us) (h : wsOf xs = some p) : allE C (wsCells p) us := by
  unfold wsOf at h
  split at h
  · simp only [Option.some.injEq] at h
    subst h
    match us, hx with
    | [_, _, _], ⟨_, a, _, b, _, c, _⟩ => exact ⟨a, b, c, trivial⟩
  · cases h
theorem chOf_R {C : Cx} {xs : List Cell} {us : List Value} {p : Ch} (hx : allR C xs us) (h : chOf xs = some p) : allE C (chCells true p) us := by
  unfold chOf at h
  split at h
  · rename_i i o n l a b c x y z q pp kk
    simp only [Option.bind_eq_some_iff] at h
    obtain ⟨bk, hbk, st, hst, pa, hpa, kn, hkn, h⟩ := h
    simp only [Option.some.injEq] at h
    subst h
    unfold bkOf at hbk
    simp only [Option.bind_eq_some_iff] at hbk
    obtain ⟨o', ho', n', hn', hbk⟩ := hbk
    simp only [Option.some.injEq] at hbk
    subst hbk
    match us, hx with
    | [_, _, _, _, u5, u6, u7, u8, u9, u10, u11, _, _], ⟨_, h1, q2, h2, q3, h3, _, h4, q5, h5, q6, h6, q7, h7, q8, h8, q9, h9, q10, h10, q11, h11, q12, h12, q13, h13, _⟩ =>
      have h14 := stOf_R (C := C) (xs := [a, b, c, x, y, z, q]) (us := [u5, u6, u7, u8, u9, u10, u11]) ⟨q5, h5, q6, h6, q7, h7, q8, h8, q9, h9, q10, h10, q11, h11, trivial⟩ hst
      obtain ⟨e1, e2, e3, e4, e5, e6, e7, _⟩ := h14
      exact ⟨h1, asInts_R ho' q2 h2, asInts_R hn' q3 h3, h4, e1, e2, e3, e4, e5, e6, e7, asSts_R hpa q12 h12, asInts_R hkn q13 h13, trivial⟩
  · cases h
theorem ofCells_R {C : Cx} {k : EK} {xs : List Cell} {us : List Value} {e : El} (hx : allR C xs us) (h : El.ofCells k xs = some e) : elR C e us := by
  refine elR_of ?_
  cases k
  case int =>
    simp only [El.ofCells] at h
    split at h
    · simp only [Option.some.injEq] at h
      subst h
      match us, hx with
      | [_], ⟨_, a, _⟩ => exact ⟨a, trivial⟩
    · cases h
  case u8 =>
    simp only [El.ofCells] at h
    split at h
    · simp only [Option.some.injEq] at h
      subst h
      match us, hx with
      | [_], ⟨_, a, _⟩ => exact ⟨a, trivial⟩
    · cases h
  case bool =>
    simp only [El.ofCells] at h
    split at h
    · simp only [Option.some.injEq] at h
      subst h
      match us, hx with
      | [_], ⟨_, a, _⟩ => exact ⟨a, trivial⟩
    · cases h
  case pkt =>
    simp only [El.ofCells, Option.map_eq_some_iff] at h
    obtain ⟨p, h1, rfl⟩ := h
    exact pktOf_R hx h1
  case st =>
    simp only [El.ofCells, Option.map_eq_some_iff] at h
    obtain ⟨p, h1, rfl⟩ := h
    exact stOf_R hx h1
  case ch =>
    simp only [El.ofCells, Option.map_eq_some_iff] at h
    obtain ⟨p, h1, rfl⟩ := h
    exact chOf_R hx h1
  case ev =>
    simp only [El.ofCells, Option.map_eq_some_iff] at h
    obtain ⟨p, h1, rfl⟩ := h
    exact evOf_R hx h1
  case ws =>
    simp only [El.ofCells, Option.map_eq_some_iff] at h
    obtain ⟨p, h1, rfl⟩ := h
    exact wsOf_R hx h1
theorem ofCells_ek {k : EK} {xs : List Cell} {e : El} (h : El.ofCells k xs = some e) : (e.cells true).length = k.size := by
  cases k <;> simp only [El.ofCells, Option.map_eq_some_iff] at h
  case int => split at h <;> simp at h; subst h; rfl
  case u8 => split at h <;> simp at h; subst h; rfl
  case bool => split at h <;> simp at h; subst h; rfl
  all_goals (obtain ⟨p, _, rfl⟩ := h; rfl)

theorem set_spec {a b : Arr} {k : Nat} {e : El} (h : a.set k e = some b) : b.len = a.len ∧ b.esz = a.esz ∧ (k < a.len → b.get k = e) ∧ ∀ j, j ≠ k → b.get j = a.get j := by
  cases a <;> cases e <;> simp only [Arr.set, Option.some.injEq, reduceCtorEq] at h
  all_goals
    subst h
    refine ⟨by simp [Arr.len], rfl, fun hk => ?_, fun j hj => ?_⟩
    · simp only [Arr.len] at hk
      simp [Arr.get, List.getD_eq_getElem?_getD, List.getElem?_set_self hk]
    · simp [Arr.get, List.getD_eq_getElem?_getD, List.getElem?_set_ne (Ne.symm hj)]

end Hw
end Go.Proofs.Ytmhighcagpbmeaa
