/- Contracts of functions that only read: shapes of arguments. -/
import Derived.Test.YtfboldbfbmmahaaX22
set_option linter.unusedVariables false
set_option linter.unusedSimpArgs false
namespace Go.Proofs.Ytfboldbfbmmahaa
namespace Hw
open Go

/-! ### 1. Shapes -/
def cellFit (x y : Cell) : Prop := ∀ C v, cellR C x v → cellR C y v
def fvFit (x y : FV) : Prop := ∀ C v, fvR C x v → fvR C y v
def cellsFit : List Cell → List Cell → Prop
  | [], [] => True
  | x :: r, y :: s => cellFit x y ∧ cellsFit r s
  | _, _ => False
theorem cellsFit_spec {xs ys : List Cell} (h : cellsFit xs ys) : ys.length = xs.length ∧ ∀ (j : Nat) (y : Cell), ys[j]? = some y → ∃ x, xs[j]? = some x ∧ cellFit x y := by
  induction xs generalizing ys with
  | nil =>
    cases ys with
    | nil => exact ⟨rfl, fun j y h => by simp at h⟩
    | cons y ys => exact h.elim
  | cons x xs ih =>
    cases ys with
    | nil => exact h.elim
    | cons y ys =>
      obtain ⟨i1, i2⟩ := ih h.2
      refine ⟨by simp [i1], fun j z hz => ?_⟩
      cases j with
      | zero =>
        simp only [List.getElem?_cons_zero, Option.some.injEq] at hz
        subst hz
        exact ⟨x, rfl, h.1⟩
      | succ j => simpa using i2 j z (by simpa using hz)
theorem aggFit {xs ys : List Cell} (h : cellsFit xs ys) : fvFit (.agg xs) (.agg ys) := fun C v ⟨vs, h1, h2, h3⟩ => by
  obtain ⟨i1, i2⟩ := cellsFit_spec h
  refine ⟨vs, h1, by rw [h2, i1], fun j y hj => ?_⟩
  obtain ⟨x, h4, h5⟩ := i2 j y hj
  obtain ⟨u, h6, h7⟩ := h3 j x h4
  exact ⟨u, h6, h5 C u h7⟩
theorem cellFit.refl (x : Cell) : cellFit x x := fun _ _ h => h
def vInts : Cell → Option (List Int)
  | .arr false (.ints xs) => some xs | .nilS => some [] | _ => none
def vU8s : Cell → Option (List Int)
  | .arr false (.u8s xs) => some xs | .nilS => some [] | _ => none
def vBools : Cell → Option (List Bool)
  | .arr false (.bools xs) => some xs | .nilS => some [] | _ => none
def vPkts : Cell → Option (List Pkt)
  | .arr false (.pkts xs) => some xs | .nilS => some [] | _ => none
def vSts : Cell → Option (List St)
  | .arr false (.sts xs) => some xs | .nilS => some [] | _ => none
def vChs : Cell → Option (List Ch)
  | .arr false (.chs xs) => some xs | .nilS => some [] | _ => none
def vEvs : Cell → Option (List Ev)
  | .arr false (.evs xs) => some xs | .nilS => some [] | _ => none
theorem nilFit (k : EK) : cellFit .nilS (.arr false (.nil k)) := fun C v h => by
  simp only [cellR] at h
  subst h
  exact nil_R C.w _ 3 k
theorem vInts_fit {x : Cell} {l : List Int} (h : vInts x = some l) : cellFit x (.arr false (.ints l)) := by
  unfold vInts at h
  split at h
  · simp only [Option.some.injEq] at h; subst h; exact cellFit.refl _
  · simp only [Option.some.injEq] at h; subst h; exact nilFit .int
  · cases h
theorem vU8s_fit {x : Cell} {l : List Int} (h : vU8s x = some l) : cellFit x (.arr false (.u8s l)) := by
  unfold vU8s at h
  split at h
  · simp only [Option.some.injEq] at h; subst h; exact cellFit.refl _
  · simp only [Option.some.injEq] at h; subst h; exact nilFit .u8
  · cases h
theorem vBools_fit {x : Cell} {l : List Bool} (h : vBools x = some l) : cellFit x (.arr false (.bools l)) := by
  unfold vBools at h
  split at h
  · simp only [Option.some.injEq] at h; subst h; exact cellFit.refl _
  · simp only [Option.some.injEq] at h; subst h; exact nilFit .bool
  · cases h
theorem vPkts_fit {x : Cell} {l : List Pkt} (h : vPkts x = some l) : cellFit x (.arr false (.pkts l)) := by
  unfold vPkts at h
  split at h
  · simp only [Option.some.injEq] at h; subst h; exact cellFit.refl _
  · simp only [Option.some.injEq] at h; subst h; exact nilFit .pkt
  · cases h
theorem vSts_fit {x : Cell} {l : List St} (h : vSts x = some l) : cellFit x (.arr false (.sts l)) := by
  unfold vSts at h
  split at h
  · simp only [Option.some.injEq] at h; subst h; exact cellFit.refl _
  · simp only [Option.some.injEq] at h; subst h; exact nilFit .st
  · cases h
theorem vChs_fit {x : Cell} {l : List Ch} (h : vChs x = some l) : cellFit x (.arr false (.chs l)) := by
  unfold vChs at h
  split at h
  · simp only [Option.some.injEq] at h; subst h; exact cellFit.refl _
  · simp only [Option.some.injEq] at h; subst h; exact nilFit .ch
  · cases h
theorem vEvs_fit {x : Cell} {l : List Ev} (h : vEvs x = some l) : cellFit x (.arr false (.evs l)) := by
  unfold vEvs at h
  split at h
  · simp only [Option.some.injEq] at h; subst h; exact cellFit.refl _
  · simp only [Option.some.injEq] at h; subst h; exact nilFit .ev
  · cases h
def vSt : List Cell → Option St
  | [.int a, .int b, .int c, x, y, z, u] => (vPkts x).bind fun x => (vBools y).bind fun y => (vBools z).bind fun z => (vInts u).bind fun u => some ⟨a, b, c, x, y, z, u⟩
  | _ => none
def vBk : List Cell → Option Bk
  | [x, y, .int l] => (vInts x).bind fun x => (vInts y).bind fun y => some ⟨x, y, l⟩
  | _ => none
def bkCells (z : Bool) (b : Bk) : List Cell := [.arr z (.ints b.own), .arr z (.ints b.notes), .int b.locked]
def vCh : List Cell → Option Ch
  | [.int i, o, n, .int l, a, b, c, x, y, z, u, p, k] => (vBk [o, n, .int l]).bind fun bk => (vSt [a, b, c, x, y, z, u]).bind fun st => (vSts p).bind fun p => (vInts k).bind fun k => some ⟨i, bk, st, p, k⟩
  | _ => none
theorem bind_some' {α β : Type} {x : Option α} {f : α → Option β} {b : β} (h : x.bind f = some b) : ∃ a, x = some a ∧ f a = some b := by
  cases x with
  | none => cases h
  | some a => exact ⟨a, rfl, h⟩
theorem vSt_fit {cs : List Cell} {s : St} (h : vSt cs = some s) : cellsFit cs (stCells false s) := by
  unfold vSt at h
  split at h
  · obtain ⟨x, h1, h⟩ := bind_some' h
    obtain ⟨y, h2, h⟩ := bind_some' h
    obtain ⟨z, h3, h⟩ := bind_some' h
    obtain ⟨u, h4, h⟩ := bind_some' h
    simp only [Option.some.injEq] at h
    subst h
    exact ⟨cellFit.refl _, cellFit.refl _, cellFit.refl _, vPkts_fit h1, vBools_fit h2, vBools_fit h3, vInts_fit h4, trivial⟩
  · cases h
theorem vBk_fit {cs : List Cell} {s : Bk} (h : vBk cs = some s) : cellsFit cs (bkCells false s) := by
  unfold vBk at h
  split at h
  · obtain ⟨x, h1, h⟩ := bind_some' h
    obtain ⟨y, h2, h⟩ := bind_some' h
    simp only [Option.some.injEq] at h
    subst h
    exact ⟨vInts_fit h1, vInts_fit h2, cellFit.refl _, trivial⟩
  · cases h
theorem vCh_fit {cs : List Cell} {s : Ch} (h : vCh cs = some s) : cellsFit cs (chCells false s) := by
  unfold vCh at h
  split at h
  · obtain ⟨x, h1, h⟩ := bind_some' h
    obtain ⟨y, h2, h⟩ := bind_some' h
    obtain ⟨z, h3, h⟩ := bind_some' h
    obtain ⟨u, h4, h⟩ := bind_some' h
    simp only [Option.some.injEq] at h
    subst h
    have f1 := vBk_fit h1
    have f2 := vSt_fit h2
    exact ⟨cellFit.refl _, f1.1, f1.2.1, f1.2.2.1, f2.1, f2.2.1, f2.2.2.1, f2.2.2.2.1, f2.2.2.2.2.1, f2.2.2.2.2.2.1, f2.2.2.2.2.2.2.1, vSts_fit h3, vInts_fit h4, trivial⟩
  · cases h
theorem pktOf_fit {cs : List Cell} {p : Pkt} (h : pktOf cs = some p) : cellsFit cs (pktCells p) := by
  unfold pktOf at h
  split at h
  · simp only [Option.some.injEq] at h
    subst h
    exact ⟨cellFit.refl _, cellFit.refl _, cellFit.refl _, cellFit.refl _, cellFit.refl _, cellFit.refl _, cellFit.refl _, trivial⟩
  · cases h
theorem evOf_fit {cs : List Cell} {p : Ev} (h : evOf cs = some p) : cellsFit cs (evCells p) := by
  unfold evOf at h
  split at h
  · obtain ⟨x, h1, h⟩ := bind_some' h
    simp only [Option.some.injEq] at h
    subst h
    have f := pktOf_fit h1
    exact ⟨cellFit.refl _, cellFit.refl _, cellFit.refl _, cellFit.refl _, f⟩
  · cases h
/-! Lengths are no more than an int holds. -/
def St.fact (s : St) : Prop := (s.sent.length : Int) ≤ big ∧ (s.live.length : Int) ≤ big ∧ (s.back.length : Int) ≤ big ∧ (s.got.length : Int) ≤ big
def Bk.fact (b : Bk) : Prop := (b.own.length : Int) ≤ big ∧ (b.notes.length : Int) ≤ big
def stsFact (l : List St) : Prop := (l.length : Int) ≤ big ∧ ∀ s ∈ l, s.fact
def Ch.fact (c : Ch) : Prop := c.bank.fact ∧ c.st.fact ∧ stsFact c.past ∧ (c.knows.length : Int) ≤ big
def chsFact (l : List Ch) : Prop := (l.length : Int) ≤ big ∧ ∀ c ∈ l, c.fact
theorem arr_len {w : World} {S : Nat → Prop} {d : Nat} {a : Arr} {v : Value} (h : arrR w S d a v) : (a.len : Int) ≤ big := by
  cases d with
  | zero => exact h.elim
  | succ d => obtain ⟨A, c, _, _, h, _⟩ := h; exact h
theorem arr_cell {w : World} {S : Nat → Prop} {d : Nat} {a : Arr} {v : Value} (h : arrR w S (d + 1) a v) {k : Nat} (hk : k < a.len) {z : Bool} {b : Arr} {j : Nat} (hj : ((a.get k).cells true)[j]? = some (.arr z b)) : ∃ u, arrR w S d b u := by
  obtain ⟨A, c, _, _, _, hr⟩ := h
  obtain ⟨ad, _, _, hx⟩ := hr k hk
  obtain ⟨u, _, h2⟩ := hx j _ hj
  exact ⟨u, h2⟩
theorem sts_fact {w : World} {S : Nat → Prop} {d : Nat} {l : List St} {v : Value} (h : arrR w S (d + 1) (.sts l) v) : stsFact l := by
  refine ⟨arr_len h, fun s hs => ?_⟩
  obtain ⟨k, hk, rfl⟩ := List.mem_iff_getElem.1 hs
  have hg : (Arr.sts l).get k = .st l[k] := by simp [Arr.get, List.getD_eq_getElem?_getD, hk]
  have hc : ∀ (j : Nat) (z : Bool) (b : Arr), (stCells true l[k])[j]? = some (.arr z b) → (b.len : Int) ≤ big := fun j z b hj => by
    obtain ⟨u, hu⟩ := arr_cell h (k := k) (z := z) (b := b) (j := j) hk (by rw [hg]; exact hj)
    exact arr_len hu
  exact ⟨hc 3 _ _ rfl, hc 4 _ _ rfl, hc 5 _ _ rfl, hc 6 _ _ rfl⟩
theorem chs_fact {w : World} {S : Nat → Prop} {d : Nat} {l : List Ch} {v : Value} (h : arrR w S (d + 2) (.chs l) v) : chsFact l := by
  refine ⟨arr_len h, fun s hs => ?_⟩
  obtain ⟨k, hk, rfl⟩ := List.mem_iff_getElem.1 hs
  have hg : (Arr.chs l).get k = .ch l[k] := by simp [Arr.get, List.getD_eq_getElem?_getD, hk]
  have hc : ∀ (j : Nat) (z : Bool) (b : Arr), (chCells true l[k])[j]? = some (.arr z b) → ∃ u, arrR w S (d + 1) b u := fun j z b hj =>
    arr_cell h (k := k) (z := z) (b := b) (j := j) hk (by rw [hg]; exact hj)
  have hl : ∀ (j : Nat) (z : Bool) (b : Arr), (chCells true l[k])[j]? = some (.arr z b) → (b.len : Int) ≤ big := fun j z b hj => by
    obtain ⟨u, hu⟩ := hc j z b hj
    exact arr_len hu
  obtain ⟨u, hu⟩ := hc 11 _ _ rfl
  exact ⟨⟨hl 1 _ _ rfl, hl 2 _ _ rfl⟩, ⟨hl 7 _ _ rfl, hl 8 _ _ rfl, hl 9 _ _ rfl, hl 10 _ _ rfl⟩, sts_fact hu, hl 12 _ _ rfl⟩
structure Sh where
  α : Type
  dec : FV → Option α
  enc : α → FV
  fit : ∀ x a, dec x = some a → fvFit x (enc a)
  fact : α → Prop
  hf : ∀ a C v, fvR C (enc a) v → fact a
def sInt : Sh := ⟨Int, fun | .c (.int n) => some n | _ => none, fun n => .c (.int n), (fun x a h => by
  split at h
  · simp only [Option.some.injEq] at h; subst h; exact fun _ _ h => h
  · cases h), fun _ => True, fun _ _ _ _ => trivial⟩
def sBool : Sh := ⟨Bool, fun | .c (.bool n) => some n | _ => none, fun n => .c (.bool n), (fun x a h => by
  split at h
  · simp only [Option.some.injEq] at h; subst h; exact fun _ _ h => h
  · cases h), fun _ => True, fun _ _ _ _ => trivial⟩
def ofCell {α : Type} (f : Cell → Option α) (e : α → Cell) (h : ∀ {x a}, f x = some a → cellFit x (e a)) (F : α → Prop) (hF : ∀ {a C v}, cellR C (e a) v → F a) : Sh := ⟨α, fun | .c x => f x | _ => none, fun a => .c (e a), (fun x a hx => by
  split at hx
  · exact h hx
  · cases hx), F, fun a C v hx => hF hx⟩
def ofAgg {α : Type} (f : List Cell → Option α) (e : α → List Cell) (h : ∀ {x a}, f x = some a → cellsFit x (e a)) (F : α → Prop) (hF : ∀ {a C v}, fvR C (.agg (e a)) v → F a) : Sh := ⟨α, fun | .agg x => f x | _ => none, fun a => .agg (e a), (fun x a hx => by
  split at hx
  · exact aggFit (h hx)
  · cases hx), F, fun a C v hx => hF hx⟩
theorem agg_cell {C : Cx} {cs : List Cell} {v : Value} (h : fvR C (.agg cs) v) {j : Nat} {z : Bool} {b : Arr} (hj : cs[j]? = some (.arr z b)) : ∃ u, arrR C.w (C.S z) 4 b u := by
  obtain ⟨vs, _, _, h3⟩ := h
  obtain ⟨u, _, h4⟩ := h3 j _ hj
  exact ⟨u, h4⟩
theorem agg_len {C : Cx} {cs : List Cell} {v : Value} (h : fvR C (.agg cs) v) (j : Nat) {z : Bool} {b : Arr} (hj : cs[j]? = some (.arr z b)) : (b.len : Int) ≤ big := by
  obtain ⟨u, h⟩ := agg_cell h hj
  exact arr_len h
def sInts : Sh := ofCell vInts (fun l => .arr false (.ints l)) vInts_fit (fun l => (l.length : Int) ≤ big) (fun h => arr_len h)
def sU8s : Sh := ofCell vU8s (fun l => .arr false (.u8s l)) vU8s_fit (fun l => (l.length : Int) ≤ big) (fun h => arr_len h)
def sBools : Sh := ofCell vBools (fun l => .arr false (.bools l)) vBools_fit (fun l => (l.length : Int) ≤ big) (fun h => arr_len h)
def sPkts : Sh := ofCell vPkts (fun l => .arr false (.pkts l)) vPkts_fit (fun l => (l.length : Int) ≤ big) (fun h => arr_len h)
def sSts : Sh := ofCell vSts (fun l => .arr false (.sts l)) vSts_fit stsFact (fun h => sts_fact h)
def sChs : Sh := ofCell vChs (fun l => .arr false (.chs l)) vChs_fit chsFact (fun h => chs_fact h)
def sEvs : Sh := ofCell vEvs (fun l => .arr false (.evs l)) vEvs_fit (fun l => (l.length : Int) ≤ big) (fun h => arr_len h)
def sPkt : Sh := ofAgg pktOf pktCells pktOf_fit (fun _ => True) (fun _ => trivial)
def sSt : Sh := ofAgg vSt (stCells false) vSt_fit St.fact (fun h => ⟨agg_len h 3 rfl, agg_len h 4 rfl, agg_len h 5 rfl, agg_len h 6 rfl⟩)
def sBk : Sh := ofAgg vBk (bkCells false) vBk_fit Bk.fact (fun h => ⟨agg_len h 0 rfl, agg_len h 1 rfl⟩)
def sCh : Sh := ofAgg vCh (chCells false) vCh_fit Ch.fact (fun h => ⟨⟨agg_len h 1 rfl, agg_len h 2 rfl⟩, ⟨agg_len h 7 rfl, agg_len h 8 rfl, agg_len h 9 rfl, agg_len h 10 rfl⟩, (agg_cell h (j := 11) rfl).elim fun _ h => sts_fact h, agg_len h 12 rfl⟩)
def sEv : Sh := ofAgg evOf evCells evOf_fit (fun _ => True) (fun _ => trivial)
def vW : List Cell → Option (List Ch)
  | [x] => vChs x
  | _ => none
def sW : Sh := ofAgg vW (fun l => [.arr false (.chs l)]) (fun {x a} h => by
  unfold vW at h
  split at h
  · exact ⟨vChs_fit h, trivial⟩
  · cases h) chsFact (fun h => (agg_cell h (j := 0) rfl).elim fun _ h => chs_fact h)
structure ShL where
  α : Type
  dec : List FV → Option α
  enc : α → List FV
  len : Nat
  fit : ∀ x a, dec x = some a → Fits x (enc a)
  lenOk : ∀ a, (enc a).length = len
  fact : α → Prop
  hf : ∀ a C vs, valsR C (enc a) vs → fact a
def sNil : ShL := ⟨Unit, fun | [] => some () | _ => none, fun _ => [], 0, (fun x a h => by
  split at h
  · exact Fits.refl _
  · cases h), fun _ => rfl, fun _ => True, fun _ _ _ _ => trivial⟩
def sCons (A : Sh) (L : ShL) : ShL := ⟨A.α × L.α, fun | x :: r => (A.dec x).bind fun a => (L.dec r).map fun b => (a, b) | [] => none, fun s => A.enc s.1 :: L.enc s.2, Nat.succ L.len, (fun x a h => by
  split at h
  · rename_i x r
    obtain ⟨a1, h1, h⟩ := bind_some' h
    cases h2 : L.dec r with
    | none => rw [h2] at h; cases h
    | some b =>
      rw [h2] at h
      simp only [Option.map_some, Option.some.injEq] at h
      subst h
      obtain ⟨l1, l2⟩ := L.fit _ _ h2
      refine ⟨by simp [l1], fun q y hy => ?_⟩
      cases q with
      | zero =>
        simp only [List.getElem?_cons_zero, Option.some.injEq] at hy
        subst hy
        exact ⟨x, rfl, A.fit _ _ h1⟩
      | succ q => simpa using l2 q y (by simpa using hy)
  · cases h), (fun a => by rw [List.length_cons, L.lenOk]), fun a => A.fact a.1 ∧ L.fact a.2, fun a C vs h => by
  cases vs with
  | nil => exact h.elim
  | cons v vs => exact ⟨A.hf _ _ _ h.1, L.hf _ _ _ h.2⟩⟩
def vctr (fid : Nat) (L : ShL) (pre : Option (L.α → Prop)) (out : L.α → AV × List Blk) : Ctr := ⟨fid, true, L.α, fun bs args => match bs with
  | [] => L.dec args
  | _ :: _ => none, fun s => ([], L.enc s), pre, out⟩

/-! ### 2. Code is well laid -/
def codeOkB (sz : Nat) : Code → Bool
  | .seq a b => codeOkB sz a && codeOkB sz b
  | .block _ c => codeOkB sz c
  | .cond _ a b => codeOkB sz a && codeOkB sz b
  | .region _ ops _ => ops.toList.all fun o => match o.dst with
    | some d => Nat.blt d sz
    | none => true
  | _ => true
def loopsOf : Code → List Code
  | .seq a b => List.append (loopsOf a) (loopsOf b)
  | .block _ c => loopsOf c
  | .cond _ a b => List.append (loopsOf a) (loopsOf b)
  | .loop c => [c]
  | _ => []
theorem codeOk_of {P : Program} {L : List LCtr} {sz : Nat} : ∀ {c : Code}, codeOkB sz c = true → (∀ b ∈ loopsOf c, ∀ l, lcOf L (firstR b) = some l → LGood P sz l b) → codeOk P L sz c := by
  intro c
  induction c with
  | seq a b iha ihb =>
    intro h hl
    simp only [codeOkB, Bool.and_eq_true] at h
    exact ⟨iha h.1 fun b' hb => hl b' (List.mem_append_left _ hb), ihb h.2 fun b' hb => hl b' (List.mem_append_right _ hb)⟩
  | block i c ih => intro h hl; exact ih h hl
  | cond x a b iha ihb =>
    intro h hl
    simp only [codeOkB, Bool.and_eq_true] at h
    exact ⟨iha h.1 fun b' hb => hl b' (List.mem_append_left _ hb), ihb h.2 fun b' hb => hl b' (List.mem_append_right _ hb)⟩
  | region id ops draw =>
    intro h hl o ho d hd
    have := List.all_eq_true.1 h o ho
    rw [hd] at this
    exact Nat.le_of_ble_eq_true this
  | loop c ih => intro h hl l hl'; exact hl c (List.mem_singleton.2 rfl) l hl'
  | _ => intro h hl; trivial
def bodyOf (fn : Func) : Code := match fn.body with
  | some c => c
  | none => .skip
/-- What the kernel checks of a function. -/
def fnOkB (fn : Func) (k : Nat) : Bool := fn.body.isSome && !(fn.name == "runtime.NumGoroutine") && codeOkB fn.ntmps (bodyOf fn) && Nat.ble k fn.ntmps
theorem vgood {sh : Shp} {G : List Ctr} {LL : List LCtr} {fid : Nat} {fn : Func} {L : ShL} {pre : Option (L.α → Prop)} {out : L.α → AV × List Blk} (hG : ∀ c ∈ G, Good Try.prog c) (hf : Try.prog.funcs[fid]? = some fn) (hk : fnOkB fn L.len = true)
    (hl : ∀ b ∈ loopsOf (bodyOf fn), ∀ l, lcOf LL (firstR b) = some l → LGood Try.prog fn.ntmps l b)
    (hev : ∀ s, (∀ p, pre = some p → p s) → L.fact s → evFn (env G) LL sh fn [] (L.enc s) fun r bs' => And (r = (out s).1) (bs' = (out s).2)) : Good Try.prog (vctr fid L pre out) := by
  unfold fnOkB at hk
  simp only [Bool.and_eq_true, Bool.not_eq_true'] at hk
  obtain ⟨⟨⟨k1, k2⟩, k3⟩, k4⟩ := hk
  have hb : fn.body = some (bodyOf fn) := by
    unfold bodyOf
    cases h : fn.body with
    | none => rw [h] at k1; cases k1
    | some c => rfl
  refine fn_ok (c := vctr fid L pre out) mixed (tyOK G) hG hf hb k2 (codeOk_of k3 hl) (fun bs args s h => ?_) (fun s => ?_) (fun s C vs _ hv hp => hev s hp (L.hf s C vs hv))
  · simp only [vctr] at h ⊢
    split at h
    · exact ⟨rfl, L.fit _ _ h⟩
    · cases h
  · exact Nat.le_trans (Nat.le_of_eq (L.lenOk s)) (Nat.le_of_ble_eq_true k4)
end Hw
end Go.Proofs.Ytfboldbfbmmahaa
