/- Contracts of functions that only read: shapes of arguments. -/
import Derived.Test.YtfboldbfbmmahaaX22
set_option linter.unusedVariables false
set_option linter.unusedSimpArgs false
namespace Go.Proofs.Ytfboldbfbmmahaa
namespace Hw
open Go

theorem pktOf_fit {cs : List Cell} {p : Pkt} (h : pktOf cs = some p) : cellsFit cs (pktCells p) := by
  unfold pktOf at h
  split at h
  · simp only [Option.some.injEq] at h
    subst h
    exact ⟨cellFit.refl _, cellFit.refl _, cellFit.refl _, cellFit.refl _, cellFit.refl _, cellFit.refl _, cellFit.refl _, trivial⟩
  · cases h
theorem evOf_fit {cs : List Cell} {p : Ev} (h : evOf cs = some p) : cellsFit cs (evCells p) := by
  unfold evOf at h
  split at h
  · obtain ⟨x, h1, h⟩ := bind_some' h
    simp only [Option.some.injEq] at h
    subst h
    have f := pktOf_fit h1
    exact ⟨cellFit.refl _, cellFit.refl _, cellFit.refl _, cellFit.refl _, f⟩
  · cases h
def St.fact (s : St) : Prop := (s.sent.length : Int) ≤ big ∧ (s.live.length : Int) ≤ big ∧ (s.back.length : Int) ≤ big ∧ (s.got.length : Int) ≤ big
def Bk.fact (b : Bk) : Prop := (b.own.length : Int) ≤ big ∧ (b.notes.length : Int) ≤ big
def stsFact (l : List St) : Prop := (l.length : Int) ≤ big ∧ ∀ s ∈ l, s.fact
def Ch.fact (c : Ch) : Prop := c.bank.fact ∧ c.st.fact ∧ stsFact c.past ∧ (c.knows.length : Int) ≤ big
def chsFact (l : List Ch) : Prop := (l.length : Int) ≤ big ∧ ∀ c ∈ l, c.fact
theorem arr_len {w : World} {S : Nat → Prop} {d : Nat} {a : Arr} {v : Value} (h : arrR w S d a v) : (a.len : Int) ≤ big := by
  cases d with
  | zero => exact h.elim
  | succ d => obtain ⟨A, c, _, _, h, _⟩ := h; exact h
theorem arr_cell {w : World} {S : Nat → Prop} {d : Nat} {a : Arr} {v : Value} (h : arrR w S (d + 1) a v) {k : Nat} (hk : k < a.len) {z : Bool} {b : Arr} {j : Nat} (hj : ((a.get k).cells true)[j]? = some (.arr z b)) : ∃ u, arrR w S d b u := by
  obtain ⟨A, c, _, _, _, hr⟩ := h
  obtain ⟨ad, _, _, hx⟩ := hr k hk
  obtain ⟨u, _, h2⟩ := hx j _ hj
  exact ⟨u, h2⟩
theorem sts_fact {w : World} {S : Nat → Prop} {d : Nat} {l : List St} {v : Value} (h : arrR w S (d + 1) (.sts l) v) : stsFact l := by
  refine ⟨arr_len h, fun s hs => ?_⟩
  obtain ⟨k, hk, rfl⟩ := List.mem_iff_getElem.1 hs
  have hg : (Arr.sts l).get k = .st l[k] := by simp [Arr.get, List.getD_eq_getElem?_getD, hk]
  have hc : ∀ (j : Nat) (z : Bool) (b : Arr), (stCells true l[k])[j]? = some (.arr z b) → (b.len : Int) ≤ big := fun j z b hj => by
    obtain ⟨u, hu⟩ := arr_cell h (k := k) (z := z) (b := b) (j := j) hk (by rw [hg]; exact hj)
    exact arr_len hu
  exact ⟨hc 3 _ _ rfl, hc 4 _ _ rfl, hc 5 _ _ rfl, hc 6 _ _ rfl⟩
theorem chs_fact {w : World} {S : Nat → Prop} {d : Nat} {l : List Ch} {v : Value} (h : arrR w S (d + 2) (.chs l) v) : chsFact l := by
  refine ⟨arr_len h, fun s hs => ?_⟩
  obtain ⟨k, hk, rfl⟩ := List.mem_iff_getElem.1 hs
  have hg : (Arr.chs l).get k = .ch l[k] := by simp [Arr.get, List.getD_eq_getElem?_getD, hk]
  have hc : ∀ (j : Nat) (z : Bool) (b : Arr), (chCells true l[k])[j]? = some (.arr z b) → ∃ u, arrR w S (d + 1) b u := fun j z b hj =>
    arr_cell h (k := k) (z := z) (b := b) (j := j) hk (by rw [hg]; exact hj)
  have hl : ∀ (j : Nat) (z : Bool) (b : Arr), (chCells true l[k])[j]? = some (.arr z b) → (b.len : Int) ≤ big := fun j z b hj => by
    obtain ⟨u, hu⟩ := hc j z b hj
    exact arr_len hu
  obtain ⟨u, hu⟩ := hc 11 _ _ rfl
  exact ⟨⟨hl 1 _ _ rfl, hl 2 _ _ rfl⟩, ⟨hl 7 _ _ rfl, hl 8 _ _ rfl, hl 9 _ _ rfl, hl 10 _ _ rfl⟩, sts_fact hu, hl 12 _ _ rfl⟩
structure Sh where
  α : Type
  dec : FV → Option α
  enc : α → FV
  fit : ∀ x a, dec x = some a → fvFit x (enc a)
  fact : α → Prop
  hf : ∀ a C v, fvR C (enc a) v → fact a
def sInt : Sh := ⟨Int, fun | .c (.int n) => some n | _ => none, fun n => .c (.int n), (fun x a h => by
  split at h
  · simp only [Option.some.injEq] at h; subst h; exact fun _ _ h => h
  · cases h), fun _ => True, fun _ _ _ _ => trivial⟩
def sBool : Sh := ⟨Bool, fun | .c (.bool n) => some n | _ => none, fun n => .c (.bool n), (fun x a h => by
  split at h
  · simp only [Option.some.injEq] at h; subst h; exact fun _ _ h => h
  · cases h), fun _ => True, fun _ _ _ _ => trivial⟩
def ofCell {α : Type} (f : Cell → Option α) (e : α → Cell) (h : ∀ {x a}, f x = some a → cellFit x (e a)) (F : α → Prop) (hF : ∀ {a C v}, cellR C (e a) v → F a) : Sh := ⟨α, fun | .c x => f x | _ => none, fun a => .c (e a), (fun x a hx => by
  split at hx
  · exact h hx
  · cases hx), F, fun a C v hx => hF hx⟩
def ofAgg {α : Type} (f : List Cell → Option α) (e : α → List Cell) (h : ∀ {x a}, f x = some a → cellsFit x (e a)) (F : α → Prop) (hF : ∀ {a C v}, fvR C (.agg (e a)) v → F a) : Sh := ⟨α, fun | .agg x => f x | _ => none, fun a => .agg (e a), (fun x a hx => by
  split at hx
  · exact aggFit (h hx)
  · cases hx), F, fun a C v hx => hF hx⟩
theorem agg_cell {C : Cx} {cs : List Cell} {v : Value} (h : fvR C (.agg cs) v) {j : Nat} {z : Bool} {b : Arr} (hj : cs[j]? = some (.arr z b)) : ∃ u, arrR C.w (C.S z) 4 b u := by
  obtain ⟨vs, _, _, h3⟩ := h
  obtain ⟨u, _, h4⟩ := h3 j _ hj
  exact ⟨u, h4⟩
theorem agg_len {C : Cx} {cs : List Cell} {v : Value} (h : fvR C (.agg cs) v) (j : Nat) {z : Bool} {b : Arr} (hj : cs[j]? = some (.arr z b)) : (b.len : Int) ≤ big := by
  obtain ⟨u, h⟩ := agg_cell h hj
  exact arr_len h
def sInts : Sh := ofCell vInts (fun l => .arr false (.ints l)) vInts_fit (fun l => (l.length : Int) ≤ big) (fun h => arr_len h)
def sU8s : Sh := ofCell vU8s (fun l => .arr false (.u8s l)) vU8s_fit (fun l => (l.length : Int) ≤ big) (fun h => arr_len h)
def sBools : Sh := ofCell vBools (fun l => .arr false (.bools l)) vBools_fit (fun l => (l.length : Int) ≤ big) (fun h => arr_len h)
def sPkts : Sh := ofCell vPkts (fun l => .arr false (.pkts l)) vPkts_fit (fun l => (l.length : Int) ≤ big) (fun h => arr_len h)
def sSts : Sh := ofCell vSts (fun l => .arr false (.sts l)) vSts_fit stsFact (fun h => sts_fact h)
def sChs : Sh := ofCell vChs (fun l => .arr false (.chs l)) vChs_fit chsFact (fun h => chs_fact h)
def sEvs : Sh := ofCell vEvs (fun l => .arr false (.evs l)) vEvs_fit (fun l => (l.length : Int) ≤ big) (fun h => arr_len h)
def sPkt : Sh := ofAgg pktOf pktCells pktOf_fit (fun _ => True) (fun _ => trivial)
def sSt : Sh := ofAgg vSt (stCells false) vSt_fit St.fact (fun h => ⟨agg_len h 3 rfl, agg_len h 4 rfl, agg_len h 5 rfl, agg_len h 6 rfl⟩)
def sBk : Sh := ofAgg vBk (bkCells false) vBk_fit Bk.fact (fun h => ⟨agg_len h 0 rfl, agg_len h 1 rfl⟩)
def sCh : Sh := ofAgg vCh (chCells false) vCh_fit Ch.fact (fun h => ⟨⟨agg_len h 1 rfl, agg_len h 2 rfl⟩, ⟨agg_len h 7 rfl, agg_len h 8 rfl, agg_len h 9 rfl, agg_len h 10 rfl⟩, (agg_cell h (j := 11) rfl).elim fun _ h => sts_fact h, agg_len h 12 rfl⟩)
def sEv : Sh := ofAgg evOf evCells evOf_fit (fun _ => True) (fun _ => trivial)
def vW : List Cell → Option (List Ch)
  | [x] => vChs x
  | _ => none
def sW : Sh := ofAgg vW (fun l => [.arr false (.chs l)]) (fun {x a} h => by
  unfold vW at h
  split at h
  · exact ⟨vChs_fit h, trivial⟩
  · cases h) chsFact (fun h => (agg_cell h (j := 0) rfl).elim fun _ h => chs_fact h)
structure ShL where
  α : Type
  dec : List FV → Option α
  enc : α → List FV
  len : Nat
  fit : ∀ x a, dec x = some a → Fits x (enc a)
  lenOk : ∀ a, (enc a).length = len
  fact : α → Prop
  hf : ∀ a C vs, valsR C (enc a) vs → fact a
def sNil : ShL := ⟨Unit, fun | [] => some () | _ => none, fun _ => [], 0, (fun x a h => by
  split at h
  · exact Fits.refl _
  · cases h), fun _ => rfl, fun _ => True, fun _ _ _ _ => trivial⟩
def sCons (A : Sh) (L : ShL) : ShL := ⟨A.α × L.α, fun | x :: r => (A.dec x).bind fun a => (L.dec r).map fun b => (a, b) | [] => none, fun s => A.enc s.1 :: L.enc s.2, Nat.succ L.len, (fun x a h => by
  split at h
  · rename_i x r
    obtain ⟨a1, h1, h⟩ := bind_some' h
    cases h2 : L.dec r with
    | none => rw [h2] at h; cases h
    | some b =>
      rw [h2] at h
      simp only [Option.map_some, Option.some.injEq] at h
      subst h
      obtain ⟨l1, l2⟩ := L.fit _ _ h2
      refine ⟨by simp [l1], fun q y hy => ?_⟩
      cases q with
      | zero =>
        simp only [List.getElem?_cons_zero, Option.some.injEq] at hy
        subst hy
        exact ⟨x, rfl, A.fit _ _ h1⟩
      | succ q => simpa using l2 q y (by simpa using hy)
  · cases h), (fun a => by rw [List.length_cons, L.lenOk]), fun a => A.fact a.1 ∧ L.fact a.2, fun a C vs h => by
  cases vs with
  | nil => exact h.elim
  | cons v vs => exact ⟨A.hf _ _ _ h.1, L.hf _ _ _ h.2⟩⟩
def trues : Nat → List Bool
  | 0 => []
  | n + 1 => true :: trues n
def vctr (fid : Nat) (L : ShL) (pre : Option (L.α → Prop)) (out : L.α → AV × List Blk) : Ctr := ⟨fid, trues L.len, L.α, fun bs args => match bs with
  | [] => L.dec args
  | _ :: _ => none, fun s => ([], L.enc s), pre, out⟩

def codeOkB (sz : Nat) : Code → Bool
  | .seq a b => codeOkB sz a && codeOkB sz b
  | .block _ c => codeOkB sz c
  | .cond _ a b => codeOkB sz a && codeOkB sz b
  | .region _ ops _ => ops.toList.all fun o => match o.dst with
    | some d => Nat.blt d sz
    | none => true
  | _ => true
def loopsOf : Code → List Code
  | .seq a b => List.append (loopsOf a) (loopsOf b)
  | .block _ c => loopsOf c
  | .cond _ a b => List.append (loopsOf a) (loopsOf b)
  | .loop c => [c]
  | _ => []
def cutsOf : Code → List Code
  | .seq a b => List.append (cutsOf a) (b :: cutsOf b)
  | .block _ c => cutsOf c
  | .cond _ a b => List.append (cutsOf a) (cutsOf b)
  | _ => []
theorem codeOk_ofC {P : Program} {ct L : List LCtr} {sz : Nat} : ∀ {c : Code}, codeOkB sz c = true → (∀ b ∈ loopsOf c, ∀ l, lcOf L (firstR b) = some l → LGood P sz l b) → (∀ b ∈ cutsOf c, ∀ l, lcOf ct (firstR b) = some l → CGood P sz l b) → codeOk P ct L sz c := by
  intro c
  induction c with
  | seq a b iha ihb =>
    intro h hl hc
    simp only [codeOkB, Bool.and_eq_true] at h
    exact ⟨iha h.1 (fun b' hb => hl b' (List.mem_append_left _ hb)) (fun b' hb => hc b' (List.mem_append_left _ hb)), ihb h.2 (fun b' hb => hl b' (List.mem_append_right _ hb)) (fun b' hb => hc b' (List.mem_append_right _ (List.mem_cons_of_mem _ hb))), fun l => hc b (List.mem_append_right _ List.mem_cons_self) l⟩
  | block i c ih => intro h hl hc; exact ih h hl hc
  | cond x a b iha ihb =>
    intro h hl hc
    simp only [codeOkB, Bool.and_eq_true] at h
    exact ⟨iha h.1 (fun b' hb => hl b' (List.mem_append_left _ hb)) (fun b' hb => hc b' (List.mem_append_left _ hb)), ihb h.2 (fun b' hb => hl b' (List.mem_append_right _ hb)) (fun b' hb => hc b' (List.mem_append_right _ hb))⟩
  | region id ops draw =>
    intro h hl hc o ho d hd
    have := List.all_eq_true.1 h o ho
    rw [hd] at this
    exact Nat.le_of_ble_eq_true this
  | loop c ih => intro h hl hc l hl'; exact hl c (List.mem_singleton.2 rfl) l hl'
  | _ => intro h hl hc; trivial
theorem codeOk_of {P : Program} {L : List LCtr} {sz : Nat} {c : Code} (h : codeOkB sz c = true) (hl : ∀ b ∈ loopsOf c, ∀ l, lcOf L (firstR b) = some l → LGood P sz l b) : codeOk P [] L sz c := codeOk_ofC h hl fun b _ l h => by cases h
def bodyOf (fn : Func) : Code := match fn.body with
  | some c => c
  | none => .skip
def fnOkB (fn : Func) (k : Nat) : Bool := fn.body.isSome && !(fn.name == "runtime.NumGoroutine") && codeOkB fn.ntmps (bodyOf fn) && Nat.ble k fn.ntmps
theorem vgood {sh : Shp} {sp : List (Nat × List (List (Nat × Nat)))} {G : List Ctr} {LL : List LCtr} {fid : Nat} {fn : Func} {L : ShL} {pre : Option (L.α → Prop)} {out : L.α → AV × List Blk} (hG : ∀ c ∈ G, Good Try.prog c) (hf : Try.prog.funcs[fid]? = some fn) (hk : fnOkB fn L.len = true)
    (hl : ∀ b ∈ loopsOf (bodyOf fn), ∀ l, lcOf LL (firstR b) = some l → LGood Try.prog fn.ntmps l b)
    (hev : ∀ s, (∀ p, pre = some p → p s) → L.fact s → evFn (envS G sp) LL sh [] fn [] (L.enc s) fun r bs' => And (r = (out s).1) (bs' = (out s).2)) : Good Try.prog (vctr fid L pre out) := by
  unfold fnOkB at hk
  simp only [Bool.and_eq_true, Bool.not_eq_true'] at hk
  obtain ⟨⟨⟨k1, k2⟩, k3⟩, k4⟩ := hk
  have hb : fn.body = some (bodyOf fn) := by
    unfold bodyOf
    cases h : fn.body with
    | none => rw [h] at k1; cases k1
    | some c => rfl
  refine fn_ok (c := vctr fid L pre out) mixed (tyOKS G sp) hG hf hb k2 (codeOk_of k3 hl) (fun bs args s h => ?_) (fun s => ?_) (fun s C vs _ hv hp => hev s hp (L.hf s C vs hv))
  · simp only [vctr] at h ⊢
    split at h
    · exact ⟨rfl, L.fit _ _ h⟩
    · cases h
  · exact Nat.le_trans (Nat.le_of_eq (L.lenOk s)) (Nat.le_of_ble_eq_true k4)
end Hw
end Go.Proofs.Ytfboldbfbmmahaa
