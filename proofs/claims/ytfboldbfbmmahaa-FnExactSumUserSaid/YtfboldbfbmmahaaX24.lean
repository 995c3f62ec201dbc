/- Shapes with blocks: what a loop keeps, what a function is handed. -/
import Derived.Test.YtfboldbfbmmahaaX23
set_option linter.unusedVariables false
set_option linter.unusedSimpArgs false
namespace Go.Proofs.Ytfboldbfbmmahaa
namespace Hw
open Go

structure KD where
  β : Type
  ar : List β → Arr
  un : Arr → Option (List β)
  ok : ∀ {a : Arr} {l : List β}, un a = some l → a = ar l
  k : EK
  nilOk : ar [] = Arr.nil k
def kInts : KD := ⟨Int, .ints, fun | .ints l => some l | _ => none, (fun {a l} h => by
  split at h
  · simp only [Option.some.injEq] at h; subst h; rfl
  · cases h), .int, rfl⟩
def kU8s : KD := ⟨Int, .u8s, fun | .u8s l => some l | _ => none, (fun {a l} h => by
  split at h
  · simp only [Option.some.injEq] at h; subst h; rfl
  · cases h), .u8, rfl⟩
def kBools : KD := ⟨Bool, .bools, fun | .bools l => some l | _ => none, (fun {a l} h => by
  split at h
  · simp only [Option.some.injEq] at h; subst h; rfl
  · cases h), .bool, rfl⟩
def kPkts : KD := ⟨Pkt, .pkts, fun | .pkts l => some l | _ => none, (fun {a l} h => by
  split at h
  · simp only [Option.some.injEq] at h; subst h; rfl
  · cases h), .pkt, rfl⟩
def kSts : KD := ⟨St, .sts, fun | .sts l => some l | _ => none, (fun {a l} h => by
  split at h
  · simp only [Option.some.injEq] at h; subst h; rfl
  · cases h), .st, rfl⟩
def kChs : KD := ⟨Ch, .chs, fun | .chs l => some l | _ => none, (fun {a l} h => by
  split at h
  · simp only [Option.some.injEq] at h; subst h; rfl
  · cases h), .ch, rfl⟩
def kWss : KD := ⟨Ws, .wss, fun | .wss l => some l | _ => none, (fun {a l} h => by
  split at h
  · simp only [Option.some.injEq] at h; subst h; rfl
  · cases h), .ws, rfl⟩
def kEvs : KD := ⟨Ev, .evs, fun | .evs l => some l | _ => none, (fun {a l} h => by
  split at h
  · simp only [Option.some.injEq] at h; subst h; rfl
  · cases h), .ev, rfl⟩

structure CB where
  α : Type
  nb : Nat
  dec : Nat → List Blk → Cell → Option (α × List Blk)
  encC : Nat → α → Cell
  encB : Nat → α → List Blk
  ok : ∀ {k bs x a r}, dec k bs x = some (a, r) → bs = List.append (encB k a) r ∧ cellFit x (encC k a)
  e : Bool
  eok : e = true → ∀ {k bs x a r}, dec k bs x = some (a, r) → x = encC k a
def cInt : CB := ⟨Int, 0, fun _ bs x => match x with | .int n => some (n, bs) | _ => none, fun _ n => .int n, fun _ _ => [], (fun {k bs x a r} h => by
  split at h
  · simp only [Option.some.injEq, Prod.mk.injEq] at h; obtain ⟨rfl, rfl⟩ := h; exact ⟨rfl, cellFit.refl _⟩
  · cases h), true, fun _ {k bs x a r} h => by
  split at h
  · simp only [Option.some.injEq, Prod.mk.injEq] at h; obtain ⟨rfl, rfl⟩ := h; rfl
  · cases h⟩
def cU8 : CB := ⟨Int, 0, fun _ bs x => match x with | .u8 n => some (n, bs) | _ => none, fun _ n => .u8 n, fun _ _ => [], (fun {k bs x a r} h => by
  split at h
  · simp only [Option.some.injEq, Prod.mk.injEq] at h; obtain ⟨rfl, rfl⟩ := h; exact ⟨rfl, cellFit.refl _⟩
  · cases h), true, fun _ {k bs x a r} h => by
  split at h
  · simp only [Option.some.injEq, Prod.mk.injEq] at h; obtain ⟨rfl, rfl⟩ := h; rfl
  · cases h⟩
def cBool : CB := ⟨Bool, 0, fun _ bs x => match x with | .bool n => some (n, bs) | _ => none, fun _ n => .bool n, fun _ _ => [], (fun {k bs x a r} h => by
  split at h
  · simp only [Option.some.injEq, Prod.mk.injEq] at h; obtain ⟨rfl, rfl⟩ := h; exact ⟨rfl, cellFit.refl _⟩
  · cases h), true, fun _ {k bs x a r} h => by
  split at h
  · simp only [Option.some.injEq, Prod.mk.injEq] at h; obtain ⟨rfl, rfl⟩ := h; rfl
  · cases h⟩
def cFnv : CB := ⟨Option Nat, 0, fun _ bs x => match x with | .fnv n => some (n, bs) | _ => none, fun _ n => .fnv n, fun _ _ => [], (fun {k bs x a r} h => by
  split at h
  · simp only [Option.some.injEq, Prod.mk.injEq] at h; obtain ⟨rfl, rfl⟩ := h; exact ⟨rfl, cellFit.refl _⟩
  · cases h), true, fun _ {k bs x a r} h => by
  split at h
  · simp only [Option.some.injEq, Prod.mk.injEq] at h; obtain ⟨rfl, rfl⟩ := h; rfl
  · cases h⟩
def cIfc : CB := ⟨Nat, 0, fun _ bs x => match x with | .ifc n => some (n, bs) | _ => none, fun _ n => .ifc n, fun _ _ => [], (fun {k bs x a r} h => by
  split at h
  · simp only [Option.some.injEq, Prod.mk.injEq] at h; obtain ⟨rfl, rfl⟩ := h; exact ⟨rfl, cellFit.refl _⟩
  · cases h), true, fun _ {k bs x a r} h => by
  split at h
  · simp only [Option.some.injEq, Prod.mk.injEq] at h; obtain ⟨rfl, rfl⟩ := h; rfl
  · cases h⟩
def cNilS : CB := ⟨Unit, 0, fun _ bs x => match x with | .nilS => some ((), bs) | _ => none, fun _ _ => .nilS, fun _ _ => [], (fun {k bs x a r} h => by
  split at h
  · simp only [Option.some.injEq, Prod.mk.injEq, true_and] at h; subst h; exact ⟨rfl, cellFit.refl _⟩
  · cases h), true, fun _ {k bs x a r} h => by
  split at h
  · rfl
  · cases h⟩
theorem nilFitZ (z : Bool) (k : EK) : cellFit .nilS (.arr z (.nil k)) := fun C v h => by
  simp only [cellR] at h
  subst h
  exact nil_R C.w _ 3 k
def cArr (z : Bool) (K : KD) : CB := ⟨List K.β, 0, fun _ bs x => match x with
    | .arr y a => bif eqB y z then (K.un a).map fun l => (l, bs) else none
    | .nilS => some ([], bs)
    | _ => none, fun _ l => .arr z (K.ar l), fun _ _ => [], (fun {k bs x a r} h => by
  split at h
  · rename_i y b
    cases hz : eqB y z with
    | false => rw [hz] at h; cases h
    | true =>
      rw [hz] at h
      have hyz : y = z := by cases y <;> cases z <;> first | rfl | cases hz
      subst hyz
      simp only [cond_true] at h
      cases hu : K.un b with
      | none => rw [hu] at h; cases h
      | some l =>
        rw [hu] at h
        simp only [Option.map_some, Option.some.injEq, Prod.mk.injEq] at h
        obtain ⟨rfl, rfl⟩ := h
        rw [K.ok hu]
        exact ⟨rfl, cellFit.refl _⟩
  · simp only [Option.some.injEq, Prod.mk.injEq] at h; obtain ⟨rfl, rfl⟩ := h; exact ⟨rfl, by rw [K.nilOk]; exact nilFitZ _ _⟩
  · cases h), false, fun h => by cases h⟩
def cArrE (z : Bool) (K : KD) : CB := ⟨List K.β, 0, fun _ bs x => match x with
    | .arr y a => bif eqB y z then (K.un a).map fun l => (l, bs) else none
    | _ => none, fun _ l => .arr z (K.ar l), fun _ _ => [], (fun {k bs x a r} h => by
  split at h
  · rename_i y b
    cases hz : eqB y z with
    | false => rw [hz] at h; cases h
    | true =>
      rw [hz] at h
      have hyz : y = z := by cases y <;> cases z <;> first | rfl | cases hz
      subst hyz
      simp only [cond_true] at h
      cases hu : K.un b with
      | none => rw [hu] at h; cases h
      | some l =>
        rw [hu] at h
        simp only [Option.map_some, Option.some.injEq, Prod.mk.injEq] at h
        obtain ⟨rfl, rfl⟩ := h
        rw [K.ok hu]
        exact ⟨rfl, cellFit.refl _⟩
  · cases h), true, fun _ {k bs x a r} h => by
  split at h
  · rename_i y b
    cases hz : eqB y z with
    | false => rw [hz] at h; cases h
    | true =>
      rw [hz] at h
      have hyz : y = z := by cases y <;> cases z <;> first | rfl | cases hz
      subst hyz
      simp only [cond_true] at h
      cases hu : K.un b with
      | none => rw [hu] at h; cases h
      | some l =>
        rw [hu] at h
        simp only [Option.map_some, Option.some.injEq, Prod.mk.injEq] at h
        obtain ⟨rfl, rfl⟩ := h
        rw [K.ok hu]
  · cases h⟩
def cOwn (K : KD) (e : Nat) : CB := ⟨List K.β, 1, fun k bs x => match x with
    | .own i sz e' => (match bs with
      | .arr a :: r => bif Nat.beq i k && Nat.beq sz K.k.size && Nat.beq e' e then (K.un a).map fun l => (l, r) else none
      | _ => none)
    | _ => none, fun k l => .own k K.k.size e, fun _ l => [.arr (K.ar l)], (fun {k bs x a r} h => by
  split at h
  · rename_i i sz e'
    split at h
    · rename_i b r'
      cases hz : (Nat.beq i k && Nat.beq sz K.k.size && Nat.beq e' e) with
      | false => rw [hz] at h; cases h
      | true =>
        rw [hz] at h
        simp only [Bool.and_eq_true] at hz
        obtain ⟨⟨h1, h2⟩, h3⟩ := hz
        have h1 := Nat.eq_of_beq_eq_true h1
        have h2 := Nat.eq_of_beq_eq_true h2
        have h3 := Nat.eq_of_beq_eq_true h3
        subst h1; subst h2; subst h3
        simp only [cond_true] at h
        cases hu : K.un b with
        | none => rw [hu] at h; cases h
        | some l =>
          rw [hu] at h
          simp only [Option.map_some, Option.some.injEq, Prod.mk.injEq] at h
          obtain ⟨rfl, rfl⟩ := h
          rw [K.ok hu]
          exact ⟨rfl, cellFit.refl _⟩
    · cases h
  · cases h), true, fun _ {k bs x a r} h => by
  split at h
  · rename_i i sz e'
    split at h
    · rename_i b r'
      cases hz : (Nat.beq i k && Nat.beq sz K.k.size && Nat.beq e' e) with
      | false => rw [hz] at h; cases h
      | true =>
        simp only [Bool.and_eq_true] at hz
        obtain ⟨⟨h1, h2⟩, h3⟩ := hz
        rw [Nat.eq_of_beq_eq_true h1, Nat.eq_of_beq_eq_true h2, Nat.eq_of_beq_eq_true h3]
    · cases h
  · cases h⟩

def sU8sT : Sh := ofCell (fun | .arr true (.u8s l) => some l | .nilS => some [] | _ => none) (fun l => .arr true (.u8s l)) (fun {x a} h => by
  split at h
  · simp only [Option.some.injEq] at h; subst h; exact cellFit.refl _
  · simp only [Option.some.injEq] at h; subst h; exact nilFitZ true .u8
  · cases h) (fun l => (l.length : Int) ≤ big) (fun h => arr_len h)
def sIfc : Sh := ⟨Nat, fun | .c (.ifc n) => some n | _ => none, fun n => .c (.ifc n), (fun x a h => by
  split at h
  · simp only [Option.some.injEq] at h; subst h; exact fun _ _ h => h
  · cases h), fun _ => True, fun _ _ _ _ => trivial⟩

structure CL where
  α : Type
  nb : Nat
  len : Nat
  dec : Nat → List Blk → List Cell → Option (α × List Blk)
  encC : Nat → α → List Cell
  encB : Nat → α → List Blk
  ok : ∀ {k bs x a r}, dec k bs x = some (a, r) → bs = List.append (encB k a) r ∧ cellsFit x (encC k a)
  e : Bool
  eok : e = true → ∀ {k bs x a r}, dec k bs x = some (a, r) → x = encC k a
def cNil : CL := ⟨Unit, 0, 0, fun _ bs x => match x with | [] => some ((), bs) | _ :: _ => none, fun _ _ => [], fun _ _ => [], (fun {k bs x a r} h => by
  split at h
  · simp only [Option.some.injEq, Prod.mk.injEq, true_and] at h; subst h; exact ⟨rfl, trivial⟩
  · cases h), true, fun _ {k bs x a r} h => by
  split at h
  · rfl
  · cases h⟩
def cCons (A : CB) (L : CL) : CL := ⟨A.α × L.α, Nat.add A.nb L.nb, Nat.succ L.len, fun k bs x => match x with
    | [] => none
    | x :: xs => (A.dec k bs x).bind fun p => (L.dec (Nat.add k A.nb) p.2 xs).map fun q => ((p.1, q.1), q.2), fun k s => A.encC k s.1 :: L.encC (Nat.add k A.nb) s.2, fun k s => List.append (A.encB k s.1) (L.encB (Nat.add k A.nb) s.2), (fun {k bs x a r} h => by
  split at h
  · cases h
  · obtain ⟨p, h1, h⟩ := bind_some' h
    cases h2 : L.dec (Nat.add k A.nb) p.2 _ with
    | none => rw [h2] at h; cases h
    | some q =>
      rw [h2] at h
      simp only [Option.map_some, Option.some.injEq, Prod.mk.injEq] at h
      obtain ⟨rfl, rfl⟩ := h
      obtain ⟨e1, e2⟩ := A.ok (a := p.1) (r := p.2) h1
      obtain ⟨e3, e4⟩ := L.ok (a := q.1) (r := q.2) h2
      refine ⟨?_, e2, e4⟩
      rw [e1, e3]
      simp), (A.e && L.e), fun he {k bs x a r} h => by
  rw [Bool.and_eq_true] at he
  split at h
  · cases h
  · obtain ⟨p, h1, h⟩ := bind_some' h
    cases h2 : L.dec (Nat.add k A.nb) p.2 _ with
    | none => rw [h2] at h; cases h
    | some q =>
      rw [h2] at h
      simp only [Option.map_some, Option.some.injEq, Prod.mk.injEq] at h
      obtain ⟨rfl, rfl⟩ := h
      rw [A.eok he.1 (a := p.1) (r := p.2) h1, L.eok he.2 (a := q.1) (r := q.2) h2]⟩
theorem cellsFit_app {x1 y1 x2 y2 : List Cell} (h1 : cellsFit x1 y1) (h2 : cellsFit x2 y2) : cellsFit (x1 ++ x2) (y1 ++ y2) := by
  induction x1 generalizing y1 with
  | nil =>
    cases y1 with
    | nil => exact h2
    | cons y ys => exact h1.elim
  | cons x xs ih =>
    cases y1 with
    | nil => exact h1.elim
    | cons y ys => exact ⟨h1.1, ih h1.2⟩
def cApp (L M : CL) : CL := ⟨L.α × M.α, Nat.add L.nb M.nb, Nat.add L.len M.len, fun k bs x => (L.dec k bs (x.take L.len)).bind fun p => (M.dec (Nat.add k L.nb) p.2 (x.drop L.len)).map fun q => ((p.1, q.1), q.2),
    fun k s => List.append (L.encC k s.1) (M.encC (Nat.add k L.nb) s.2), fun k s => List.append (L.encB k s.1) (M.encB (Nat.add k L.nb) s.2), (fun {k bs x a r} h => by
    obtain ⟨p, h1, h⟩ := bind_some' h
    cases h2 : M.dec (Nat.add k L.nb) p.2 (x.drop L.len) with
    | none => rw [h2] at h; cases h
    | some q =>
      rw [h2] at h
      simp only [Option.map_some, Option.some.injEq, Prod.mk.injEq] at h
      obtain ⟨rfl, rfl⟩ := h
      obtain ⟨e1, e2⟩ := L.ok (a := p.1) (r := p.2) h1
      obtain ⟨e3, e4⟩ := M.ok (a := q.1) (r := q.2) h2
      refine ⟨?_, ?_⟩
      · rw [e1, e3]
        simp
      · have := cellsFit_app e2 e4
        rwa [List.take_append_drop] at this), (L.e && M.e), fun he {k bs x a r} h => by
    rw [Bool.and_eq_true] at he
    obtain ⟨p, h1, h⟩ := bind_some' h
    cases h2 : M.dec (Nat.add k L.nb) p.2 (x.drop L.len) with
    | none => rw [h2] at h; cases h
    | some q =>
      rw [h2] at h
      simp only [Option.map_some, Option.some.injEq, Prod.mk.injEq] at h
      obtain ⟨rfl, rfl⟩ := h
      have a1 := L.eok he.1 (a := p.1) (r := p.2) h1
      have a2 := M.eok he.2 (a := q.1) (r := q.2) h2
      calc x = x.take L.len ++ x.drop L.len := (List.take_append_drop _ _).symm
        _ = _ := by rw [a1, a2]; rfl⟩
def CL.iso (L : CL) {β : Type} (f : L.α → β) (g : β → L.α) (h : ∀ a, g (f a) = a) : CL := ⟨β, L.nb, L.len, fun k bs x => (L.dec k bs x).map fun p => (f p.1, p.2), fun k b => L.encC k (g b), fun k b => L.encB k (g b), (fun {k bs x a r} hx => by
  cases h2 : L.dec k bs x with
  | none => rw [h2] at hx; cases hx
  | some p =>
    rw [h2] at hx
    simp only [Option.map_some, Option.some.injEq, Prod.mk.injEq] at hx
    obtain ⟨rfl, rfl⟩ := hx
    rw [h]
    exact L.ok (a := p.1) (r := p.2) h2), L.e, fun he {k bs x a r} hx => by
  cases h2 : L.dec k bs x with
  | none => rw [h2] at hx; cases hx
  | some p =>
    rw [h2] at hx
    simp only [Option.map_some, Option.some.injEq, Prod.mk.injEq] at hx
    obtain ⟨rfl, rfl⟩ := hx
    rw [h]
    exact L.eok he (a := p.1) (r := p.2) h2⟩
def cRow (m sz e : Nat) (L : CL) (he : L.e = true) : CB := ⟨L.α, Nat.succ L.nb, fun k bs x => match x with
    | .own i sz' e' => (match bs with
      | .raw m' cs :: r => bif Nat.beq i k && Nat.beq sz' sz && Nat.beq e' e && Nat.beq m' m then L.dec (Nat.succ k) r cs else none
      | _ => none)
    | _ => none, fun k _ => .own k sz e, fun k a => .raw m (L.encC (Nat.succ k) a) :: L.encB (Nat.succ k) a, (fun {k bs x a r} h => by
  split at h
  · rename_i i sz' e'
    split at h
    · rename_i m' cs r'
      cases hz : (Nat.beq i k && Nat.beq sz' sz && Nat.beq e' e && Nat.beq m' m) with
      | false => rw [hz] at h; cases h
      | true =>
        rw [hz] at h
        simp only [Bool.and_eq_true] at hz
        obtain ⟨⟨⟨h1, h2⟩, h3⟩, h4⟩ := hz
        rw [Nat.eq_of_beq_eq_true h1, Nat.eq_of_beq_eq_true h2, Nat.eq_of_beq_eq_true h3, Nat.eq_of_beq_eq_true h4]
        simp only [cond_true] at h
        rw [L.eok he h]
        exact ⟨congrArg _ (L.ok h).1, cellFit.refl _⟩
    · cases h
  · cases h), true, fun _ {k bs x a r} h => by
  split at h
  · rename_i i sz' e'
    split at h
    · rename_i m' cs r'
      cases hz : (Nat.beq i k && Nat.beq sz' sz && Nat.beq e' e && Nat.beq m' m) with
      | false => rw [hz] at h; cases h
      | true =>
        simp only [Bool.and_eq_true] at hz
        obtain ⟨⟨⟨h1, h2⟩, h3⟩, h4⟩ := hz
        rw [Nat.eq_of_beq_eq_true h1, Nat.eq_of_beq_eq_true h2, Nat.eq_of_beq_eq_true h3]
    · cases h
  · cases h⟩
def cPtr (m : Nat) (L : CL) (he : L.e = true) : CB := ⟨L.α, Nat.succ L.nb, fun k bs x => match x with
    | .ptr i o => (match bs with
      | .raw m' cs :: r => bif Nat.beq i k && Nat.beq o 0 && Nat.beq m' m then L.dec (Nat.succ k) r cs else none
      | _ => none)
    | _ => none, fun k _ => .ptr k 0, fun k a => .raw m (L.encC (Nat.succ k) a) :: L.encB (Nat.succ k) a, (fun {k bs x a r} h => by
  split at h
  · rename_i i o
    split at h
    · rename_i m' cs r'
      cases hz : (Nat.beq i k && Nat.beq o 0 && Nat.beq m' m) with
      | false => rw [hz] at h; cases h
      | true =>
        rw [hz] at h
        simp only [Bool.and_eq_true] at hz
        obtain ⟨⟨h1, h2⟩, h4⟩ := hz
        rw [Nat.eq_of_beq_eq_true h1, Nat.eq_of_beq_eq_true h2, Nat.eq_of_beq_eq_true h4]
        simp only [cond_true] at h
        rw [L.eok he h]
        exact ⟨congrArg _ (L.ok h).1, cellFit.refl _⟩
    · cases h
  · cases h), true, fun _ {k bs x a r} h => by
  split at h
  · rename_i i o
    split at h
    · rename_i m' cs r'
      cases hz : (Nat.beq i k && Nat.beq o 0 && Nat.beq m' m) with
      | false => rw [hz] at h; cases h
      | true =>
        simp only [Bool.and_eq_true] at hz
        obtain ⟨⟨h1, h2⟩, h4⟩ := hz
        rw [Nat.eq_of_beq_eq_true h1, Nat.eq_of_beq_eq_true h2]
    · cases h
  · cases h⟩

def cTail (m sz e : Nat) (L : CL) (he : L.e = true) : CB := ⟨Nat × L.α, Nat.succ L.nb, fun k bs x => match x with
    | .tail i sz' e' t => (match bs with
      | .raw m' cs :: r => bif Nat.beq i k && Nat.beq sz' sz && Nat.beq e' e && Nat.beq m' m then (L.dec (Nat.succ k) r cs).map fun p => ((t, p.1), p.2) else none
      | _ => none)
    | _ => none, fun k a => .tail k sz e a.1, fun k a => .raw m (L.encC (Nat.succ k) a.2) :: L.encB (Nat.succ k) a.2, (fun {k bs x a r} h => by
  split at h
  · rename_i i sz' e' t
    split at h
    · rename_i m' cs r'
      cases hz : (Nat.beq i k && Nat.beq sz' sz && Nat.beq e' e && Nat.beq m' m) with
      | false => rw [hz] at h; cases h
      | true =>
        rw [hz] at h
        simp only [Bool.and_eq_true] at hz
        obtain ⟨⟨⟨h1, h2⟩, h3⟩, h4⟩ := hz
        rw [Nat.eq_of_beq_eq_true h1, Nat.eq_of_beq_eq_true h2, Nat.eq_of_beq_eq_true h3, Nat.eq_of_beq_eq_true h4]
        simp only [cond_true] at h
        cases h5 : L.dec (Nat.succ k) r' cs with
        | none => rw [h5] at h; cases h
        | some p =>
          rw [h5] at h
          simp only [Option.map_some, Option.some.injEq, Prod.mk.injEq] at h
          obtain ⟨rfl, rfl⟩ := h
          rw [L.eok he (a := p.1) (r := p.2) h5]
          exact ⟨congrArg _ (L.ok (a := p.1) (r := p.2) h5).1, cellFit.refl _⟩
    · cases h
  · cases h), true, fun _ {k bs x a r} h => by
  split at h
  · rename_i i sz' e' t
    split at h
    · rename_i m' cs r'
      cases hz : (Nat.beq i k && Nat.beq sz' sz && Nat.beq e' e && Nat.beq m' m) with
      | false => rw [hz] at h; cases h
      | true =>
        rw [hz] at h
        simp only [Bool.and_eq_true] at hz
        obtain ⟨⟨⟨h1, h2⟩, h3⟩, h4⟩ := hz
        simp only [cond_true] at h
        cases h5 : L.dec (Nat.succ k) r' cs with
        | none => rw [h5] at h; cases h
        | some p =>
          rw [h5] at h
          simp only [Option.map_some, Option.some.injEq, Prod.mk.injEq] at h
          obtain ⟨rfl, rfl⟩ := h
          rw [Nat.eq_of_beq_eq_true h1, Nat.eq_of_beq_eq_true h2, Nat.eq_of_beq_eq_true h3]
    · cases h
  · cases h⟩
def cMk : CB := ⟨List St, 0, fun _ bs x => match x with | .mk l 0 => some (l, bs) | _ => none, fun _ l => .mk l 0, fun _ _ => [], (fun {k bs x a r} h => by
  split at h
  · simp only [Option.some.injEq, Prod.mk.injEq] at h; obtain ⟨rfl, rfl⟩ := h; exact ⟨rfl, cellFit.refl _⟩
  · cases h), true, fun _ {k bs x a r} h => by
  split at h
  · simp only [Option.some.injEq, Prod.mk.injEq] at h; obtain ⟨rfl, rfl⟩ := h; rfl
  · cases h⟩
def cClo (f m : Nat) (L : CL) (he : L.e = true) : CB := ⟨L.α, Nat.succ L.nb, fun k bs x => match x with
    | .clo g i => (match bs with
      | .raw m' cs :: r => bif Nat.beq i k && Nat.beq g f && Nat.beq m' m then L.dec (Nat.succ k) r cs else none
      | _ => none)
    | _ => none, fun k _ => .clo f k, fun k a => .raw m (L.encC (Nat.succ k) a) :: L.encB (Nat.succ k) a, (fun {k bs x a r} h => by
  split at h
  · rename_i g i
    split at h
    · rename_i m' cs r'
      cases hz : (Nat.beq i k && Nat.beq g f && Nat.beq m' m) with
      | false => rw [hz] at h; cases h
      | true =>
        rw [hz] at h
        simp only [Bool.and_eq_true] at hz
        obtain ⟨⟨h1, h2⟩, h4⟩ := hz
        rw [Nat.eq_of_beq_eq_true h1, Nat.eq_of_beq_eq_true h2, Nat.eq_of_beq_eq_true h4]
        simp only [cond_true] at h
        rw [L.eok he h]
        exact ⟨congrArg _ (L.ok h).1, cellFit.refl _⟩
    · cases h
  · cases h), true, fun _ {k bs x a r} h => by
  split at h
  · rename_i g i
    split at h
    · rename_i m' cs r'
      cases hz : (Nat.beq i k && Nat.beq g f && Nat.beq m' m) with
      | false => rw [hz] at h; cases h
      | true =>
        simp only [Bool.and_eq_true] at hz
        obtain ⟨⟨h1, h2⟩, h4⟩ := hz
        rw [Nat.eq_of_beq_eq_true h1, Nat.eq_of_beq_eq_true h2]
    · cases h
  · cases h⟩
def cMap : CB := ⟨List Int, 1, fun k bs x => match x with
    | .mp i => (match bs with
      | .mp l :: r => bif Nat.beq i k then some (l, r) else none
      | _ => none)
    | _ => none, fun k _ => .mp k, fun _ l => [.mp l], (fun {k bs x a r} h => by
  split at h
  · rename_i i
    split at h
    · rename_i l r'
      cases hz : Nat.beq i k with
      | false => rw [hz] at h; cases h
      | true =>
        rw [hz] at h
        have hz := Nat.eq_of_beq_eq_true hz
        subst hz
        simp only [cond_true, Option.some.injEq, Prod.mk.injEq] at h
        obtain ⟨rfl, rfl⟩ := h
        exact ⟨rfl, cellFit.refl _⟩
    · cases h
  · cases h), true, fun _ {k bs x a r} h => by
  split at h
  · rename_i i
    split at h
    · rename_i l r'
      cases hz : Nat.beq i k with
      | false => rw [hz] at h; cases h
      | true => rw [Nat.eq_of_beq_eq_true hz]
    · cases h
  · cases h⟩
def cAl (i sz e : Nat) : CB := ⟨Unit, 0, fun _ bs x => match x with
    | .own i' sz' e' => bif Nat.beq i' i && Nat.beq sz' sz && Nat.beq e' e then some ((), bs) else none
    | _ => none, fun _ _ => .own i sz e, fun _ _ => [], (fun {k bs x a r} h => by
  split at h
  · rename_i i' sz' e'
    cases hz : (Nat.beq i' i && Nat.beq sz' sz && Nat.beq e' e) with
    | false => rw [hz] at h; cases h
    | true =>
      rw [hz] at h
      simp only [Bool.and_eq_true] at hz
      obtain ⟨⟨h1, h2⟩, h3⟩ := hz
      simp only [cond_true, Option.some.injEq, Prod.mk.injEq, true_and] at h
      subst h
      rw [Nat.eq_of_beq_eq_true h1, Nat.eq_of_beq_eq_true h2, Nat.eq_of_beq_eq_true h3]
      exact ⟨rfl, cellFit.refl _⟩
  · cases h), true, fun _ {k bs x a r} h => by
  split at h
  · rename_i i' sz' e'
    cases hz : (Nat.beq i' i && Nat.beq sz' sz && Nat.beq e' e) with
    | false => rw [hz] at h; cases h
    | true =>
      simp only [Bool.and_eq_true] at hz
      obtain ⟨⟨h1, h2⟩, h3⟩ := hz
      rw [Nat.eq_of_beq_eq_true h1, Nat.eq_of_beq_eq_true h2, Nat.eq_of_beq_eq_true h3]
  · cases h⟩

def cPkt : CL := (cCons cInt (cCons cInt (cCons cInt (cCons cInt (cCons cInt (cCons cInt (cCons cInt cNil))))))).iso (fun s => (⟨s.1, s.2.1, s.2.2.1, s.2.2.2.1, s.2.2.2.2.1, s.2.2.2.2.2.1, s.2.2.2.2.2.2.1⟩ : Pkt)) (fun p => (p.seq, p.kind, p.frm, p.to, p.sum, p.til, p.ver, ())) (fun _ => rfl)
def cWs : CL := (cCons cInt (cCons cFnv (cCons cFnv cNil))).iso (fun s => (⟨s.1, s.2.1, s.2.2.1⟩ : Ws)) (fun p => (p.step, p.may, p.act, ())) (fun _ => rfl)
def cEv : CL := (cCons cInt (cCons cInt (cCons cInt (cCons cInt (cApp cPkt cNil))))).iso (fun s => (⟨s.1, s.2.1, s.2.2.1, s.2.2.2.1, s.2.2.2.2.1⟩ : Ev)) (fun p => (p.kind, p.chain, p.height, p.n, p.pkt, ())) (fun _ => rfl)
def cSt (z : Bool) : CL := (cCons cInt (cCons cInt (cCons cInt (cCons (cArr z kPkts) (cCons (cArr z kBools) (cCons (cArr z kBools) (cCons (cArr z kInts) cNil))))))).iso (fun s => (⟨s.1, s.2.1, s.2.2.1, s.2.2.2.1, s.2.2.2.2.1, s.2.2.2.2.2.1, s.2.2.2.2.2.2.1⟩ : St)) (fun p => (p.way, p.ver, p.want, p.sent, p.live, p.back, p.got, ())) (fun _ => rfl)
def cStE (z : Bool) : CL := (cCons cInt (cCons cInt (cCons cInt (cCons (cArrE z kPkts) (cCons (cArrE z kBools) (cCons (cArrE z kBools) (cCons (cArrE z kInts) cNil))))))).iso (fun s => (⟨s.1, s.2.1, s.2.2.1, s.2.2.2.1, s.2.2.2.2.1, s.2.2.2.2.2.1, s.2.2.2.2.2.2.1⟩ : St)) (fun p => (p.way, p.ver, p.want, p.sent, p.live, p.back, p.got, ())) (fun _ => rfl)
def cStO : CL := (cCons cInt (cCons cInt (cCons cInt (cCons (cOwn kPkts 49) (cCons (cOwn kBools 4) (cCons (cOwn kBools 4) (cCons (cOwn kInts 3) cNil))))))).iso (fun s => (⟨s.1, s.2.1, s.2.2.1, s.2.2.2.1, s.2.2.2.2.1, s.2.2.2.2.2.1, s.2.2.2.2.2.2.1⟩ : St)) (fun p => (p.way, p.ver, p.want, p.sent, p.live, p.back, p.got, ())) (fun _ => rfl)
def cBk (z : Bool) : CL := (cCons (cArr z kInts) (cCons (cArr z kInts) (cCons cInt cNil))).iso (fun s => (⟨s.1, s.2.1, s.2.2.1⟩ : Bk)) (fun b => (b.own, b.notes, b.locked, ())) (fun _ => rfl)
def cBkE (z : Bool) : CL := (cCons (cArrE z kInts) (cCons (cArrE z kInts) (cCons cInt cNil))).iso (fun s => (⟨s.1, s.2.1, s.2.2.1⟩ : Bk)) (fun b => (b.own, b.notes, b.locked, ())) (fun _ => rfl)
def cBkO : CL := (cCons (cOwn kInts 3) (cCons (cOwn kInts 3) (cCons cInt cNil))).iso (fun s => (⟨s.1, s.2.1, s.2.2.1⟩ : Bk)) (fun b => (b.own, b.notes, b.locked, ())) (fun _ => rfl)
def cCh (z : Bool) : CL := (cCons cInt (cApp (cBk z) (cApp (cSt z) (cCons (cArr z kSts) (cCons (cArr z kInts) cNil))))).iso (fun s => (⟨s.1, s.2.1, s.2.2.1, s.2.2.2.1, s.2.2.2.2.1⟩ : Ch)) (fun c => (c.id, c.bank, c.st, c.past, c.knows, ())) (fun _ => rfl)
def cChE (z : Bool) : CL := (cCons cInt (cApp (cBkE z) (cApp (cStE z) (cCons (cArrE z kSts) (cCons (cArrE z kInts) cNil))))).iso (fun s => (⟨s.1, s.2.1, s.2.2.1, s.2.2.2.1, s.2.2.2.2.1⟩ : Ch)) (fun c => (c.id, c.bank, c.st, c.past, c.knows, ())) (fun _ => rfl)
def cChO : CL := (cCons cInt (cApp cBkO (cApp cStO (cCons (cOwn kSts 45) (cCons (cOwn kInts 3) cNil))))).iso (fun s => (⟨s.1, s.2.1, s.2.2.1, s.2.2.2.1, s.2.2.2.2.1⟩ : Ch)) (fun c => (c.id, c.bank, c.st, c.past, c.knows, ())) (fun _ => rfl)

def cLdg : CL := (cCons cMap (cCons cMap (cCons cInt cNil))).iso (fun s => (⟨s.1, s.2.1, s.2.2.1⟩ : Bk)) (fun b => (b.own, b.notes, b.locked, ())) (fun _ => rfl)
def cLkO : CL := (cApp cBkO (cCons cInt (cApp cStO (cCons cMk (cCons cInt (cCons (cOwn kInts 3) cNil)))))).iso (fun s => (⟨s.1, s.2.1, s.2.2.1, s.2.2.2.1, s.2.2.2.2.1, s.2.2.2.2.2.1⟩ : Lk)) (fun l => (l.bank, l.id, l.st, l.marks, l.count, l.knows, ())) (fun _ => rfl)

structure FB where
  α : Type
  nb : Nat
  dec : Nat → List Blk → FV → Option (α × List Blk)
  encF : Nat → α → FV
  encB : Nat → α → List Blk
  ok : ∀ {k bs x a r}, dec k bs x = some (a, r) → bs = List.append (encB k a) r ∧ fvFit x (encF k a)
def fC (A : CB) : FB := ⟨A.α, A.nb, fun k bs x => match x with | .c x => A.dec k bs x | .agg _ => none, fun k a => .c (A.encC k a), A.encB, fun {k bs x a r} h => by
  split at h
  · exact A.ok h
  · cases h⟩
def fAgg (L : CL) : FB := ⟨L.α, L.nb, fun k bs x => match x with | .agg x => L.dec k bs x | .c _ => none, fun k a => .agg (L.encC k a), L.encB, fun {k bs x a r} h => by
  split at h
  · exact ⟨(L.ok h).1, aggFit (L.ok h).2⟩
  · cases h⟩
def fSh (A : Sh) : FB := ⟨A.α, 0, fun k bs x => (A.dec x).map fun a => (a, bs), fun _ a => A.enc a, fun _ _ => [], fun {k bs x a r} h => by
  cases h2 : A.dec x with
  | none => rw [h2] at h; cases h
  | some a =>
    rw [h2] at h
    simp only [Option.map_some, Option.some.injEq, Prod.mk.injEq] at h
    obtain ⟨rfl, rfl⟩ := h
    exact ⟨rfl, A.fit _ _ h2⟩⟩
structure FL where
  α : Type
  len : Nat
  dec : Nat → List Blk → List FV → Option (α × List Blk)
  encF : Nat → α → List FV
  encB : Nat → α → List Blk
  ok : ∀ {k bs x a r}, dec k bs x = some (a, r) → bs = List.append (encB k a) r ∧ Fits x (encF k a)
  lenOk : ∀ k a, (encF k a).length = len
theorem Fits.cons {x y : FV} {xs ys : List FV} (h : fvFit x y) (hs : Fits xs ys) : Fits (x :: xs) (y :: ys) := by
  refine ⟨by simp [hs.1], fun q z hz => ?_⟩
  cases q with
  | zero =>
    simp only [List.getElem?_cons_zero, Option.some.injEq] at hz
    subst hz
    exact ⟨x, rfl, h⟩
  | succ q => simpa using hs.2 q z (by simpa using hz)
def fNil : FL := ⟨Unit, 0, fun _ bs x => match x with | [] => some ((), bs) | _ :: _ => none, fun _ _ => [], fun _ _ => [], (fun {k bs x a r} h => by
  split at h
  · simp only [Option.some.injEq, Prod.mk.injEq, true_and] at h; subst h; exact ⟨rfl, Fits.refl _⟩
  · cases h), fun _ _ => rfl⟩
def fCons (A : FB) (L : FL) : FL := ⟨A.α × L.α, Nat.succ L.len, fun k bs x => match x with
    | [] => none
    | x :: xs => (A.dec k bs x).bind fun p => (L.dec (Nat.add k A.nb) p.2 xs).map fun q => ((p.1, q.1), q.2), fun k s => A.encF k s.1 :: L.encF (Nat.add k A.nb) s.2, fun k s => List.append (A.encB k s.1) (L.encB (Nat.add k A.nb) s.2), (fun {k bs x a r} h => by
  split at h
  · cases h
  · obtain ⟨p, h1, h⟩ := bind_some' h
    cases h2 : L.dec (Nat.add k A.nb) p.2 _ with
    | none => rw [h2] at h; cases h
    | some q =>
      rw [h2] at h
      simp only [Option.map_some, Option.some.injEq, Prod.mk.injEq] at h
      obtain ⟨rfl, rfl⟩ := h
      obtain ⟨e1, e2⟩ := A.ok (a := p.1) (r := p.2) h1
      obtain ⟨e3, e4⟩ := L.ok (a := q.1) (r := q.2) h2
      refine ⟨?_, Fits.cons e2 e4⟩
      rw [e1, e3]
      simp), fun k s => by rw [List.length_cons, L.lenOk]⟩
def FL.dec0 (L : FL) (bs : List Blk) (xs : List FV) : Option L.α := match L.dec 0 bs xs with
  | some (a, []) => some a
  | _ => none
def FL.inp (L : FL) (a : L.α) : List Blk × List FV := (L.encB 0 a, L.encF 0 a)
theorem FL.hdec (L : FL) {bs : List Blk} {xs : List FV} {a : L.α} (h : L.dec0 bs xs = some a) : (L.inp a).1 = bs ∧ Fits xs (L.inp a).2 := by
  unfold FL.dec0 at h
  split at h
  · rename_i b hb
    simp only [Option.some.injEq] at h
    subst h
    obtain ⟨h1, h2⟩ := L.ok hb
    exact ⟨by rw [h1]; simp [FL.inp], h2⟩
  · cases h

def ldat (key : Nat) (keep : List Nat) (shp : Shp) (L : FL) (pre : L.α → Prop) (alts : L.α → List (Bool × Ex × List FV × List Blk)) (last : L.α → Ex × List FV × List Blk) (μ : L.α → Nat) (pn : Nat := 0) (kx : Ex → List Nat := fun _ => keep) (sx : Ex → Shp := fun _ => shp) : LDat := ⟨key, keep, shp, L.α, L.dec0, L.inp, pre, alts, last, μ, pn, kx, sx⟩
theorem wrap_id {n : Int} (h1 : -9223372036854775808 ≤ n) (h2 : n ≤ 9223372036854775807) : wrap n = n := by
  have e1 : (2 : Int) ^ IntKind.i64.bits = 18446744073709551616 := by decide
  have e2 : (2 : Int) ^ (IntKind.i64.bits - 1) = 9223372036854775808 := by decide
  unfold wrap IntKind.wrap
  simp only [Bool.and_eq_true, decide_eq_true_eq, ge_iff_le]
  simp only [e1, e2, show IntKind.i64.signed = true from rfl, true_and]
  split <;> omega
theorem chs_get {l : List Ch} (h : chsFact l) (k : Nat) : (l.getD k zCh).fact := by
  rcases Nat.lt_or_ge k l.length with hk | hk
  · rw [List.getD_eq_getElem?_getD, List.getElem?_eq_getElem hk]
    exact h.2 _ (List.getElem_mem hk)
  · rw [List.getD_eq_getElem?_getD, List.getElem?_eq_none hk]
    exact ⟨⟨by decide, by decide⟩, ⟨by decide, by decide, by decide, by decide⟩, ⟨by decide, fun s h => by cases h⟩, by decide⟩
theorem sts_get {l : List St} (h : stsFact l) (k : Nat) : (l.getD k zSt).fact := by
  rcases Nat.lt_or_ge k l.length with hk | hk
  · rw [List.getD_eq_getElem?_getD, List.getElem?_eq_getElem hk]
    exact h.2 _ (List.getElem_mem hk)
  · rw [List.getD_eq_getElem?_getD, List.getElem?_eq_none hk]
    exact ⟨by decide, by decide, by decide, by decide⟩
theorem chs_1 {l : List Ch} (h : chsFact l) (k : Nat) : ((l.getD k zCh).knows.length) ≤ 9223372036854775807 := Int.ofNat_le.1 ((chs_get h k).2.2.2)
theorem chs_2 {l : List Ch} (h : chsFact l) (k : Nat) : ((l.getD k zCh).past.length) ≤ 9223372036854775807 := Int.ofNat_le.1 ((chs_get h k).2.2.1.1)
theorem chs_3 {l : List Ch} (h : chsFact l) (k : Nat) : ((l.getD k zCh).st.sent.length) ≤ 9223372036854775807 := Int.ofNat_le.1 ((chs_get h k).2.1.1)
theorem chs_4 {l : List Ch} (h : chsFact l) (k : Nat) : stsFact (l.getD k zCh).past := (chs_get h k).2.2.1
theorem chs_5 {l : List Ch} (h : chsFact l) : l.length ≤ 9223372036854775807 := Int.ofNat_le.1 (h.1)
theorem sts_1 {l : List St} (h : stsFact l) (k : Nat) : ((l.getD k zSt).sent.length) ≤ 9223372036854775807 := Int.ofNat_le.1 ((sts_get h k).1)
theorem sts_2 {l : List St} (h : stsFact l) : l.length ≤ 9223372036854775807 := Int.ofNat_le.1 (h.1)
theorem wrap_hi {n : Int} (h1 : 9223372036854775808 ≤ n) (h2 : n ≤ 27670116110564327423) : wrap n = n - 18446744073709551616 := by
  have e1 : (2 : Int) ^ IntKind.i64.bits = 18446744073709551616 := by decide
  have e2 : (2 : Int) ^ (IntKind.i64.bits - 1) = 9223372036854775808 := by decide
  unfold wrap IntKind.wrap
  simp only [Bool.and_eq_true, decide_eq_true_eq, ge_iff_le]
  simp only [e1, e2, show IntKind.i64.signed = true from rfl, true_and]
  split <;> omega
theorem wrap_lo {n : Int} (h1 : -27670116110564327424 ≤ n) (h2 : n ≤ -9223372036854775809) : wrap n = n + 18446744073709551616 := by
  have e1 : (2 : Int) ^ IntKind.i64.bits = 18446744073709551616 := by decide
  have e2 : (2 : Int) ^ (IntKind.i64.bits - 1) = 9223372036854775808 := by decide
  unfold wrap IntKind.wrap
  simp only [Bool.and_eq_true, decide_eq_true_eq, ge_iff_le]
  simp only [e1, e2, show IntKind.i64.signed = true from rfl, true_and]
  split <;> omega
theorem tmod_1 {a b : Int} (h : 0 ≤ a) : 0 ≤ a.tmod b := Int.tmod_nonneg b h
theorem tmod_2 {a b : Int} (hb : 0 < b) : a.tmod b < b := Int.tmod_lt_of_pos a hb
theorem loopE {A R : Type} (F : Nat → Int → A → R) (N : Nat) (hN : (N : Int) ≤ 9223372036854775807) (acc : Nat → A) (E : Nat → A → Option R) (fin : Nat → A → R)
    (hF : ∀ n k, k ≤ N → F (n + 1) (k : Int) (acc k) = bif decide ((k : Int) < (N : Int)) then (match E k (acc k) with | some r => r | none => F n (wrap ((k : Int) + 1)) (acc (k + 1))) else fin k (acc k)) :
    ((∀ k, k < N → E k (acc k) = none) ∧ F (N + 1) 0 (acc 0) = fin N (acc N)) ∨ (∃ k r, k < N ∧ E k (acc k) = some r ∧ (∀ j, j < k → E j (acc j) = none) ∧ F (N + 1) 0 (acc 0) = r) := by
  have key : ∀ m k, k + m = N → (∀ j, j < k → E j (acc j) = none) → ((∀ k, k < N → E k (acc k) = none) ∧ F (m + 1) (k : Int) (acc k) = fin N (acc N)) ∨ (∃ k' r, k' < N ∧ E k' (acc k') = some r ∧ (∀ j, j < k' → E j (acc j) = none) ∧ F (m + 1) (k : Int) (acc k) = r) := by
    intro m
    induction m with
    | zero =>
      intro k hk hb
      obtain rfl : k = N := by omega
      left
      refine ⟨hb, ?_⟩
      rw [hF 0 k (Nat.le_refl _), show decide ((k : Int) < (k : Int)) = false by simp]
      rfl
    | succ m ih =>
      intro k hk hb
      rw [hF (m + 1) k (by omega), show decide ((k : Int) < (N : Int)) = true by simp; omega]
      simp only [cond_true]
      cases hbk : E k (acc k) with
      | some r => right; exact ⟨k, r, by omega, hbk, hb, rfl⟩
      | none =>
        simp only
        rw [wrap_id (by omega) (by omega), show ((k : Int) + 1) = ((k + 1 : Nat) : Int) by omega]
        refine ih (k + 1) (by omega) fun j hj => ?_
        rcases Nat.lt_or_ge j k with h | h
        · exact hb j h
        · obtain rfl : j = k := by omega
          exact hbk
  exact key N 0 (by omega) fun j hj => by omega
theorem cond_t {α : Type} {c : Bool} {a b : α} (h : c = true) : (bif c then a else b) = a := by rw [h]; rfl
theorem cond_f {α : Type} {c : Bool} {a b : α} (h : c = false) : (bif c then a else b) = b := by rw [h]; rfl
theorem bif_tf {a b : Bool} : ((bif a then b else false) = true) ↔ a = true ∧ b = true := by cases a <;> simp
theorem bif_ft {a b : Bool} : ((bif a then true else b) = false) ↔ a = false ∧ b = false := by cases a <;> simp
def St.sm (s : St) : Prop := s.sent.length ≤ 4294967296 ∧ s.live.length ≤ 4294967296 ∧ s.back.length ≤ 4294967296 ∧ s.got.length ≤ 4294967296
def Bk.sm (b : Bk) : Prop := b.own.length ≤ 4294967296 ∧ b.notes.length ≤ 4294967296
def stsSm (l : List St) : Prop := l.length ≤ 4294967296 ∧ ∀ k, (l.getD k zSt).sm
def Ch.sm (c : Ch) : Prop := c.bank.sm ∧ c.st.sm ∧ stsSm c.past ∧ c.knows.length ≤ 4294967296
def chsSm (l : List Ch) : Prop := l.length ≤ 4294967296 ∧ ∀ k, (l.getD k zCh).sm
def bodyAt (fn : Func) (i : Nat) : Code := getL .skip (loopsOf (bodyOf fn)) i
def bodyIn (c : Code) (i : Nat) : Code := getL .skip (loopsOf c) i
theorem lgood {G : List Ctr} {LL : List LCtr} {sz : Nat} {body : Code} {key : Nat} {keep : List Nat} {shp : Shp} {L : FL} {pre : L.α → Prop} {alts : L.α → List (Bool × Ex × List FV × List Blk)} {last : L.α → Ex × List FV × List Blk} {μ : L.α → Nat}
    (hG : ∀ c ∈ G, Good Try.prog c) (hk : codeOkB sz body = true) (hl : ∀ b ∈ loopsOf body, ∀ l, lcOf LL (firstR b) = some l → LGood Try.prog sz l b)
    (hb : ∀ s, pre s → evBody (env G) LL body (ldat key keep shp L pre alts last μ) s) : LGood Try.prog sz (ldat key keep shp L pre alts last μ).ctr body :=
  loop_ok mixed (tyOK G) hG (ldat key keep shp L pre alts last μ) (codeOk_of hk hl) (fun bs xs s h => L.hdec h) hb
theorem lgoodS {G : List Ctr} {sp : List (Nat × List (List (Nat × Nat)))} {LL : List LCtr} {sz : Nat} {body : Code} {key : Nat} {keep : List Nat} {shp : Shp} {L : FL} {pre : L.α → Prop} {alts : L.α → List (Bool × Ex × List FV × List Blk)} {last : L.α → Ex × List FV × List Blk} {μ : L.α → Nat}
    (hG : ∀ c ∈ G, Good Try.prog c) (hk : codeOkB sz body = true) (hl : ∀ b ∈ loopsOf body, ∀ l, lcOf LL (firstR b) = some l → LGood Try.prog sz l b)
    (hb : ∀ s, pre s → evBody (envS G sp) LL body (ldat key keep shp L pre alts last μ) s) : LGood Try.prog sz (ldat key keep shp L pre alts last μ).ctr body :=
  loop_ok mixed (tyOKS G sp) hG (ldat key keep shp L pre alts last μ) (codeOk_of hk hl) (fun bs xs s h => L.hdec h) hb
def hctr (fid : Nat) (vw : List Bool) (L : FL) (pre : Option (L.α → Prop)) (out : L.α → AV × List Blk) : Ctr := ⟨fid, vw, L.α, L.dec0, L.inp, pre, out⟩
theorem hgood {sh : Shp} {tk : List Nat} {G : List Ctr} {sp : List (Nat × List (List (Nat × Nat)))} {LL : List LCtr} {fid : Nat} {vw : List Bool} {fn : Func} {L : FL} {pre : Option (L.α → Prop)} {out : L.α → AV × List Blk} (hG : ∀ c ∈ G, Good Try.prog c) (hf : Try.prog.funcs[fid]? = some fn) (hk : fnOkB fn L.len = true)
    (hl : ∀ b ∈ loopsOf (bodyOf fn), ∀ l, lcOf LL (firstR b) = some l → LGood Try.prog fn.ntmps l b)
    (hev : ∀ s, (∀ p, pre = some p → p s) → evFn (envS G sp) LL sh tk fn (L.inp s).1 (L.inp s).2 fun r bs' => And (r = (out s).1) (bs' = (out s).2)) : Good Try.prog (hctr fid vw L pre out) := by
  unfold fnOkB at hk
  simp only [Bool.and_eq_true, Bool.not_eq_true'] at hk
  obtain ⟨⟨⟨k1, k2⟩, k3⟩, k4⟩ := hk
  have hb : fn.body = some (bodyOf fn) := by
    unfold bodyOf
    cases h : fn.body with
    | none => rw [h] at k1; cases k1
    | some c => rfl
  exact fn_ok (c := hctr fid vw L pre out) mixed (tyOKS G sp) hG hf hb k2 (codeOk_of k3 hl) (fun bs args s h => L.hdec h) (fun s => Nat.le_trans (Nat.le_of_eq (L.lenOk 0 s)) (Nat.le_of_ble_eq_true k4)) (fun s C vs _ hv hp => hev s hp)
def allCut (P : Program) (ct : List LCtr) (sz : Nat) : List Code → Prop
  | [] => True
  | b :: r => (match lcOf ct (firstR b) with
    | none => True
    | some l => CGood P sz l b) ∧ allCut P ct sz r
theorem allCut_of {P : Program} {ct : List LCtr} {sz : Nat} : ∀ {bs : List Code}, allCut P ct sz bs → ∀ b ∈ bs, ∀ l, lcOf ct (firstR b) = some l → CGood P sz l b
  | [], _, b, hb, _, _ => by cases hb
  | x :: r, h, b, hb, l, hl => by
    rcases List.mem_cons.1 hb with rfl | hb
    · have := h.1
      rw [hl] at this
      exact this
    · exact allCut_of h.2 b hb l hl
theorem lgoodC {G : List Ctr} {sp : List (Nat × List (List (Nat × Nat)))} {ct LL : List LCtr} {lst : Bool} {sz : Nat} {body : Code} {key : Nat} {keep : List Nat} {shp : Shp} {L : FL} {pre : L.α → Prop} {alts : L.α → List (Bool × Ex × List FV × List Blk)} {last : L.α → Ex × List FV × List Blk} {μ : L.α → Nat} {pn : Nat} {kx : Ex → List Nat} {sx : Ex → Shp}
    (hG : ∀ c ∈ G, Good Try.prog c) (hk : codeOkB sz body = true) (hl : ∀ b ∈ loopsOf body, ∀ l, lcOf LL (firstR b) = some l → LGood Try.prog sz l b) (hc : ∀ b ∈ cutsOf body, ∀ l, lcOf ct (firstR b) = some l → CGood Try.prog sz l b)
    (hb : ∀ s, pre s → evBody (envC G sp ct lst) LL body (ldat key keep shp L pre alts last μ pn kx sx) s) : LGood Try.prog sz (ldat key keep shp L pre alts last μ pn kx sx).ctr body :=
  loop_ok mixed (tyOKC G sp ct lst) hG (ldat key keep shp L pre alts last μ pn kx sx) (codeOk_ofC hk hl hc) (fun bs xs s h => L.hdec h) hb
theorem cgood {G : List Ctr} {sp : List (Nat × List (List (Nat × Nat)))} {ct LL : List LCtr} {lst : Bool} {sz : Nat} {body : Code} {key : Nat} {keep : List Nat} {shp : Shp} {L : FL} {pre : L.α → Prop} {alts : L.α → List (Bool × Ex × List FV × List Blk)} {last : L.α → Ex × List FV × List Blk} {μ : L.α → Nat} {pn : Nat} {kx : Ex → List Nat} {sx : Ex → Shp}
    (hG : ∀ c ∈ G, Good Try.prog c) (hk : codeOkB sz body = true) (hl : ∀ b ∈ loopsOf body, ∀ l, lcOf LL (firstR b) = some l → LGood Try.prog sz l b) (hc : ∀ b ∈ cutsOf body, ∀ l, lcOf ct (firstR b) = some l → CGood Try.prog sz l b)
    (hb : ∀ s, pre s → evCut (envC G sp ct lst) LL body (ldat key keep shp L pre alts last μ pn kx sx) s) : CGood Try.prog sz (ldat key keep shp L pre alts last μ pn kx sx).ctr body :=
  cut_good mixed (tyOKC G sp ct lst) hG (ldat key keep shp L pre alts last μ pn kx sx) (codeOk_ofC hk hl hc) (fun bs xs s h => L.hdec h) hb
theorem hgoodC {sh : Shp} {tk : List Nat} {G : List Ctr} {sp : List (Nat × List (List (Nat × Nat)))} {ct LL : List LCtr} {lst : Bool} {fid : Nat} {vw : List Bool} {fn : Func} {L : FL} {pre : Option (L.α → Prop)} {out : L.α → AV × List Blk} (hG : ∀ c ∈ G, Good Try.prog c) (hf : Try.prog.funcs[fid]? = some fn) (hk : fnOkB fn L.len = true)
    (hl : ∀ b ∈ loopsOf (bodyOf fn), ∀ l, lcOf LL (firstR b) = some l → LGood Try.prog fn.ntmps l b) (hc : ∀ b ∈ cutsOf (bodyOf fn), ∀ l, lcOf ct (firstR b) = some l → CGood Try.prog fn.ntmps l b)
    (hev : ∀ s, (∀ p, pre = some p → p s) → evFn (envC G sp ct lst) LL sh tk fn (L.inp s).1 (L.inp s).2 fun r bs' => And (r = (out s).1) (bs' = (out s).2)) : Good Try.prog (hctr fid vw L pre out) := by
  unfold fnOkB at hk
  simp only [Bool.and_eq_true, Bool.not_eq_true'] at hk
  obtain ⟨⟨⟨k1, k2⟩, k3⟩, k4⟩ := hk
  have hb : fn.body = some (bodyOf fn) := by
    unfold bodyOf
    cases h : fn.body with
    | none => rw [h] at k1; cases k1
    | some c => rfl
  exact fn_ok (c := hctr fid vw L pre out) mixed (tyOKC G sp ct lst) hG hf hb k2 (codeOk_ofC k3 hl hc) (fun bs args s h => L.hdec h) (fun s => Nat.le_trans (Nat.le_of_eq (L.lenOk 0 s)) (Nat.le_of_ble_eq_true k4)) (fun s C vs _ hv hp => hev s hp)
def cutAt (c : Code) (i : Nat) : Code := getL .skip (cutsOf c) i
theorem consC {ct : List LCtr} {sz : Nat} {c : Code} (h : allCut Try.prog ct sz (cutsOf c)) : ∀ b ∈ cutsOf c, ∀ l, lcOf ct (firstR b) = some l → CGood Try.prog sz l b := allCut_of h
theorem noG : ∀ c ∈ ([] : List Ctr), Good Try.prog c := fun c h => by cases h
theorem consG {c : Ctr} {G : List Ctr} (h : Good Try.prog c) (r : ∀ c ∈ G, Good Try.prog c) : ∀ d ∈ c :: G, Good Try.prog d := fun d hd => by
  rcases List.mem_cons.1 hd with rfl | hd
  · exact h
  · exact r d hd
theorem noL {LL : List LCtr} {sz : Nat} {bs : List Code} (h : bs = []) : ∀ b ∈ bs, ∀ l, lcOf LL (firstR b) = some l → LGood Try.prog sz l b := fun b hb => by rw [h] at hb; cases hb
theorem consL {LL : List LCtr} {sz : Nat} {b : Code} {bs : List Code} {l : LCtr} (hl : lcOf LL (firstR b) = some l) (h : LGood Try.prog sz l b) (r : ∀ b ∈ bs, ∀ l, lcOf LL (firstR b) = some l → LGood Try.prog sz l b) : ∀ b' ∈ b :: bs, ∀ l, lcOf LL (firstR b') = some l → LGood Try.prog sz l b' := fun b' hb l' hl' => by
  rcases List.mem_cons.1 hb with rfl | hb
  · rw [hl] at hl'
    simp only [Option.some.injEq] at hl'
    subst hl'
    exact h
  · exact r b' hb l' hl'
end Hw
end Go.Proofs.Ytfboldbfbmmahaa
