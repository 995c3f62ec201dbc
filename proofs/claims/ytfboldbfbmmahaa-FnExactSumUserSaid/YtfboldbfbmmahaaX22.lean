/- Facts on this program. -/
import Derived.Test.YtfboldbfbmmahaaX1
import Derived.Test.YtfboldbfbmmahaaX20
import Derived.Test.YtfboldbfbmmahaaProg
set_option linter.unusedVariables false
set_option linter.unusedSimpArgs false
set_option maxRecDepth 100000
namespace Go.Proofs.Ytfboldbfbmmahaa
namespace Hw
open Go
theorem TabOK.cons {P : Program} {t : Nat} {ti : TI} {T : Tab} (h : TIok P t ti) (r : TabOK P T) : TabOK P ((t, ti) :: T) := fun e he => by
  rcases List.mem_cons.1 he with rfl | he
  · exact h
  · exact r e he
theorem TabOK.nil {P : Program} : TabOK P [] := fun e he => by cases he
theorem tabOK : TabOK Try.prog T := by
  unfold T
  repeat' (first | exact TabOK.nil | refine TabOK.cons ⟨by kernel_rfl, by kernel_rfl, by kernel_rfl, by kernel_rfl, by kernel_rfl, by kernel_rfl, by kernel_rfl, by first | exact ⟨rfl, rfl, rfl⟩ | trivial⟩ ?_)
def eqT : Nat := 49
theorem eqF {P : Program} {t3 : Nat} (h3 : P.underlying t3 = some (.int .i64)) (d : Nat) (xs ys : Array Value) (w : World) : ∀ (l : List (Field × Int × Int)),
    (∀ e ∈ l, e.1.name ≠ "_" ∧ e.1.type = t3 ∧ xs[e.1.offset]? = some (.int .i64 e.2.1) ∧ ys[e.1.offset]? = some (.int .i64 e.2.2)) → (Op.eqFields (d + 1) xs ys (l.map (·.1))).run P w = .ok (l.all fun e => e.2.1 == e.2.2) w
  | [], _ => by simp [Op.eqFields]
  | e :: l, h => by
    obtain ⟨h1, h2, h4, h5⟩ := h e List.mem_cons_self
    have ih := eqF h3 d xs ys w l fun e he => h e (List.mem_cons_of_mem _ he)
    have hu : P.underlying e.1.type = some (.int .i64) := by rw [h2]; exact h3
    simp only [List.map_cons, Op.eqFields, ne_eq, h1, not_false_eq_true, if_true, List.all_cons]
    have p1 : (part e.1.type xs e.1.offset).run P w = .ok (.int .i64 e.2.1) w := by simp [part, isAgg, run_underlying hu, h4]
    have p2 : (part e.1.type ys e.1.offset).run P w = .ok (.int .i64 e.2.2) w := by simp [part, isAgg, run_underlying hu, h5]
    rw [Sem.run_bind, p1, Result.andThen_ok, Sem.run_bind, p2, Result.andThen_ok, Sem.run_bind, run_equalIn_int w d _ .i64 .i64 _ _ hu, Result.andThen_ok]
    cases hb : (e.2.1 == e.2.2) with
    | true => simpa using ih
    | false => simp
theorem eqFs : (Try.prog.fieldsOf eqT).toList.map (fun f => (f.name == "_", f.type, f.offset)) = [(false, 3, 0), (false, 3, 1), (false, 3, 2), (false, 3, 3), (false, 3, 4), (false, 3, 5), (false, 3, 6)] := by kernel_rfl
theorem u3 : Try.prog.underlying 3 = some (.int .i64) := by kernel_rfl
theorem pktEq (p q : Pkt) (w : World) : (Op.equalIn 10000 eqT (.agg (pktVs p)) (.agg (pktVs q))).run Try.prog w = .ok (decide (p = q)) w := by
  have hS : Try.prog.underlying eqT = some (.struct (Try.prog.fieldsOf eqT)) := by kernel_rfl
  have hp : Try.prog.stoodInHeld eqT = false := by kernel_rfl
  rw [show (10000 : Nat) = 9999 + 1 from rfl, run_equalIn_agg w 9999 eqT _ _ hS hp]
  have h := eqFs
  generalize (Try.prog.fieldsOf eqT).toList = fs at h
  obtain ⟨a, b, c, d, e, f, g, rfl⟩ : ∃ a b c d e f g, fs = [a, b, c, d, e, f, g] := by
    have hl : fs.length = 7 := by simpa using congrArg List.length h
    clear h
    match fs, hl with
    | [a, b, c, d, e, f, g], _ => exact ⟨a, b, c, d, e, f, g, rfl⟩
  simp only [List.map_cons, List.map_nil, List.cons.injEq, Prod.mk.injEq, and_true] at h
  obtain ⟨⟨a1, a2, a3⟩, ⟨b1, b2, b3⟩, ⟨c1, c2, c3⟩, ⟨d1, d2, d3⟩, ⟨e1, e2, e3⟩, ⟨f1, f2, f3⟩, ⟨g1, g2, g3⟩⟩ := h
  have := eqF u3 9998 (pktVs p) (pktVs q) w [(a, p.seq, q.seq), (b, p.kind, q.kind), (c, p.frm, q.frm), (d, p.to, q.to), (e, p.sum, q.sum), (f, p.til, q.til), (g, p.ver, q.ver)] (by
    intro x hx
    simp only [List.mem_cons, List.not_mem_nil, or_false] at hx
    rcases hx with rfl | rfl | rfl | rfl | rfl | rfl | rfl
    · exact ⟨by simpa using a1, a2, by rw [a3]; rfl, by rw [a3]; rfl⟩
    · exact ⟨by simpa using b1, b2, by rw [b3]; rfl, by rw [b3]; rfl⟩
    · exact ⟨by simpa using c1, c2, by rw [c3]; rfl, by rw [c3]; rfl⟩
    · exact ⟨by simpa using d1, d2, by rw [d3]; rfl, by rw [d3]; rfl⟩
    · exact ⟨by simpa using e1, e2, by rw [e3]; rfl, by rw [e3]; rfl⟩
    · exact ⟨by simpa using f1, f2, by rw [f3]; rfl, by rw [f3]; rfl⟩
    · exact ⟨by simpa using g1, g2, by rw [g3]; rfl, by rw [g3]; rfl⟩)
  simp only [List.map_cons, List.map_nil] at this
  rw [show (9999 : Nat) = 9998 + 1 from rfl, this]
  congr 1
  obtain ⟨a, b, c, d, e, f, g⟩ := p
  obtain ⟨a', b', c', d', e', f', g'⟩ := q
  simp only [List.all_cons, List.all_nil, Bool.and_true, Pkt.mk.injEq]
  rw [Bool.eq_iff_iff]
  simp
theorem noGuard : Try.prog.eqGuardType Try.prog.depth eqT = false := by kernel_rfl
theorem mpOK : Nat.beq 1000000000 1000000000 = true ∨ ∃ e, Try.prog.underlying 1000000000 = some (.pointer e) := by
  first | exact .inl (by decide) | exact .inr ⟨1000000000, by kernel_rfl⟩
theorem mapTOK : Nat.beq 1000000000 1000000000 = true ∨ Try.prog.underlying 1000000000 = some (.map 3 3) := by
  first | exact .inl (by decide) | exact .inr (by kernel_rfl)
theorem zintOK (w : World) : (zeroValue 3).run Try.prog w = .ok (.int .i64 0) w := by kernel_rfl
def mthT : List (Nat × String × Nat) := [(132, "loop.example/hawser/impl.settled", 153), (113, "loop.example/hawser/impl.settled", 151), (114, "loop.example/hawser/impl.settled", 152)]
theorem mthOK : ∀ e ∈ mthT, 0 < e.1 ∧ ∀ w : World, (method (Try.prog.types.size + Made.depth) e.1 (.agg #[]) e.2.1).run Try.prog w = .ok (e.2.2, .agg #[]) w := by
  unfold mthT
  repeat' (first | exact fun e he => absurd he List.not_mem_nil | refine List.forall_mem_cons.2 ⟨⟨by decide, fun w => by kernel_rfl⟩, ?_⟩)
def envS (G : List Ctr) (sp : List (Nat × List (List (Nat × Nat)))) : Env := ⟨T, G, [27], 4, eqT, 3, 5, 1000000000, 1000000000, 1000000000, 1000000000, mthT, [], sp, [], false⟩
def envC (G : List Ctr) (sp : List (Nat × List (List (Nat × Nat)))) (ct : List LCtr) (lst : Bool := false) : Env := ⟨T, G, [27], 4, eqT, 3, 5, 1000000000, 1000000000, 1000000000, 1000000000, mthT, [], sp, ct, lst⟩
def env (G : List Ctr) : Env := envS G []
theorem tyOKS (G : List Ctr) (sp : List (Nat × List (List (Nat × Nat)))) : TyOK Try.prog (envS G sp) := ⟨tabOK, by kernel_rfl, pktEq, noGuard, by kernel_rfl, by kernel_rfl, mpOK, mapTOK, zintOK, mthOK⟩
theorem tyOKC (G : List Ctr) (sp : List (Nat × List (List (Nat × Nat)))) (ct : List LCtr) (lst : Bool) : TyOK Try.prog (envC G sp ct lst) := ⟨tabOK, by kernel_rfl, pktEq, noGuard, by kernel_rfl, by kernel_rfl, mpOK, mapTOK, zintOK, mthOK⟩
theorem tyOK (G : List Ctr) : TyOK Try.prog (env G) := tyOKS G []
theorem mixed : Try.prog.follows .mixedOrders = true := by kernel_rfl
end Hw
end Go.Proofs.Ytfboldbfbmmahaa
