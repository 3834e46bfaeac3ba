/- Functions of the library, by contracts. -/
import Derived.Test.YthempoaickahcaaDtL
import Derived.Lib.Strings
import Derived.Lib.Bytealg
set_option linter.unusedVariables false
set_option linter.unusedSimpArgs false
namespace Go.Proofs.Ythempoaickahcaa.DS

section
variable {P : Program} {E : Env}

def ExtOK (P : Program) (E : Env) (f : Nat) (g : List D → Option (List D)) : Prop := ∀ sg ds r, lk f E.sigs = some sg → g ds = some r → ∀ (w : World) (M : Mem) (vs : List Value), ArgsRep E.tt M sg.params vs ds → (∀ ad v, M ad = some v → w.cell? ad = some v) →
    CallsF P f vs.toArray w (RetOK E w M sg.results r)
def ExtsOK (P : Program) (E : Env) : List (Nat × (List D → Option (List D))) → Prop
  | [] => True
  | (f, g) :: r => ExtOK P E f g ∧ ExtsOK P E r
theorem exts_of : ∀ {l : List (Nat × (List D → Option (List D)))}, ExtsOK P E l → ∀ f g, lk f l = some g → ExtOK P E f g := by
  intro l
  induction l with
  | nil => intro _ f fn h; cases h
  | cons p r ih =>
    obtain ⟨g, gn⟩ := p
    intro h f fn hf
    simp only [lk] at hf
    cases hb : Nat.beq f g with
    | true => rw [hb] at hf; injection hf with hf; subst hf; rw [beq_iff.1 hb]; exact h.1
    | false => rw [hb] at hf; exact ih h.2 f fn hf

theorem HRel.start {tt : TT} {w : World} {M : Mem} {ι : Nat → Value} (hM : ∀ ad v, M ad = some v → w.cell? ad = some v) : HRel tt (fun _ => False) w M ι M (fun _ => none) w :=
  ⟨fun id o h => (by cases h), fun id id2 o o2 b h => (by cases h), fun id o b h => (by cases h), hM, fun _ _ h => h, fun _ _ _ => rfl, rfl, rfl, rfl, Nat.le_refl _, fun _ _ _ => rfl⟩
theorem ret_one {w : World} {M : Mem} {k : KT} {d : D} {v : Value} (hM : ∀ ad v, M ad = some v → w.cell? ad = some v) (h : Rep E.tt M k v d) : RetOK E w M [.val k] [d] v w := by
  intro base svs os hr
  injection hr with hr; injection hr with h1 h2; subst h1 h2
  refine ⟨fun _ => undef, M, HRel.start hM, ?_⟩
  show Rep E.tt M k v (canon k d)
  rw [h.canon]; exact h
/-- A function that has a body is entered. -/
theorem calls_enter {f : Nat} {fn : Func} {c : Code} (hf : P.funcs[f]? = some fn) (hn : (fn.name == "runtime.NumGoroutine") = false) (hb : fn.body = some c) {args : Array Value} {w : World} {R : Value → World → Prop}
    (h : Calls P f args w fun e w' => ∃ v, e = .returned v ∧ R v w') : CallsF P f args w R := by
  left
  refine ⟨?_, h.mono fun e w' he => ?_⟩
  · have h2 : ¬ fn.name = "runtime.NumGoroutine" := by simpa using hn
    simp [callFunc, hf, h2, hb]
  · obtain ⟨v, rfl, hv⟩ := he; exact hv
/-- Two strings to a value. -/
theorem ext_ss {f : Nat} {fn : Func} {c : Code} (hf : P.funcs[f]? = some fn) (hn : (fn.name == "runtime.NumGoroutine") = false) (hb : fn.body = some c) {k : KT} (hs : lk f E.sigs = some ⟨[.val .str, .val .str], [.val k]⟩) {g : List D → Option (List D)} {F : List UInt8 → List UInt8 → Value} {G : List UInt8 → List UInt8 → D}
    (hg : ∀ x y r, g [.str x, .str y] = some r → r = [G x y]) (hrep : ∀ M x y, Rep E.tt M k (F x y) (G x y))
    (hc : ∀ (a b : ByteArray) (w : World), Calls P f #[.string a, .string b] w fun e w' => e = .returned (F a.data.toList b.data.toList) ∧ w' = w) : ExtOK P E f g := by
  intro sg ds r hsg hr w M vs ha hM
  rw [hs] at hsg; injection hsg with hsg; subst hsg
  obtain ⟨v1, vs, x1, xs, rfl, rfl, h1, ha⟩ := args_cons ha
  obtain ⟨v2, vs, x2, xs, rfl, rfl, h2, ha⟩ := args_cons ha
  obtain ⟨rfl, rfl⟩ := args_nil ha
  obtain ⟨a, rfl, rfl, _⟩ := h1.inv_str
  obtain ⟨b, rfl, rfl, _⟩ := h2.inv_str
  have := hg _ _ _ hr
  subst this
  refine calls_enter hf hn hb ((hc a b w).mono fun e w' he => ?_)
  obtain ⟨rfl, rfl⟩ := he
  exact ⟨_, rfl, ret_one hM (hrep M _ _)⟩
end

theorem compare_cases (a : List UInt8) : ∀ b, Lib.compareBytes a b = -1 ∨ Lib.compareBytes a b = 0 ∨ Lib.compareBytes a b = 1 := by
  induction a with
  | nil => intro b; cases b <;> simp [Lib.compareBytes]
  | cons x r ih => intro b; cases b with
    | nil => simp [Lib.compareBytes]
    | cons y s =>
      have := ih s
      simp only [Lib.compareBytes]
      split
      · simp
      · split
        · simp
        · exact this
theorem compare_wf (a b : List UInt8) : (Lit.int .i64 (Lib.compareBytes a b)).wf = true := by
  rcases compare_cases a b with h | h | h <;> rw [h] <;> decide

/-! ### What they give -/
def xCompare : List D → Option (List D)
  | [.str a, .str b] => some [.int (Lib.compareBytes a b)]
  | _ => none
end Go.Proofs.Ythempoaickahcaa.DS
