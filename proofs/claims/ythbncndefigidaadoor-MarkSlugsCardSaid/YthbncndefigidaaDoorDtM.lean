/- Functions of the library, by contracts. -/
import Derived.Test.YthbncndefigidaaDoorDtL
import Derived.Lib.Strings
import Derived.Lib.Bytealg
set_option linter.unusedVariables false
set_option linter.unusedSimpArgs false
namespace Go.Proofs.YthbncndefigidaaDoor.DS

section
variable {P : Program} {E : Env}

def ExtOK (P : Program) (E : Env) (W0 : World) (f : Nat) (g : List D → Option (List D)) : Prop := ∀ sg ds r, lk f E.sigs = some sg → g ds = some r → ∀ (w : World) (M : Mem) (vs : List Value) (X : Nat → Prop), Same W0 w → (∀ b, X b → W0.heap.size ≤ b) → ArgsOK E X w M sg.params vs ds →
    CallsF P f vs.toArray w (RetOK E X w M sg.outs sg.results vs r)
def ExtsOK (P : Program) (E : Env) (W0 : World) : List (Nat × (List D → Option (List D))) → Prop
  | [] => True
  | (f, g) :: r => ExtOK P E W0 f g ∧ ExtsOK P E W0 r
theorem exts_of {W0 : World} : ∀ {l : List (Nat × (List D → Option (List D)))}, ExtsOK P E W0 l → ∀ f g, lk f l = some g → ExtOK P E W0 f g := by
  intro l
  induction l with
  | nil => intro _ f fn h; cases h
  | cons p r ih =>
    obtain ⟨g, gn⟩ := p
    intro h f fn hf
    simp only [lk] at hf
    cases hb : Nat.beq f g with
    | true => rw [hb] at hf; injection hf with hf; subst hf; rw [beq_iff.1 hb]; exact h.1
    | false => rw [hb] at hf; exact ih h.2 f fn hf

def canonA : List PM → List D → List D
  | .val k :: ps, d :: ds => canon k d :: canonA ps ds
  | _, _ => []
theorem paramSt_vals : ∀ (ps : List PM) (i : Nat) (ds : List D) sl os, allValP ps = true → paramSt ps i ds = some (sl, os) → ds.length = ps.length ∧ ∀ (q : Nat) k d, ps[q]? = some (.val k) → ds[q]? = some d → lk (i + q) sl = some (.val k (canon k d)) := by
  intro ps
  induction ps with
  | nil => intro i ds sl os _ h; cases ds with
    | nil => exact ⟨rfl, fun q k d h => by simp at h⟩
    | cons _ _ => cases h
  | cons p ps ih =>
    intro i ds sl os hv h
    cases p with
    | val k =>
      cases ds with
      | nil => cases h
      | cons d ds =>
        obtain ⟨x, hx, h⟩ := opt_some.1 h
        injection h with h; injection h with h1 h2; subst h1 h2
        obtain ⟨q1, q2⟩ := ih (i + 1) ds x.1 x.2 hv hx
        refine ⟨by simp [q1], fun q k' d' h1 h2 => ?_⟩
        cases q with
        | zero =>
          simp at h1 h2; subst h1 h2
          simp only [lk, Nat.add_zero, beq_self, cond_true]
        | succ q =>
          have := q2 q k' d' (by simpa using h1) (by simpa using h2)
          rw [show i + 1 + q = i + (q + 1) by omega] at this
          simp only [lk, beq_false.2 (show i + (q + 1) ≠ i by omega), cond_false]
          exact this
    | _ => cases hv
theorem argsRep_mk {tt : TT} {M : Mem} : ∀ (ps : List PM) (vs : List Value) (ds : List D), allValP ps = true → vs.length = ps.length → ds.length = ps.length → (∀ (q : Nat) k d v, ps[q]? = some (.val k) → ds[q]? = some d → vs[q]? = some v → Rep tt M k v (canon k d)) → ArgsRep tt M ps vs (canonA ps ds) := by
  intro ps
  induction ps with
  | nil => intro vs ds _ h1 h2 _; cases vs with
    | nil => trivial
    | cons _ _ => simp at h1
  | cons p ps ih =>
    intro vs ds hv h1 h2 h
    cases p with
    | val k =>
      cases vs with
      | nil => simp at h1
      | cons v vs =>
        cases ds with
        | nil => simp at h2
        | cons d ds => exact ⟨h 0 k d v rfl rfl rfl, ih vs ds hv (by simpa using h1) (by simpa using h2) fun q k' d' v' a b c => h (q + 1) k' d' v' (by simpa using a) (by simpa using b) (by simpa using c)⟩
    | _ => cases hv
theorem vals_of {X : Nat → Prop} {w : World} {M : Mem} {ps : List PM} {vs : List Value} {ds : List D} (hp : allValP ps = true) (h : ArgsOK E X w M ps vs ds) : ArgsRep E.tt M ps vs (canonA ps ds) ∧ ∀ ad v, M ad = some v → w.cell? ad = some v := by
  obtain ⟨hl, sl, os, ι, h1, H, h2, _⟩ := h
  obtain ⟨q1, q2⟩ := paramSt_vals ps 0 ds sl os hp h1
  refine ⟨argsRep_mk ps vs ds hp hl q1 fun q k d v a b c => ?_, H.mem⟩
  have := q2 q k d a b
  rw [Nat.zero_add] at this
  obtain ⟨⟨v', e1, e2⟩, _⟩ := h2 q _ this
  rw [c] at e1; injection e1 with e1; subst e1
  exact e2
theorem HRel.anyX {tt : TT} {X : Nat → Prop} {w0 w : World} {Mx M : Mem} {ι : Nat → Value} {objs : Nat → Option Obj} (H : HRel tt (fun _ => False) w0 Mx ι M objs w) : HRel tt X w0 Mx ι M objs w :=
  ⟨H.obj, H.disj, fun id o b h hb => ⟨.inl ((H.own id o b h hb).1.resolve_right fun h => h), (H.own id o b h hb).2⟩, H.mem, H.memx, fun ad h _ => H.memB ad h (fun h => h), H.os, H.tape, H.output, H.size, fun b hb _ => H.keep b hb (fun h => h)⟩
/-- A function that is handed plain data only. -/
theorem ret_of {X : Nat → Prop} {w w' : World} {M : Mem} {ps : List PM} {rs : List RM} {vs : List Value} {ds : List D} {v : Value} (hp : allValP ps = true) (h : RetV E w M rs ds v w') : RetOK E X w M ps rs vs ds v w' := by
  intro base bid svs os hr hn
  obtain ⟨ι, M', H, hv⟩ := h base svs os hr
  have hb := boxesP_vals ps bid 0 hp
  rw [hb] at hn ⊢
  simp only [boxObjs, List.append_nil] at hn ⊢
  refine ⟨ι, M', H.anyX, hv, fun i hi => ?_, fun p t cs hpp => ?_⟩
  · obtain ⟨_, n2, n3, _, n5⟩ := resSV_spec rs base 0 _ svs _ hr
    have : i ∈ refsL svs := by
      match svs, hi, n3, n5 with
      | [], hi, _, _ => exact hi
      | [s], hi, n3, n5 =>
        simp only [refsL, List.append_nil]
        cases s with
        | tup t => exact absurd List.mem_cons_self (n3 t)
        | sag t ks l => exact absurd List.mem_cons_self (n5 t ks l)
        | _ => exact hi
      | _ :: _ :: _, hi, _, _ => exact hi
    obtain ⟨s, h1, h2⟩ := mem_refsL.1 this
    exact n2 s h1 i h2
  · have := boxIds_mem (bid := bid) ps 0 p t cs hpp
    rw [hb] at this; cases this
theorem ret_one {w : World} {M : Mem} {k : KT} {d : D} {v : Value} (hM : ∀ ad v, M ad = some v → w.cell? ad = some v) (h : Rep E.tt M k v d) : RetV E w M [.val k] [d] v w := by
  intro base svs os hr
  injection hr with hr; injection hr with h1 h2; subst h1 h2
  refine ⟨fun _ => undef, M, HRel.start hM, ?_⟩
  show Rep E.tt M k v (canon k d)
  rw [h.canon]; exact h
/-- A function that has a body is entered. -/
theorem calls_enter {f : Nat} {fn : Func} {c : Code} (hf : P.funcs[f]? = some fn) (hn : (fn.name == "runtime.NumGoroutine") = false) (hb : fn.body = some c) {args : Array Value} {w : World} {R : Value → World → Prop}
    (h : Calls P f args w fun e w' => ∃ v, e = .returned v ∧ R v w') : CallsF P f args w R := by
  left
  refine ⟨?_, h.mono fun e w' he => ?_⟩
  · have h2 : ¬ fn.name = "runtime.NumGoroutine" := by simpa using hn
    simp [callFunc, hf, h2, hb]
  · obtain ⟨v, rfl, hv⟩ := he; exact hv
/-- Two strings to a value. -/
theorem ext_ss {f : Nat} {fn : Func} {c : Code} (hf : P.funcs[f]? = some fn) (hn : (fn.name == "runtime.NumGoroutine") = false) (hb : fn.body = some c) {k : KT} (hs : lk f E.sigs = some ⟨[.val .str, .val .str], [.val k], false⟩) {g : List D → Option (List D)} {F : List UInt8 → List UInt8 → Value} {G : List UInt8 → List UInt8 → D}
    (hg : ∀ ds r, g ds = some r → ∃ x y, ds = [.str x, .str y] ∧ r = [G x y]) (hrep : ∀ M x y, Rep E.tt M k (F x y) (G x y))
    (hc : ∀ (a b : ByteArray) (w : World), Calls P f #[.string a, .string b] w fun e w' => e = .returned (F a.data.toList b.data.toList) ∧ w' = w) {W0 : World} : ExtOK P E W0 f g := by
  intro sg ds r hsg hr w M vs X hS hX ha
  rw [hs] at hsg; injection hsg with hsg; subst hsg
  obtain ⟨x, y, rfl, rfl⟩ := hg ds r hr
  obtain ⟨ha, hM⟩ := vals_of rfl ha
  replace ha : ArgsRep E.tt M [.val .str, .val .str] vs [.str x, .str y] := ha
  obtain ⟨v1, vs, x1, xs, rfl, e, h1, ha⟩ := args_cons ha
  injection e with e3 e4; subst e3 e4
  obtain ⟨v2, vs, x2, xs, rfl, e, h2, ha⟩ := args_cons ha
  injection e with e3 e4; subst e3 e4
  obtain ⟨rfl, _⟩ := args_nil ha
  obtain ⟨a, rfl, e1, _⟩ := h1.inv_str
  obtain ⟨b, rfl, e2, _⟩ := h2.inv_str
  injection e1 with e1; injection e2 with e2
  subst e1 e2
  refine calls_enter hf hn hb ((hc a b w).mono fun e w' he => ?_)
  obtain ⟨rfl, rfl⟩ := he
  exact ⟨_, rfl, ret_of rfl (ret_one hM (hrep M _ _))⟩
end

theorem compare_cases (a : List UInt8) : ∀ b, Lib.compareBytes a b = -1 ∨ Lib.compareBytes a b = 0 ∨ Lib.compareBytes a b = 1 := by
  induction a with
  | nil => intro b; cases b <;> simp [Lib.compareBytes]
  | cons x r ih => intro b; cases b with
    | nil => simp [Lib.compareBytes]
    | cons y s =>
      have := ih s
      simp only [Lib.compareBytes]
      split
      · simp
      · split
        · simp
        · exact this
theorem compare_wf (a b : List UInt8) : (Lit.int .i64 (Lib.compareBytes a b)).wf = true := by
  rcases compare_cases a b with h | h | h <;> rw [h] <;> decide

/-! ### What they give -/
def xCompare : List D → Option (List D)
  | [.str a, .str b] => some [.int (Lib.compareBytes a b)]
  | _ => none
end Go.Proofs.YthbncndefigidaaDoor.DS
