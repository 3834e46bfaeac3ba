/- The law TmplCompares of the row Rows.tmplComparesRow: for every input the law returns true, and the input reads as it did. No condition: the row's own. -/
import Derived.Test.YthempoaickahcaaDxCmpC
import Derived.JoinedCond
import Derived.JoinedOf
import Derived.JoinedAt
set_option linter.unusedVariables false
set_option linter.unusedSimpArgs false
namespace Go.Proofs.Ythempoaickahcaa.tm.compares
open Go.ChangeShapes Go.WideShapes Go.ChangeAt Go.RowKit

theorem own : ownKnob Try.prog.godebug = none := by kernel_rfl
theorem laid : laidOutB Try.prog = true := by kernel_rfl
theorem rec25 : Try.prog.readableRec 25 = true ∧ 25 < Try.prog.types.size := ⟨by kernel_rfl, of_decide_eq_true (by kernel_rfl)⟩
noncomputable def code : Code := (Try.f3.body).getD .skip
theorem body : Try.f3.body = some code := by kernel_rfl
theorem name : (Try.f3.name == "runtime.NumGoroutine") = false := by kernel_rfl
theorem sg : DS.lk 3 E.sigs = some sig3 := by kernel_rfl
theorem pm : DS.paramsOf E.tt Try.f3.params.toList = some sig3.params := by kernel_rfl
theorem rs : sig3.results = [.val .bool] := by kernel_rfl
theorem rt : Try.f3.resultTypes = #[4] := by kernel_rfl

set_option maxRecDepth 100000 in
theorem contract (H : Type) (enc : TypeId × Value → H) (W : World) (base : Nat) (args : Array Value) (ds gs : List (DataW H)) (before : List MemPlace)
    (hval : ∀ (j : Nat) t v, Try.f3.params[j]? = some t → args[j]? = some v → Value.okWide Try.prog W .any base t v)
    (hW : DataW.Whole enc Try.prog Try.f3.params.toList Rows.tmplComparesSpec.vars false W args.toList ds gs before) :
    Calls Try.prog 3 args W fun e W' => ∃ v, e = .returned v ∧ Rows.tmplComparesSpec.post enc Try.prog Try.f3 false true false false W args v W' := by
  have hshape : ∃ d0 d1, ds = [d0, d1] ∧ gs = [] := by
    obtain ⟨p, q, hA, hV, _⟩ := hW
    rw [Try.params3] at hA
    obtain ⟨v0, vs0, d0, ds0, p0, q0, _, rfl, _, _, r0⟩ := trodAll_cons hA
    obtain ⟨v1, vs1, d1, ds1, p1, q1, _, rfl, _, _, r1⟩ := trodAll_cons r0
    obtain ⟨_, rfl, _⟩ := trodAll_nil r1
    obtain ⟨rfl, _⟩ := trodVars_none hV
    exact ⟨d0, d1, rfl, rfl⟩
  obtain ⟨d0, d1, rfl, rfl⟩ := hshape
  refine DS.law_contract env (DS.tt_ok tt_all).2.1 (DS.tt_ok tt_all).2.2 (sg := sig3) Try.func3 name body sg pm rs rt Try.underlying4 laid ?_ rfl hval hW rfl ?_
  · intro t ht
    rw [Try.params3] at ht
    have : t = 25 := by simpa using ht
    rcases this with rfl
    · exact rec25
  · intro xs hx _
    obtain ⟨v0, vs0, x0, xs0, _, rfl, h0, s0⟩ := DS.args_cons hx
    obtain ⟨v1, vs1, x1, xs1, _, rfl, h1, s1⟩ := DS.args_cons s0
    obtain ⟨_, rfl⟩ := DS.args_nil s1
    exact DS.RUN_run (law _ _)

set_option maxRecDepth 100000 in
theorem lifted (os : Os) (started : os.Started) (H : Type) (enc : TypeId × Value → H) :
    ReturnsInHanded {} Try.checked os 3 .any (Rows.tmplComparesSpec.pre6 enc Try.prog Try.f3 Rows.tmplComparesRow.domain false) (Rows.tmplComparesSpec.post enc Try.prog Try.f3 false true false false) := by
  refine returnsInHanded_of_change (C := Try.checked) own started (by kernel_rfl) Try.func3
    (ChangeSpec.witness6 (enc := enc) (C := Try.checked) false ⟨#[], #[.agg #[.int .i64 0, .bool false, .int .i64 0, .string .empty, .slice none 0 0, .slice none 0 0], .agg #[.int .i64 0, .bool false, .int .i64 0, .string .empty, .slice none 0 0, .slice none 0 0]], []⟩ 8 (by kernel_rfl) (by kernel_rfl) (by kernel_rfl) (by kernel_rfl)) ?_
  intro W base args ds gs before hval hW _ _
  exact contract H enc W base args ds gs before hval hW

theorem proved : Rows.TmplComparesSaid :=
  OpenClaim.holds_of_wide 3 Try.f3 rfl rfl rfl rfl rfl rfl rfl ⟨rfl, rfl, rfl, rfl, rfl⟩ rfl rfl rfl rfl rfl (by kernel_rfl) Try.func3 (by kernel_rfl)
    (of_decide_eq_true (by kernel_rfl)) (by unfold Func.isWrapper; first | (rw [if_pos (by decide +kernel)]; kernel_rfl) | (rw [if_neg (by decide +kernel)]; exact ⟨rfl, rfl⟩))
    (fun os started H enc _ => lifted os started H enc)
#print axioms proved
end Go.Proofs.Ythempoaickahcaa.tm.compares
