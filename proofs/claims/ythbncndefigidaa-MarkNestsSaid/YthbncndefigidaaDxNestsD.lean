/- The law MarkNests of the row Rows.markNestsRow: for every input the law returns true, and the input reads as it did. No condition: the row's own. -/
import Derived.Test.YthbncndefigidaaDxNestsC
import Derived.JoinedCond
import Derived.JoinedOf
import Derived.JoinedAt
set_option linter.unusedVariables false
set_option linter.unusedSimpArgs false
namespace Go.Proofs.Ythbncndefigidaa.mk.nests
open Go.ChangeShapes Go.WideShapes Go.ChangeAt Go.RowKit

theorem own : ownKnob Try.prog.godebug = none := by kernel_rfl
theorem laid : laidOutB Try.prog = true := by kernel_rfl
theorem rec24 : Try.prog.readableRec 24 = true ∧ 24 < Try.prog.types.size := ⟨by kernel_rfl, of_decide_eq_true (by kernel_rfl)⟩
noncomputable def code : Code := (Try.f4.body).getD .skip
theorem body : Try.f4.body = some code := by kernel_rfl
theorem name : (Try.f4.name == "runtime.NumGoroutine") = false := by kernel_rfl
theorem sg : DS.lk 4 E.sigs = some sig4 := by kernel_rfl
theorem pm : DS.paramsOf E.tt Try.f4.params.toList = some sig4.params := by kernel_rfl
theorem rs : sig4.results = [.val .bool] := by kernel_rfl
theorem rt : Try.f4.resultTypes = #[4] := by kernel_rfl

set_option maxRecDepth 100000 in
theorem contract (H : Type) (enc : TypeId × Value → H) (W : World) (base : Nat) (args : Array Value) (ds gs : List (DataW H)) (before : List MemPlace)
    (hval : ∀ (j : Nat) t v, Try.f4.params[j]? = some t → args[j]? = some v → Value.okWide Try.prog W .any base t v)
    (hW : DataW.Whole enc Try.prog Try.f4.params.toList Rows.markNestsSpec.vars false W args.toList ds gs before) :
    Calls Try.prog 4 args W fun e W' => ∃ v, e = .returned v ∧ Rows.markNestsSpec.post enc Try.prog Try.f4 false true false false W args v W' := by
  have hshape : ∃ d0, ds = [d0] ∧ gs = [] := by
    obtain ⟨p, q, hA, hV, _⟩ := hW
    rw [Try.params4] at hA
    obtain ⟨v0, vs0, d0, ds0, p0, q0, _, rfl, _, _, r0⟩ := trodAll_cons hA
    obtain ⟨_, rfl, _⟩ := trodAll_nil r0
    obtain ⟨rfl, _⟩ := trodVars_none hV
    exact ⟨d0, rfl, rfl⟩
  obtain ⟨d0, rfl, rfl⟩ := hshape
  refine DS.law_contract env (DS.tt_ok tt_all).2.1 (DS.tt_ok tt_all).2.2 (sg := sig4) Try.func4 name body sg pm rs rt Try.underlying4 laid ?_ rfl hval hW rfl ?_
  · intro t ht
    rw [Try.params4] at ht
    have : t = 24 := by simpa using ht
    rcases this with rfl
    · exact rec24
  · intro xs hx _
    obtain ⟨v0, vs0, x0, xs0, _, rfl, h0, s0⟩ := DS.args_cons hx
    obtain ⟨_, rfl⟩ := DS.args_nil s0
    obtain ⟨_, _, _, e0, _⟩ := DS.Rep.inv_slice h0
    rw [e0] at h0 ⊢
    exact DS.RUN_run (law _)

set_option maxRecDepth 100000 in
theorem lifted (os : Os) (started : os.Started) (H : Type) (enc : TypeId × Value → H) :
    ReturnsInHanded {} Try.checked os 4 .any (Rows.markNestsSpec.pre6 enc Try.prog Try.f4 Rows.markNestsRow.domain false) (Rows.markNestsSpec.post enc Try.prog Try.f4 false true false false) := by
  refine returnsInHanded_of_change (C := Try.checked) own started (by kernel_rfl) Try.func4
    (ChangeSpec.witness6 (enc := enc) (C := Try.checked) false ⟨#[], #[.slice none 0 0], []⟩ 8 (by kernel_rfl) (by kernel_rfl) (by kernel_rfl) (by kernel_rfl)) ?_
  intro W base args ds gs before hval hW _ _
  exact contract H enc W base args ds gs before hval hW

theorem proved : Rows.MarkNestsSaid :=
  OpenClaim.holds_of_wide 4 Try.f4 rfl rfl rfl rfl rfl rfl rfl ⟨rfl, rfl, rfl, rfl, rfl⟩ rfl rfl rfl rfl rfl (by kernel_rfl) Try.func4 (by kernel_rfl)
    (of_decide_eq_true (by kernel_rfl)) (by unfold Func.isWrapper; first | (rw [if_pos (by decide +kernel)]; kernel_rfl) | (rw [if_neg (by decide +kernel)]; exact ⟨rfl, rfl⟩))
    (fun os started H enc _ => lifted os started H enc)
#print axioms proved
end Go.Proofs.Ythbncndefigidaa.mk.nests
