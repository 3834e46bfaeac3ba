/- The law MarkSames of the row Rows.markSamesRow: for every pair of node lists the law returns true, and the input reads as it did. No condition: the row's own. -/
import Derived.Test.YtmlacnnlfdegmaaDxSamesC
import Derived.JoinedCond
import Derived.JoinedOf
import Derived.JoinedAt
set_option linter.unusedVariables false
set_option linter.unusedSimpArgs false
namespace Go.Proofs.Ytmlacnnlfdegmaa.markSames
open Go.ChangeShapes Go.WideShapes Go.ChangeAt Go.RowKit

theorem own : ownKnob Try.prog.godebug = none := by kernel_rfl
theorem laid : laidOutB Try.prog = true := by kernel_rfl
theorem rec22 : Try.prog.readableRec 22 = true ∧ 22 < Try.prog.types.size := ⟨by kernel_rfl, of_decide_eq_true (by kernel_rfl)⟩

noncomputable def code3 : Code := (Try.f3.body).getD .skip
theorem body3 : Try.f3.body = some code3 := by kernel_rfl
theorem name3 : (Try.f3.name == "runtime.NumGoroutine") = false := by kernel_rfl
theorem sg3 : DS.lk 3 E.sigs = some sig2 := by kernel_rfl
theorem pm3 : DS.paramsOf E.tt Try.f3.params.toList = some sig2.params := by kernel_rfl
theorem rs3 : sig2.results = [.val .bool] := by kernel_rfl
theorem rt3 : Try.f3.resultTypes = #[4] := by kernel_rfl

set_option maxRecDepth 100000 in
theorem contract (H : Type) (enc : TypeId × Value → H) (W : World) (base : Nat) (args : Array Value) (ds gs : List (DataW H)) (before : List MemPlace)
    (hval : ∀ (j : Nat) t v, Try.f3.params[j]? = some t → args[j]? = some v → Value.okWide Try.prog W .any base t v)
    (hW : DataW.Whole enc Try.prog Try.f3.params.toList Rows.markSamesSpec.vars false W args.toList ds gs before) :
    Calls Try.prog 3 args W fun e W' => ∃ v, e = .returned v ∧ Rows.markSamesSpec.post enc Try.prog Try.f3 false true false false W args v W' := by
  have hshape : ∃ d1 d2, ds = [d1, d2] ∧ gs = [] := by
    obtain ⟨p, q, hA, hV, _⟩ := hW
    rw [Try.params3] at hA
    obtain ⟨v0, vs0, d0, ds0, p0, q0, _, rfl, _, _, r0⟩ := trodAll_cons hA
    obtain ⟨v1, vs1, d1, ds1, p1, q1, _, rfl, _, _, r1⟩ := trodAll_cons r0
    obtain ⟨_, rfl, _⟩ := trodAll_nil r1
    obtain ⟨rfl, _⟩ := trodVars_none hV
    exact ⟨d0, d1, rfl, rfl⟩
  obtain ⟨d1, d2, rfl, rfl⟩ := hshape
  refine DS.law_contract env (DS.tt_ok tt_all).2.1 (DS.tt_ok tt_all).2.2 (sg := sig2) Try.func3 name3 body3 sg3 pm3 rs3 rt3 Try.underlying4 laid ?_ rfl hval hW rfl ?_
  · intro t ht
    rw [Try.params3] at ht
    have : t = 22 := by simpa using ht
    subst this
    exact rec22
  · intro xs hx _
    obtain ⟨v1, vs1, x1, xs1, _, rfl, h1, r1⟩ := DS.args_cons hx
    obtain ⟨v2, vs2, x2, xs2, _, rfl, h2, r2⟩ := DS.args_cons r1
    obtain ⟨_, rfl⟩ := DS.args_nil r2
    obtain ⟨_, _, _, e1, _⟩ := DS.Rep.inv_slice h1
    obtain ⟨_, _, _, e2, _⟩ := DS.Rep.inv_slice h2
    rw [e1] at h1 ⊢
    rw [e2] at h2 ⊢
    exact law (DS.LB.of_rep h1) (DS.LB.of_rep h2)

set_option maxRecDepth 100000 in
theorem lifted (os : Os) (started : os.Started) (H : Type) (enc : TypeId × Value → H) :
    ReturnsInHanded {} Try.checked os 3 .any (Rows.markSamesSpec.pre6 enc Try.prog Try.f3 Rows.markSamesRow.domain false) (Rows.markSamesSpec.post enc Try.prog Try.f3 false true false false) := by
  refine returnsInHanded_of_change (C := Try.checked) own started (by kernel_rfl) Try.func3
    (ChangeSpec.witness6 (enc := enc) (C := Try.checked) false ⟨#[], #[.slice none 0 0, .slice none 0 0], []⟩ 8 (by kernel_rfl) (by kernel_rfl) (by kernel_rfl) (by kernel_rfl)) ?_
  intro W base args ds gs before hval hW _ _
  exact contract H enc W base args ds gs before hval hW

theorem proved : Rows.MarkSamesSaid :=
  OpenClaim.holds_of_wide 3 Try.f3 rfl rfl rfl rfl rfl rfl rfl ⟨rfl, rfl, rfl, rfl, rfl⟩ rfl rfl rfl rfl rfl (by kernel_rfl) Try.func3 (by kernel_rfl)
    (of_decide_eq_true (by kernel_rfl)) (by unfold Func.isWrapper; first | (rw [if_pos (by decide +kernel)]; kernel_rfl) | (rw [if_neg (by decide +kernel)]; exact ⟨rfl, rfl⟩))
    (fun os started H enc _ => lifted os started H enc)
#print axioms proved
end Go.Proofs.Ytmlacnnlfdegmaa.markSames
