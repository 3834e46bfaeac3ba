/- The law PageLines of the row Rows.pageLinesRow: for every input the law returns true, and the input reads as it did. Conditions: the row's own. -/
import Derived.Test.YtbinmfenhbpdnaaDxLinesK
import Derived.WalkKit
import Derived.ProofKit
import Derived.OpenShut
import Derived.JoinedCond
import Derived.JoinedOf
import Derived.JoinedAt
import Derived.Deep.DeepHandedRow
import Derived.LaidLaws
import Derived.Lib.LaidTab
set_option linter.unusedVariables false
set_option linter.unusedSimpArgs false
namespace Go.Proofs.Ytbinmfenhbpdnaa.pl.lines
open Go.ChangeShapes Go.WideShapes Go.ChangeAt Go.RowKit

theorem own : ownKnob Try.prog.godebug = none := by kernel_rfl
theorem laid : laidOutB Try.prog = true := by kernel_rfl
theorem rec9 : Try.prog.readableRec 9 = true ∧ 9 < Try.prog.types.size := ⟨by kernel_rfl, of_decide_eq_true (by kernel_rfl)⟩
noncomputable def code : Code := (Try.f5.body).getD .skip
theorem body : Try.f5.body = some code := by kernel_rfl
theorem name : (Try.f5.name == "runtime.NumGoroutine") = false := by kernel_rfl
theorem sg : DS.lk 5 E.sigs = some sig5 := by kernel_rfl
theorem pm : DS.paramsOf E.tt Try.f5.params.toList = some sig5.params := by kernel_rfl
theorem rs : sig5.results = [.val .bool] := by kernel_rfl
theorem rt : Try.f5.resultTypes = #[4] := by kernel_rfl

set_option maxRecDepth 100000 in
theorem contract (H : Type) (enc : TypeId × Value → H) (W : World) (base : Nat) (args : Array Value) (ds gs : List (DataW H)) (before : List MemPlace)
    (hval : ∀ (j : Nat) t v, Try.f5.params[j]? = some t → args[j]? = some v → Value.okWide Try.prog W .any base t v)
    (hW : DataW.Whole enc Try.prog Try.f5.params.toList Rows.pageLinesSpec.vars false W args.toList ds gs before) (hs : W.ShapedOpen Try.prog) (hL : laidMetH Try.prog Rows.pageLinesRow.laid W) :
    Calls Try.prog 5 args W fun e W' => ∃ v, e = .returned v ∧ Rows.pageLinesSpec.post enc Try.prog Try.f5 false true false false W args v W' := by
  have hshape : ∃ d0, ds = [d0] ∧ gs = [] := by
    obtain ⟨p, q, hA, hV, _⟩ := hW
    rw [Try.params5] at hA
    obtain ⟨v0, vs0, d0, ds0, p0, q0, _, rfl, _, _, r0⟩ := trodAll_cons hA
    obtain ⟨_, rfl, _⟩ := trodAll_nil r0
    obtain ⟨rfl, _⟩ := trodVars_none hV
    exact ⟨d0, rfl, rfl⟩
  obtain ⟨d0, rfl, rfl⟩ := hshape
  refine DS.law_contract_at (env W) (DS.tt_ok tt_all).2.1 (DS.tt_ok tt_all).2.2 (sg := sig5) Try.func5 name body sg pm rs rt Try.underlying4 laid ?_ rfl hval hW rfl ?_
  · intro t ht
    rw [Try.params5] at ht
    have : t = 9 := by simpa using ht
    rcases this with rfl
    · exact rec9
  · intro xs hx hm
    obtain ⟨v0, vs0, x0, xs0, _, rfl, h0, s0⟩ := DS.args_cons hx
    obtain ⟨_, rfl⟩ := DS.args_nil s0
    obtain ⟨y0, _, e0, _⟩ := DS.Rep.inv_str h0
    rw [e0] at h0 ⊢
    exact DS.RUN_run (law h0)

noncomputable def laidWorld (os : Os) : World :=
  World.holding Try.prog os ⟨#[], #[], []⟩
theorem laid_met (os : Os) : laidMet Try.prog Rows.pageLinesRow.laid ((laidWorld os).forCall (fun _ _ => 0) ⟨#[], #[.string .empty], []⟩).memory :=
  laidMet_of_run' 8 (by kernel_rfl) (by kernel_rfl)
theorem reads (os : Os) {H : Type} (enc : TypeId × Value → H) : ∃ places, DataW.whole enc Try.prog ((laidWorld os).forCall (fun _ _ => 0) ⟨#[], #[.string .empty], []⟩).memory Try.f5.params.toList Rows.pageLinesSpec.vars false (#[.string .empty] : Array Value).toList 8 = some ([.lit (.string [])], [], places) :=
  ⟨[], by kernel_rfl⟩

set_option maxRecDepth 100000 in
theorem lifted (os : Os) (started : os.Started) (H : Type) (enc : TypeId × Value → H) (F : Stop.Interp) :
    ReturnsInHanded {} Try.checked os 5 .any ((OpenSpec.ofChange Rows.pageLinesSpec).preRow enc Try.prog Try.f5 Rows.pageLinesRow.domain false Rows.pageLinesRow.laid) (((OpenSpec.ofChange Rows.pageLinesSpec).at F).post enc Try.prog Try.f5 false true false false) := by
  obtain ⟨places, hx⟩ := reads os enc
  refine returnsInHanded_of_row (C := Try.checked) (s := OpenSpec.ofChange Rows.pageLinesSpec) own started (by kernel_rfl) Try.func5
    (witness_row_at (enc := enc) (C := Try.checked) false (laidWorld os) #[.string .empty] rfl (by kernel_rfl) (by kernel_rfl) (by kernel_rfl)
      (OpenSpec.preRow_of_cond 8 hx (by kernel_rfl) (fun k hk => by cases hk) (by kernel_rfl) (laid_met os))) ?_
  intro W base args ds gs before hval hW _ hc _ hL hs _
  exact contract H enc W base args ds gs before hval hW hs hL

theorem proved : Rows.PageLinesSaid :=
  OpenClaim.holds_of_cond 5 Try.f5 rfl rfl rfl rfl rfl rfl rfl ⟨rfl, rfl, rfl, rfl, rfl⟩ rfl rfl rfl rfl rfl (by kernel_rfl) Try.func5 (by kernel_rfl)
    (of_decide_eq_true (by kernel_rfl)) (by unfold Func.isWrapper; first | (rw [if_pos (by decide +kernel)]; kernel_rfl) | (rw [if_neg (by decide +kernel)]; exact ⟨rfl, rfl⟩))
    (fun os started H enc _ F => by rw [OpenClaim.pre_eq_preRow]; exact lifted os started H enc F)
#print axioms proved
end Go.Proofs.Ytbinmfenhbpdnaa.pl.lines
