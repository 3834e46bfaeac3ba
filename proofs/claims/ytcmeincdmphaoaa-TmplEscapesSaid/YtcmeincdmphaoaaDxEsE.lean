/- The law TmplEscapes of the row Rows.tmplEscapesRow: for every input the law returns true, and the input reads as it did. Conditions: the row's own. -/
import Derived.Test.YtcmeincdmphaoaaDxEsD
import Derived.WalkKit
import Derived.ProofKit
import Derived.OpenShut
import Derived.JoinedCond
import Derived.JoinedOf
import Derived.JoinedAt
import Derived.Deep.DeepHandedRow
import Derived.LaidLaws
import Derived.Lib.LaidTab
set_option linter.unusedVariables false
set_option linter.unusedSimpArgs false
namespace Go.Proofs.Ytcmeincdmphaoaa.es.esx
open Go.ChangeShapes Go.WideShapes Go.ChangeAt Go.RowKit

theorem own : ownKnob Try.prog.godebug = none := by kernel_rfl
theorem laid : laidOutB Try.prog = true := by kernel_rfl
theorem rec9 : Try.prog.readableRec 9 = true ∧ 9 < Try.prog.types.size := ⟨by kernel_rfl, of_decide_eq_true (by kernel_rfl)⟩
theorem rec4 : Try.prog.readableRec 4 = true ∧ 4 < Try.prog.types.size := ⟨by kernel_rfl, of_decide_eq_true (by kernel_rfl)⟩
noncomputable def code : Code := (Try.f3.body).getD .skip
theorem body : Try.f3.body = some code := by kernel_rfl
theorem name : (Try.f3.name == "runtime.NumGoroutine") = false := by kernel_rfl
theorem sg : DS.lk 3 E.sigs = some sig3 := by kernel_rfl
theorem pm : DS.paramsOf E.tt Try.f3.params.toList = some sig3.params := by kernel_rfl
theorem rs : sig3.results = [.val .bool] := by kernel_rfl
theorem rt : Try.f3.resultTypes = #[4] := by kernel_rfl

set_option maxRecDepth 100000 in
theorem contract (H : Type) (enc : TypeId × Value → H) (W : World) (base : Nat) (args : Array Value) (ds gs : List (DataW H)) (before : List MemPlace)
    (hval : ∀ (j : Nat) t v, Try.f3.params[j]? = some t → args[j]? = some v → Value.okWide Try.prog W .any base t v)
    (hW : DataW.Whole enc Try.prog Try.f3.params.toList Rows.tmplEscapesSpec.vars false W args.toList ds gs before) (hs : W.ShapedOpen Try.prog) (hL : laidMetH Try.prog Rows.tmplEscapesRow.laid W) :
    Calls Try.prog 3 args W fun e W' => ∃ v, e = .returned v ∧ Rows.tmplEscapesSpec.post enc Try.prog Try.f3 false true false false W args v W' := by
  have hshape : ∃ d0 d1, ds = [d0, d1] ∧ gs = [] := by
    obtain ⟨p, q, hA, hV, _⟩ := hW
    rw [Try.params3] at hA
    obtain ⟨v0, vs0, d0, ds0, p0, q0, _, rfl, _, _, r0⟩ := trodAll_cons hA
    obtain ⟨v1, vs1, d1, ds1, p1, q1, _, rfl, _, _, r1⟩ := trodAll_cons r0
    obtain ⟨_, rfl, _⟩ := trodAll_nil r1
    obtain ⟨rfl, _⟩ := trodVars_none hV
    exact ⟨d0, d1, rfl, rfl⟩
  obtain ⟨d0, d1, rfl, rfl⟩ := hshape
  refine DS.law_contract_at (env W) (DS.tt_ok tt_all).2.1 (DS.tt_ok tt_all).2.2 (sg := sig3) Try.func3 name body sg pm rs rt Try.underlying4 laid ?_ rfl hval hW rfl ?_
  · intro t ht
    rw [Try.params3] at ht
    have : t = 9 ∨ t = 4 := by simpa using ht
    rcases this with rfl | rfl
    · exact rec9
    · exact rec4
  · intro xs hx hm
    obtain ⟨v0, vs0, x0, xs0, _, rfl, h0, s0⟩ := DS.args_cons hx
    obtain ⟨v1, vs1, x1, xs1, _, rfl, h1, s1⟩ := DS.args_cons s0
    obtain ⟨_, rfl⟩ := DS.args_nil s1
    obtain ⟨y0, _, e0, _⟩ := DS.Rep.inv_str h0
    rw [e0] at h0 ⊢
    obtain ⟨_, e1⟩ := DS.Rep.inv_bool h1
    rw [e1] at h1 ⊢
    exact DS.RUN_run (law h0 h1)

noncomputable def laidWorld (os : Os) : World :=
  World.holding Try.prog os ⟨#[], #[], []⟩
theorem laid_met (os : Os) : laidMet Try.prog Rows.tmplEscapesRow.laid ((laidWorld os).forCall (fun _ _ => 0) ⟨#[], #[.string .empty, .bool false], []⟩).memory :=
  laidMet_of_run' 8 (by kernel_rfl) (by kernel_rfl)
theorem reads (os : Os) {H : Type} (enc : TypeId × Value → H) : ∃ places, DataW.whole enc Try.prog ((laidWorld os).forCall (fun _ _ => 0) ⟨#[], #[.string .empty, .bool false], []⟩).memory Try.f3.params.toList Rows.tmplEscapesSpec.vars false (#[.string .empty, .bool false] : Array Value).toList 8 = some ([.lit (.string []), .lit (.bool false)], [], places) :=
  ⟨[], by kernel_rfl⟩

set_option maxRecDepth 100000 in
theorem lifted (os : Os) (started : os.Started) (H : Type) (enc : TypeId × Value → H) (F : Stop.Interp) :
    ReturnsInHanded {} Try.checked os 3 .any ((OpenSpec.ofChange Rows.tmplEscapesSpec).preRow enc Try.prog Try.f3 Rows.tmplEscapesRow.domain false Rows.tmplEscapesRow.laid) (((OpenSpec.ofChange Rows.tmplEscapesSpec).at F).post enc Try.prog Try.f3 false true false false) := by
  obtain ⟨places, hx⟩ := reads os enc
  refine returnsInHanded_of_row (C := Try.checked) (s := OpenSpec.ofChange Rows.tmplEscapesSpec) own started (by kernel_rfl) Try.func3
    (witness_row_at (enc := enc) (C := Try.checked) false (laidWorld os) #[.string .empty, .bool false] rfl (by kernel_rfl) (by kernel_rfl) (by kernel_rfl)
      (OpenSpec.preRow_of_cond 8 hx (by kernel_rfl) (fun k hk => by cases hk) (by kernel_rfl) (laid_met os))) ?_
  intro W base args ds gs before hval hW _ hc _ hL hs _
  exact contract H enc W base args ds gs before hval hW hs hL

theorem proved : Rows.TmplEscapesSaid :=
  OpenClaim.holds_of_cond 3 Try.f3 rfl rfl rfl rfl rfl rfl rfl ⟨rfl, rfl, rfl, rfl, rfl⟩ rfl rfl rfl rfl rfl (by kernel_rfl) Try.func3 (by kernel_rfl)
    (of_decide_eq_true (by kernel_rfl)) (by unfold Func.isWrapper; first | (rw [if_pos (by decide +kernel)]; kernel_rfl) | (rw [if_neg (by decide +kernel)]; exact ⟨rfl, rfl⟩))
    (fun os started H enc _ F => by rw [OpenClaim.pre_eq_preRow]; exact lifted os started H enc F)
#print axioms proved
end Go.Proofs.Ytcmeincdmphaoaa.es.esx
