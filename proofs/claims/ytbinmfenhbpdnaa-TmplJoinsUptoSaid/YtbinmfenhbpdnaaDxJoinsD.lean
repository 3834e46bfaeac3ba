/- The law TmplJoins of the row Rows.tmplJoinsUptoRow: for every input of bulk at most 1048576 the law returns true, and the input reads as it did. Conditions: the row's own. -/
import Derived.Test.YtbinmfenhbpdnaaDxJoinsC
import Derived.WalkKit
import Derived.ProofKit
import Derived.OpenShut
import Derived.JoinedCond
import Derived.JoinedOf
import Derived.JoinedAt
import Derived.Deep.DeepHandedRow
import Derived.LaidLaws
import Derived.Lib.LaidTab
set_option linter.unusedVariables false
set_option linter.unusedSimpArgs false
namespace Go.Proofs.Ytbinmfenhbpdnaa.tj.joins
open Go.ChangeShapes Go.WideShapes Go.ChangeAt Go.RowKit

mutual
theorem bulk_le {H : Type} : (d : DataW H) → DS.bulk d ≤ Rows.uptoBulk d
  | .lit (.string b) => by simp [DS.bulk, Rows.uptoBulk]
  | .lit (.bool _) => by simp [DS.bulk, Rows.uptoBulk]
  | .lit (.int _ _) => by simp [DS.bulk, Rows.uptoBulk]
  | .lit (.float _ _) => by simp [DS.bulk, Rows.uptoBulk]
  | .lit .nil => by simp [DS.bulk, Rows.uptoBulk]
  | .nil => by simp [DS.bulk, Rows.uptoBulk]
  | .ptr d => by simp [DS.bulk]
  | .slice elems spare => by have := bulks_le elems; simp only [DS.bulk, Rows.uptoBulk]; omega
  | .agg parts => by have := bulks_le parts; simp only [DS.bulk, Rows.uptoBulk]; omega
  | .iface _ d => by simp [DS.bulk]
  | .map _ => by simp [DS.bulk]
  | .held _ => by simp [DS.bulk]
theorem bulks_le {H : Type} : (l : List (DataW H)) → DS.bulk.bulkAll l ≤ Rows.uptoBulkAll l
  | [] => by simp [DS.bulk.bulkAll]
  | d :: r => by have h1 := bulk_le d; have h2 := bulks_le r; simp only [DS.bulk.bulkAll, Rows.uptoBulkAll]; omega
end
theorem own : ownKnob Try.prog.godebug = none := by kernel_rfl
theorem laid : laidOutB Try.prog = true := by kernel_rfl
theorem rec27 : Try.prog.readableRec 27 = true ∧ 27 < Try.prog.types.size := ⟨by kernel_rfl, of_decide_eq_true (by kernel_rfl)⟩
noncomputable def code : Code := (Try.f4.body).getD .skip
theorem body : Try.f4.body = some code := by kernel_rfl
theorem name : (Try.f4.name == "runtime.NumGoroutine") = false := by kernel_rfl
theorem sg : DS.lk 4 E.sigs = some sig4 := by kernel_rfl
theorem pm : DS.paramsOf E.tt Try.f4.params.toList = some sig4.params := by kernel_rfl
theorem rs : sig4.results = [.val .bool] := by kernel_rfl
theorem rt : Try.f4.resultTypes = #[4] := by kernel_rfl

set_option maxRecDepth 100000 in
theorem contract (H : Type) (enc : TypeId × Value → H) (W : World) (base : Nat) (args : Array Value) (ds gs : List (DataW H)) (before : List MemPlace)
    (hval : ∀ (j : Nat) t v, Try.f4.params[j]? = some t → args[j]? = some v → Value.okWide Try.prog W .any base t v)
    (hW : DataW.Whole enc Try.prog Try.f4.params.toList Rows.tmplJoinsSpec.vars false W args.toList ds gs before) (hsm : Rows.uptoSmall H (ds ++ gs) = true) (hs : W.ShapedOpen Try.prog) (hL : laidMetH Try.prog Rows.tmplJoinsUptoRow.laid W) :
    Calls Try.prog 4 args W fun e W' => ∃ v, e = .returned v ∧ Rows.tmplJoinsSpec.post enc Try.prog Try.f4 false true false false W args v W' := by
  have hshape : ∃ d0, ds = [d0] ∧ gs = [] := by
    obtain ⟨p, q, hA, hV, _⟩ := hW
    rw [Try.params4] at hA
    obtain ⟨v0, vs0, d0, ds0, p0, q0, _, rfl, _, _, r0⟩ := trodAll_cons hA
    obtain ⟨_, rfl, _⟩ := trodAll_nil r0
    obtain ⟨rfl, _⟩ := trodVars_none hV
    exact ⟨d0, rfl, rfl⟩
  obtain ⟨d0, rfl, rfl⟩ := hshape
  refine DS.law_contract_at (env W) (DS.tt_ok tt_all).2.1 (DS.tt_ok tt_all).2.2 (sg := sig4) Try.func4 name body sg pm rs rt Try.underlying4 laid ?_ rfl hval hW rfl ?_
  · intro t ht
    rw [Try.params4] at ht
    have : t = 27 := by simpa using ht
    rcases this with rfl
    · exact rec27
  · intro xs hx hm
    have hsm2 : DS.dmass.dmAll xs ≤ 1048576 := Nat.le_trans hm (Nat.le_trans (bulks_le _) (by have := of_decide_eq_true hsm; simpa using this))
    obtain ⟨v0, vs0, x0, xs0, _, rfl, h0, s0⟩ := DS.args_cons hx
    obtain ⟨_, rfl⟩ := DS.args_nil s0
    obtain ⟨_, _, _, e0, _⟩ := DS.Rep.inv_slice h0
    rw [e0] at h0 hsm2 ⊢
    exact DS.RUN_run (lawR h0 hsm2)

noncomputable def laidWorld (os : Os) : World :=
  World.holding Try.prog os ⟨#[], #[], []⟩
theorem laid_met (os : Os) : laidMet Try.prog Rows.tmplJoinsUptoRow.laid ((laidWorld os).forCall (fun _ _ => 0) ⟨#[], #[.slice none 0 0], []⟩).memory :=
  laidMet_of_run' 8 (by kernel_rfl) (by kernel_rfl)
theorem reads (os : Os) {H : Type} (enc : TypeId × Value → H) : ∃ places, DataW.whole enc Try.prog ((laidWorld os).forCall (fun _ _ => 0) ⟨#[], #[.slice none 0 0], []⟩).memory Try.f4.params.toList Rows.tmplJoinsSpec.vars false (#[.slice none 0 0] : Array Value).toList 8 = some ([.nil], [], places) :=
  ⟨[], by kernel_rfl⟩

set_option maxRecDepth 100000 in
theorem lifted (os : Os) (started : os.Started) (H : Type) (enc : TypeId × Value → H) (F : Stop.Interp) :
    ReturnsInHanded {} Try.checked os 4 .any ((Rows.OpenSpec.upto Rows.tmplJoinsSpec).preRow enc Try.prog Try.f4 Rows.tmplJoinsUptoRow.domain false Rows.tmplJoinsUptoRow.laid) (((Rows.OpenSpec.upto Rows.tmplJoinsSpec).at F).post enc Try.prog Try.f4 false true false false) := by
  obtain ⟨places, hx⟩ := reads os enc
  refine returnsInHanded_of_row (C := Try.checked) (s := Rows.OpenSpec.upto Rows.tmplJoinsSpec) own started (by kernel_rfl) Try.func4
    (witness_row_at (enc := enc) (C := Try.checked) false (laidWorld os) #[.slice none 0 0] rfl (by kernel_rfl) (by kernel_rfl) (by kernel_rfl)
      (OpenSpec.preRow_of_cond 8 hx (by kernel_rfl) (fun k hk => by cases hk; kernel_rfl) (by kernel_rfl) (laid_met os))) ?_
  intro W base args ds gs before hval hW _ hc _ hL hs _
  exact contract H enc W base args ds gs before hval hW (hc _ rfl) hs hL

theorem proved : Rows.TmplJoinsUptoSaid :=
  OpenClaim.holds_of_cond 4 Try.f4 rfl rfl rfl rfl rfl rfl rfl ⟨rfl, rfl, rfl, rfl, rfl⟩ rfl rfl rfl rfl rfl (by kernel_rfl) Try.func4 (by kernel_rfl)
    (of_decide_eq_true (by kernel_rfl)) (by unfold Func.isWrapper; first | (rw [if_pos (by decide +kernel)]; kernel_rfl) | (rw [if_neg (by decide +kernel)]; exact ⟨rfl, rfl⟩))
    (fun os started H enc _ F => by rw [OpenClaim.pre_eq_preRow]; exact lifted os started H enc F)
#print axioms proved
end Go.Proofs.Ytbinmfenhbpdnaa.tj.joins
