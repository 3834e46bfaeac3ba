/- The law PageNames of the row Rows.pageNamesUptoRow: for every input of bulk at most 1048576 the law returns true, and the input reads as it did. Conditions: the row's own. -/
import Derived.Test.YtlmfiknfkgdbpaaDxPnD
import Derived.WalkKit
import Derived.ProofKit
import Derived.OpenShut
import Derived.JoinedCond
import Derived.JoinedOf
import Derived.JoinedAt
import Derived.Deep.DeepHandedRow
import Derived.LaidLaws
import Derived.Lib.LaidTab
set_option linter.unusedVariables false
set_option linter.unusedSimpArgs false
namespace Go.Proofs.Ytlmfiknfkgdbpaa.pn.nms
open Go.ChangeShapes Go.WideShapes Go.ChangeAt Go.RowKit

mutual
theorem bulk_le {H : Type} : (d : DataW H) → DS.bulk d ≤ Rows.uptoBulk d
  | .lit (.string b) => by simp [DS.bulk, Rows.uptoBulk]
  | .lit (.bool _) => by simp [DS.bulk, Rows.uptoBulk]
  | .lit (.int _ _) => by simp [DS.bulk, Rows.uptoBulk]
  | .lit (.float _ _) => by simp [DS.bulk, Rows.uptoBulk]
  | .lit .nil => by simp [DS.bulk, Rows.uptoBulk]
  | .nil => by simp [DS.bulk, Rows.uptoBulk]
  | .ptr d => by simp [DS.bulk]
  | .slice elems spare => by have := bulks_le elems; simp only [DS.bulk, Rows.uptoBulk]; omega
  | .agg parts => by have := bulks_le parts; simp only [DS.bulk, Rows.uptoBulk]; omega
  | .iface _ d => by simp [DS.bulk]
  | .map _ => by simp [DS.bulk]
  | .held _ => by simp [DS.bulk]
theorem bulks_le {H : Type} : (l : List (DataW H)) → DS.bulk.bulkAll l ≤ Rows.uptoBulkAll l
  | [] => by simp [DS.bulk.bulkAll]
  | d :: r => by have h1 := bulk_le d; have h2 := bulks_le r; simp only [DS.bulk.bulkAll, Rows.uptoBulkAll]; omega
end
theorem own : ownKnob Try.prog.godebug = none := by kernel_rfl
theorem laid : laidOutB Try.prog = true := by kernel_rfl
theorem rec22 : Try.prog.readableRec 22 = true ∧ 22 < Try.prog.types.size := ⟨by kernel_rfl, of_decide_eq_true (by kernel_rfl)⟩
theorem rec23 : Try.prog.readableRec 23 = true ∧ 23 < Try.prog.types.size := ⟨by kernel_rfl, of_decide_eq_true (by kernel_rfl)⟩
noncomputable def code : Code := (Try.f3.body).getD .skip
theorem body : Try.f3.body = some code := by kernel_rfl
theorem name : (Try.f3.name == "runtime.NumGoroutine") = false := by kernel_rfl
theorem sg : DS.lk 3 E.sigs = some sig3 := by kernel_rfl
theorem pm : DS.paramsOf E.tt Try.f3.params.toList = some sig3.params := by kernel_rfl
theorem rs : sig3.results = [.val .bool] := by kernel_rfl
theorem rt : Try.f3.resultTypes = #[4] := by kernel_rfl

set_option maxRecDepth 100000 in
theorem contract (H : Type) (enc : TypeId × Value → H) (W : World) (base : Nat) (args : Array Value) (ds gs : List (DataW H)) (before : List MemPlace)
    (hval : ∀ (j : Nat) t v, Try.f3.params[j]? = some t → args[j]? = some v → Value.okWide Try.prog W .any base t v)
    (hW : DataW.Whole enc Try.prog Try.f3.params.toList Rows.pageNamesSpec.vars false W args.toList ds gs before) (hsm : Rows.uptoSmall H (ds ++ gs) = true) (hs : W.ShapedOpen Try.prog) (hL : laidMetH Try.prog Rows.pageNamesUptoRow.laid W) :
    Calls Try.prog 3 args W fun e W' => ∃ v, e = .returned v ∧ Rows.pageNamesSpec.post enc Try.prog Try.f3 false true false false W args v W' := by
  have hshape : ∃ d0 d1, ds = [d0, d1] ∧ gs = [] := by
    obtain ⟨p, q, hA, hV, _⟩ := hW
    rw [Try.params3] at hA
    obtain ⟨v0, vs0, d0, ds0, p0, q0, _, rfl, _, _, r0⟩ := trodAll_cons hA
    obtain ⟨v1, vs1, d1, ds1, p1, q1, _, rfl, _, _, r1⟩ := trodAll_cons r0
    obtain ⟨_, rfl, _⟩ := trodAll_nil r1
    obtain ⟨rfl, _⟩ := trodVars_none hV
    exact ⟨d0, d1, rfl, rfl⟩
  obtain ⟨d0, d1, rfl, rfl⟩ := hshape
  refine DS.law_contract_at (env W) (DS.tt_ok tt_all).2.1 (DS.tt_ok tt_all).2.2 (sg := sig3) Try.func3 name body sg pm rs rt Try.underlying4 laid ?_ rfl hval hW rfl ?_
  · intro t ht
    rw [Try.params3] at ht
    have : t = 22 ∨ t = 23 := by simpa using ht
    rcases this with rfl | rfl
    · exact rec22
    · exact rec23
  · intro xs hx hm
    have hsm2 : DS.dmass.dmAll xs ≤ 1048576 := Nat.le_trans hm (Nat.le_trans (bulks_le _) (by have := of_decide_eq_true hsm; simpa using this))
    obtain ⟨v0, vs0, x0, xs0, _, rfl, h0, s0⟩ := DS.args_cons hx
    obtain ⟨v1, vs1, x1, xs1, _, rfl, h1, s1⟩ := DS.args_cons s0
    obtain ⟨_, rfl⟩ := DS.args_nil s1
    obtain ⟨_, _, _, e0, _⟩ := DS.Rep.inv_slice h0
    rw [e0] at h0 hsm2 ⊢
    obtain ⟨_, _, _, e1, _⟩ := DS.Rep.inv_slice h1
    rw [e1] at h1 hsm2 ⊢
    exact DS.RUN_run (lawR h0 h1 hsm2)

noncomputable def laidWorld (os : Os) : World :=
  World.holding Try.prog os ⟨#[], #[], []⟩
theorem laid_met (os : Os) : laidMet Try.prog Rows.pageNamesUptoRow.laid ((laidWorld os).forCall (fun _ _ => 0) ⟨#[], #[.slice none 0 0, .slice none 0 0], []⟩).memory :=
  laidMet_of_run' 8 (by kernel_rfl) (by kernel_rfl)
theorem reads (os : Os) {H : Type} (enc : TypeId × Value → H) : ∃ places, DataW.whole enc Try.prog ((laidWorld os).forCall (fun _ _ => 0) ⟨#[], #[.slice none 0 0, .slice none 0 0], []⟩).memory Try.f3.params.toList Rows.pageNamesSpec.vars false (#[.slice none 0 0, .slice none 0 0] : Array Value).toList 8 = some ([.nil, .nil], [], places) :=
  ⟨[], by kernel_rfl⟩

set_option maxRecDepth 100000 in
theorem lifted (os : Os) (started : os.Started) (H : Type) (enc : TypeId × Value → H) (F : Stop.Interp) :
    ReturnsInHanded {} Try.checked os 3 .any ((Rows.OpenSpec.upto Rows.pageNamesSpec).preRow enc Try.prog Try.f3 Rows.pageNamesUptoRow.domain false Rows.pageNamesUptoRow.laid) (((Rows.OpenSpec.upto Rows.pageNamesSpec).at F).post enc Try.prog Try.f3 false true false false) := by
  obtain ⟨places, hx⟩ := reads os enc
  refine returnsInHanded_of_row (C := Try.checked) (s := Rows.OpenSpec.upto Rows.pageNamesSpec) own started (by kernel_rfl) Try.func3
    (witness_row_at (enc := enc) (C := Try.checked) false (laidWorld os) #[.slice none 0 0, .slice none 0 0] rfl (by kernel_rfl) (by kernel_rfl) (by kernel_rfl)
      (OpenSpec.preRow_of_cond 8 hx (by kernel_rfl) (fun k hk => by cases hk; kernel_rfl) (by kernel_rfl) (laid_met os))) ?_
  intro W base args ds gs before hval hW _ hc _ hL hs _
  exact contract H enc W base args ds gs before hval hW (hc _ rfl) hs hL

theorem proved : Rows.PageNamesUptoSaid :=
  OpenClaim.holds_of_cond 3 Try.f3 rfl rfl rfl rfl rfl rfl rfl ⟨rfl, rfl, rfl, rfl, rfl⟩ rfl rfl rfl rfl rfl (by kernel_rfl) Try.func3 (by kernel_rfl)
    (of_decide_eq_true (by kernel_rfl)) (by unfold Func.isWrapper; first | (rw [if_pos (by decide +kernel)]; kernel_rfl) | (rw [if_neg (by decide +kernel)]; exact ⟨rfl, rfl⟩))
    (fun os started H enc _ F => by rw [OpenClaim.pre_eq_preRow]; exact lifted os started H enc F)
#print axioms proved
end Go.Proofs.Ytlmfiknfkgdbpaa.pn.nms
