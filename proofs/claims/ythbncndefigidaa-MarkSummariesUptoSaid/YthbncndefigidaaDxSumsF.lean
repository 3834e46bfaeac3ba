/- The law MarkSummaries of the row Rows.markSummariesRow: for every input the law returns true, and the input reads as it did. No condition: the row's own. -/
import Derived.Test.YthbncndefigidaaDxSumsE
import Derived.JoinedCond
import Derived.JoinedOf
import Derived.JoinedAt
set_option linter.unusedVariables false
set_option linter.unusedSimpArgs false
namespace Go.Proofs.Ythbncndefigidaa.ms.sums
open Go.ChangeShapes Go.WideShapes Go.ChangeAt Go.RowKit

mutual
theorem bulk_le {H : Type} : (d : DataW H) → DS.bulk d ≤ Rows.uptoBulk d
  | .lit (.string b) => by simp [DS.bulk, Rows.uptoBulk]
  | .lit (.bool _) => by simp [DS.bulk, Rows.uptoBulk]
  | .lit (.int _ _) => by simp [DS.bulk, Rows.uptoBulk]
  | .lit (.float _ _) => by simp [DS.bulk, Rows.uptoBulk]
  | .lit .nil => by simp [DS.bulk, Rows.uptoBulk]
  | .nil => by simp [DS.bulk, Rows.uptoBulk]
  | .ptr d => by simp [DS.bulk]
  | .slice elems spare => by have := bulks_le elems; simp only [DS.bulk, Rows.uptoBulk]; omega
  | .agg parts => by have := bulks_le parts; simp only [DS.bulk, Rows.uptoBulk]; omega
  | .iface _ d => by simp [DS.bulk]
  | .map _ => by simp [DS.bulk]
  | .held _ => by simp [DS.bulk]
theorem bulks_le {H : Type} : (l : List (DataW H)) → DS.bulk.bulkAll l ≤ Rows.uptoBulkAll l
  | [] => by simp [DS.bulk.bulkAll]
  | d :: r => by have h1 := bulk_le d; have h2 := bulks_le r; simp only [DS.bulk.bulkAll, Rows.uptoBulkAll]; omega
end
theorem own : ownKnob Try.prog.godebug = none := by kernel_rfl
theorem laid : laidOutB Try.prog = true := by kernel_rfl
theorem rec22 : Try.prog.readableRec 22 = true ∧ 22 < Try.prog.types.size := ⟨by kernel_rfl, of_decide_eq_true (by kernel_rfl)⟩
theorem rec3 : Try.prog.readableRec 3 = true ∧ 3 < Try.prog.types.size := ⟨by kernel_rfl, of_decide_eq_true (by kernel_rfl)⟩
noncomputable def code : Code := (Try.f7.body).getD .skip
theorem body : Try.f7.body = some code := by kernel_rfl
theorem name : (Try.f7.name == "runtime.NumGoroutine") = false := by kernel_rfl
theorem sg : DS.lk 7 E.sigs = some sig7 := by kernel_rfl
theorem pm : DS.paramsOf E.tt Try.f7.params.toList = some sig7.params := by kernel_rfl
theorem rs : sig7.results = [.val .bool] := by kernel_rfl
theorem rt : Try.f7.resultTypes = #[4] := by kernel_rfl

set_option maxRecDepth 100000 in
theorem contract (H : Type) (enc : TypeId × Value → H) (W : World) (base : Nat) (args : Array Value) (ds gs : List (DataW H)) (before : List MemPlace)
    (hval : ∀ (j : Nat) t v, Try.f7.params[j]? = some t → args[j]? = some v → Value.okWide Try.prog W .any base t v)
    (hW : DataW.Whole enc Try.prog Try.f7.params.toList Rows.markSummariesSpec.vars false W args.toList ds gs before) (hsm : Rows.uptoSmall H (ds ++ gs) = true) :
    Calls Try.prog 7 args W fun e W' => ∃ v, e = .returned v ∧ Rows.markSummariesSpec.post enc Try.prog Try.f7 false true false false W args v W' := by
  have hshape : ∃ d0 d1, ds = [d0, d1] ∧ gs = [] := by
    obtain ⟨p, q, hA, hV, _⟩ := hW
    rw [Try.params7] at hA
    obtain ⟨v0, vs0, d0, ds0, p0, q0, _, rfl, _, _, r0⟩ := trodAll_cons hA
    obtain ⟨v1, vs1, d1, ds1, p1, q1, _, rfl, _, _, r1⟩ := trodAll_cons r0
    obtain ⟨_, rfl, _⟩ := trodAll_nil r1
    obtain ⟨rfl, _⟩ := trodVars_none hV
    exact ⟨d0, d1, rfl, rfl⟩
  obtain ⟨d0, d1, rfl, rfl⟩ := hshape
  refine DS.law_contract env (DS.tt_ok tt_all).2.1 (DS.tt_ok tt_all).2.2 (sg := sig7) Try.func7 name body sg pm rs rt Try.underlying4 laid ?_ rfl hval hW rfl ?_
  · intro t ht
    rw [Try.params7] at ht
    have : t = 22 ∨ t = 3 := by simpa using ht
    rcases this with rfl | rfl
    · exact rec22
    · exact rec3
  · intro xs hx hm
    have hsm2 : DS.dmass.dmAll xs ≤ 1048576 := Nat.le_trans hm (Nat.le_trans (bulks_le _) (by have := of_decide_eq_true hsm; simpa using this))
    obtain ⟨v0, vs0, x0, xs0, _, rfl, h0, s0⟩ := DS.args_cons hx
    obtain ⟨v1, vs1, x1, xs1, _, rfl, h1, s1⟩ := DS.args_cons s0
    obtain ⟨_, rfl⟩ := DS.args_nil s1
    obtain ⟨_, _, _, e0, _⟩ := DS.Rep.inv_slice h0
    rw [e0] at h0 hsm2 ⊢
    obtain ⟨_, e1, _⟩ := DS.Rep.inv_int h1
    rw [e1] at h1 hsm2 ⊢
    exact DS.RUN_run (lawR h0 h1 hsm2)

set_option maxRecDepth 100000 in
theorem lifted (os : Os) (started : os.Started) (H : Type) (enc : TypeId × Value → H) (F : Stop.Interp) :
    ReturnsInHanded {} Try.checked os 7 .any ((Rows.OpenSpec.upto Rows.markSummariesSpec).pre6 enc Try.prog Try.f7 Rows.markSummariesUptoRow.domain false) (((Rows.OpenSpec.upto Rows.markSummariesSpec).at F).post enc Try.prog Try.f7 false true false false) := by
  refine returnsInHanded_of_cond (C := Try.checked) (s := Rows.OpenSpec.upto Rows.markSummariesSpec) (k := Rows.uptoSmall) rfl own started (by kernel_rfl) Try.func7
    (OpenSpec.witness (enc := enc) (C := Try.checked) (s := Rows.OpenSpec.upto Rows.markSummariesSpec) (k := Rows.uptoSmall) rfl false ⟨#[], #[.slice none 0 0, .int .i64 0], []⟩ 8 (by kernel_rfl) (by kernel_rfl) (by kernel_rfl)
      (x := ([.nil, .lit (.int .i64 0)], [], [])) (by kernel_rfl) rfl (by kernel_rfl)) ?_
  intro W base args ds gs before hval hW _ hk _
  exact contract H enc W base args ds gs before hval hW hk

theorem proved : Rows.MarkSummariesUptoSaid :=
  OpenClaim.holds_of_cond 7 Try.f7 rfl rfl rfl rfl rfl rfl rfl ⟨rfl, rfl, rfl, rfl, rfl⟩ rfl rfl rfl rfl rfl (by kernel_rfl) Try.func7 (by kernel_rfl)
    (of_decide_eq_true (by kernel_rfl)) (by unfold Func.isWrapper; first | (rw [if_pos (by decide +kernel)]; kernel_rfl) | (rw [if_neg (by decide +kernel)]; exact ⟨rfl, rfl⟩))
    (fun os started H enc _ F => lifted os started H enc F)
#print axioms proved
end Go.Proofs.Ythbncndefigidaa.ms.sums
