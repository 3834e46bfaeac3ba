/- The law ShipMaps of the row Rows.shipMapsUptoRow: for every input of bulk at most 1048576 the law returns true, and the input reads as it did with every table that it lists tied to the program. Conditions: the row's own. -/
import Derived.Test.YtcmeincdmphaoaaDoorDxMpD
import Derived.Test.YtcmeincdmphaoaaDoorCards
import Derived.Test.YtcmeincdmphaoaaDoorTie
import Derived.WalkKit
import Derived.ProofKit
import Derived.OpenShut
import Derived.JoinedCond
import Derived.JoinedOf
import Derived.JoinedAt
import Derived.Deep.DeepHandedRow
import Derived.LaidLaws
import Derived.Lib.LaidTab
set_option linter.unusedVariables false
set_option linter.unusedSimpArgs false
namespace Go.Proofs.YtcmeincdmphaoaaDoor.mp.mpx
open Go.ChangeShapes Go.WideShapes Go.ChangeAt Go.RowKit

mutual
theorem bulk_le {H : Type} : (d : DataW H) → DS.bulk d ≤ Rows.uptoBulk d
  | .lit (.string b) => by simp [DS.bulk, Rows.uptoBulk]
  | .lit (.bool _) => by simp [DS.bulk, Rows.uptoBulk]
  | .lit (.int _ _) => by simp [DS.bulk, Rows.uptoBulk]
  | .lit (.float _ _) => by simp [DS.bulk, Rows.uptoBulk]
  | .lit .nil => by simp [DS.bulk, Rows.uptoBulk]
  | .nil => by simp [DS.bulk, Rows.uptoBulk]
  | .ptr d => by simp [DS.bulk]
  | .slice elems spare => by have := bulks_le elems; simp only [DS.bulk, Rows.uptoBulk]; omega
  | .agg parts => by have := bulks_le parts; simp only [DS.bulk, Rows.uptoBulk]; omega
  | .iface _ d => by simp [DS.bulk]
  | .map _ => by simp [DS.bulk]
  | .held _ => by simp [DS.bulk]
theorem bulks_le {H : Type} : (l : List (DataW H)) → DS.bulk.bulkAll l ≤ Rows.uptoBulkAll l
  | [] => by simp [DS.bulk.bulkAll]
  | d :: r => by have h1 := bulk_le d; have h2 := bulks_le r; simp only [DS.bulk.bulkAll, Rows.uptoBulkAll]; omega
end
theorem own : ownKnob Tryd.prog.godebug = none := by kernel_rfl
theorem laid : laidOutB Tryd.prog = true := by kernel_rfl
theorem rec9 : Tryd.prog.readableRec 9 = true ∧ 9 < Tryd.prog.types.size := ⟨by kernel_rfl, of_decide_eq_true (by kernel_rfl)⟩
theorem rec22 : Tryd.prog.readableRec 22 = true ∧ 22 < Tryd.prog.types.size := ⟨by kernel_rfl, of_decide_eq_true (by kernel_rfl)⟩
noncomputable def code : Code := (Tryd.f3.body).getD .skip
theorem body : Tryd.f3.body = some code := by kernel_rfl
theorem name : (Tryd.f3.name == "runtime.NumGoroutine") = false := by kernel_rfl
theorem sg : DS.lk 3 E.sigs = some sig3 := by kernel_rfl
theorem pm : DS.paramsOf E.tt Tryd.f3.params.toList = some sig3.params := by kernel_rfl
theorem rs : sig3.results = [.val .bool] := by kernel_rfl
theorem rt : Tryd.f3.resultTypes = #[4] := by kernel_rfl

set_option maxRecDepth 100000 in
theorem contract (H : Type) (enc : TypeId × Value → H) (W : World) (base : Nat) (args : Array Value) (ds gs : List (DataW H)) (before : List MemPlace)
    (hval : ∀ (j : Nat) t v, Tryd.f3.params[j]? = some t → args[j]? = some v → Value.okWide Tryd.prog W .any base t v)
    (hW : DataW.Whole enc Tryd.prog Tryd.f3.params.toList Rows.shipMapsSpec.vars false W args.toList ds gs before) (hsm : Rows.uptoSmall H (ds ++ gs) = true) (hs : W.ShapedOpen Tryd.prog) (hL : laidMetH Tryd.prog Rows.shipMapsUptoRow.laid W) :
    Calls Tryd.prog 3 args W fun e W' => ∃ v, e = .returned v ∧ Rows.shipMapsSpec.post enc Tryd.prog Tryd.f3 false true false false W args v W' := by
  have hshape : ∃ d0 d1, ds = [d0, d1] ∧ gs = [] := by
    obtain ⟨p, q, hA, hV, _⟩ := hW
    rw [Tryd.params3] at hA
    obtain ⟨v0, vs0, d0, ds0, p0, q0, _, rfl, _, _, r0⟩ := trodAll_cons hA
    obtain ⟨v1, vs1, d1, ds1, p1, q1, _, rfl, _, _, r1⟩ := trodAll_cons r0
    obtain ⟨_, rfl, _⟩ := trodAll_nil r1
    obtain ⟨rfl, _⟩ := trodVars_none hV
    exact ⟨d0, d1, rfl, rfl⟩
  obtain ⟨d0, d1, rfl, rfl⟩ := hshape
  refine DS.law_contract_at (env W) (DS.tt_ok tt_all).2.1 (DS.tt_ok tt_all).2.2 (sg := sig3) Tryd.func3 name body sg pm rs rt Tryd.underlying4 laid ?_ rfl hval hW rfl ?_
  · intro t ht
    rw [Tryd.params3] at ht
    have : t = 9 ∨ t = 22 := by simpa using ht
    rcases this with rfl | rfl
    · exact rec9
    · exact rec22
  · intro xs hx hm
    have hsm2 : DS.dmass.dmAll xs ≤ 1048576 := Nat.le_trans hm (Nat.le_trans (bulks_le _) (by have := of_decide_eq_true hsm; simpa using this))
    obtain ⟨v0, vs0, x0, xs0, _, rfl, h0, s0⟩ := DS.args_cons hx
    obtain ⟨v1, vs1, x1, xs1, _, rfl, h1, s1⟩ := DS.args_cons s0
    obtain ⟨_, rfl⟩ := DS.args_nil s1
    obtain ⟨y0, _, e0, _⟩ := DS.Rep.inv_str h0
    rw [e0] at h0 hsm2 ⊢
    obtain ⟨_, _, _, e1, _⟩ := DS.Rep.inv_slice h1
    rw [e1] at h1 hsm2 ⊢
    exact DS.RUN_run (lawR h0 h1 hsm2)

noncomputable def laidWorld (os : Os) : World :=
  { World.holding Tryd.prog os ⟨#[], #[], []⟩ with heap := (((World.holding Tryd.prog os ⟨#[], #[], []⟩).heap.modify 2 fun | .cells _ t frozen => .cells (DS.flatV Rows.laid_unicode_utf8_acceptRanges).toArray t frozen | o => o).modify 1 fun | .cells _ t frozen => .cells (DS.flatV Rows.laid_unicode_utf8_first).toArray t frozen | o => o) }
theorem laid_met (os : Os) : laidMet Tryd.prog Rows.shipMapsUptoRow.laid ((laidWorld os).forCall (fun _ _ => 0) ⟨#[], #[.string .empty, .slice none 0 0], []⟩).memory :=
  laidMet_of_run' 8 (by kernel_rfl) (by kernel_rfl)
theorem reads (os : Os) {H : Type} (enc : TypeId × Value → H) : ∃ places, DataW.whole enc Tryd.prog ((laidWorld os).forCall (fun _ _ => 0) ⟨#[], #[.string .empty, .slice none 0 0], []⟩).memory Tryd.f3.params.toList Rows.shipMapsSpec.vars false (#[.string .empty, .slice none 0 0] : Array Value).toList 8 = some ([.lit (.string []), .nil], [], places) :=
  ⟨[], by kernel_rfl⟩

set_option maxRecDepth 100000 in
theorem lifted (os : Os) (started : os.Started) (H : Type) (enc : TypeId × Value → H) (F : Stop.Interp) :
    ReturnsInHanded {} Tryd.checked os 3 .any ((Rows.OpenSpec.upto Rows.shipMapsSpec).preRow enc Tryd.prog Tryd.f3 Rows.shipMapsUptoRow.domain false Rows.shipMapsUptoRow.laid) (((Rows.OpenSpec.upto Rows.shipMapsSpec).at F).post enc Tryd.prog Tryd.f3 false true false false) := by
  obtain ⟨places, hx⟩ := reads os enc
  refine returnsInHanded_of_row (C := Tryd.checked) (s := Rows.OpenSpec.upto Rows.shipMapsSpec) own started (by kernel_rfl) Tryd.func3
    (witness_row_at (enc := enc) (C := Tryd.checked) false (laidWorld os) #[.string .empty, .slice none 0 0] rfl (by kernel_rfl) (by kernel_rfl) (by kernel_rfl)
      (OpenSpec.preRow_of_cond 8 hx (by kernel_rfl) (fun k hk => by cases hk; kernel_rfl) (by kernel_rfl) (laid_met os))) ?_
  intro W base args ds gs before hval hW _ hc _ hL hs _
  exact contract H enc W base args ds gs before hval hW (hc _ rfl) hs hL

theorem proved : Rows.ShipMapsUptoSaid :=
  OpenClaim.holds_of_cond 3 Tryd.f3 rfl rfl rfl rfl rfl rfl rfl ⟨rfl, rfl, rfl, rfl, rfl⟩ rfl rfl rfl rfl rfl (by kernel_rfl) Tryd.func3 (by kernel_rfl)
    (of_decide_eq_true (by kernel_rfl)) (by unfold Func.isWrapper; first | (rw [if_pos (by decide +kernel)]; kernel_rfl) | (rw [if_neg (by decide +kernel)]; exact ⟨rfl, rfl⟩))
    (fun os started H enc _ F => by rw [OpenClaim.pre_eq_preRow]; exact lifted os started H enc F)
#print axioms proved
theorem plain (f : FuncId) (fn : Func) (hf : Tryd.pinned.checked.prog.funcNamed "masthead/mastlaw1.ShipMaps" = some f) (hfn : Tryd.pinned.checked.prog.funcs[f]? = some fn) :
    true = Tryd.pinned.checked.prog.looks [] ∧ ∀ (j : Nat) t, fn.params[j]? = some t → Tryd.pinned.checked.prog.wantsStandIn t = false := by
  obtain rfl : f = 3 := Option.some.inj ((show Tryd.prog.funcNamed "masthead/mastlaw1.ShipMaps" = some 3 by kernel_rfl).symm.trans hf) |>.symm
  obtain rfl : fn = Tryd.f3 := (Option.some.inj (Tryd.func3.symm.trans hfn)).symm
  refine ⟨by kernel_rfl, fun j t ht => ?_⟩
  rw [Tryd.params3] at ht
  have : t = 9 ∨ t = 22 := by simpa using Array.mem_of_getElem? ht
  rcases this with rfl | rfl
  · exact (show Tryd.prog.wantsStandIn 9 = false by kernel_rfl)
  · exact (show Tryd.prog.wantsStandIn 22 = false by kernel_rfl)
theorem card : Rows.ShipMapsUptoCardSaid :=
  Claim7.holds_tied_plain_at .later [] _ _ _ _ proved (fun _ h => by cases h) (by kernel_rfl) (fun _ h => by cases h) shipMapsUpto_row_tie rfl ⟨rfl, rfl⟩ (by kernel_rfl) rfl plain (by kernel_rfl)
#print axioms card
end Go.Proofs.YtcmeincdmphaoaaDoor.mp.mpx
