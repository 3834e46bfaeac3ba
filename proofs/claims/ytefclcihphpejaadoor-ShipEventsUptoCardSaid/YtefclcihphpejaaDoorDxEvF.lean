/- The law ShipEvents of the row Rows.shipEventsUptoRow: for every input of bulk at most 1048576 the law returns true, and the input reads as it did with every table that it lists tied to the program. Conditions: the row's own. -/
import Derived.Test.YtefclcihphpejaaDoorDxEvE
import Derived.Test.YtefclcihphpejaaDoorCards
import Derived.Test.YtefclcihphpejaaDoorTie
import Derived.WalkKit
import Derived.ProofKit
import Derived.OpenShut
import Derived.JoinedCond
import Derived.JoinedOf
import Derived.JoinedAt
import Derived.Deep.DeepHandedRow
import Derived.LaidLaws
import Derived.Lib.LaidTab
set_option linter.unusedVariables false
set_option linter.unusedSimpArgs false
namespace Go.Proofs.YtefclcihphpejaaDoor.ev.evx
open Go.ChangeShapes Go.WideShapes Go.ChangeAt Go.RowKit

mutual
theorem bulk_le {H : Type} : (d : DataW H) → DS.bulk d ≤ Rows.uptoBulk d
  | .lit (.string b) => by simp [DS.bulk, Rows.uptoBulk]
  | .lit (.bool _) => by simp [DS.bulk, Rows.uptoBulk]
  | .lit (.int _ _) => by simp [DS.bulk, Rows.uptoBulk]
  | .lit (.float _ _) => by simp [DS.bulk, Rows.uptoBulk]
  | .lit .nil => by simp [DS.bulk, Rows.uptoBulk]
  | .nil => by simp [DS.bulk, Rows.uptoBulk]
  | .ptr d => by simp [DS.bulk]
  | .slice elems spare => by have := bulks_le elems; simp only [DS.bulk, Rows.uptoBulk]; omega
  | .agg parts => by have := bulks_le parts; simp only [DS.bulk, Rows.uptoBulk]; omega
  | .iface _ d => by simp [DS.bulk]
  | .map _ => by simp [DS.bulk]
  | .held _ => by simp [DS.bulk]
theorem bulks_le {H : Type} : (l : List (DataW H)) → DS.bulk.bulkAll l ≤ Rows.uptoBulkAll l
  | [] => by simp [DS.bulk.bulkAll]
  | d :: r => by have h1 := bulk_le d; have h2 := bulks_le r; simp only [DS.bulk.bulkAll, Rows.uptoBulkAll]; omega
end
theorem own : ownKnob Tryd.prog.godebug = none := by kernel_rfl
theorem laid : laidOutB Tryd.prog = true := by kernel_rfl
theorem rec37 : Tryd.prog.readableRec 37 = true ∧ 37 < Tryd.prog.types.size := ⟨by kernel_rfl, of_decide_eq_true (by kernel_rfl)⟩
noncomputable def code : Code := (Tryd.f5.body).getD .skip
theorem body : Tryd.f5.body = some code := by kernel_rfl
theorem name : (Tryd.f5.name == "runtime.NumGoroutine") = false := by kernel_rfl
theorem sg : DS.lk 5 E.sigs = some sig5 := by kernel_rfl
theorem pm : DS.paramsOf E.tt Tryd.f5.params.toList = some sig5.params := by kernel_rfl
theorem rs : sig5.results = [.val .bool] := by kernel_rfl
theorem rt : Tryd.f5.resultTypes = #[4] := by kernel_rfl

set_option maxRecDepth 100000 in
theorem contract (H : Type) (enc : TypeId × Value → H) (W : World) (base : Nat) (args : Array Value) (ds gs : List (DataW H)) (before : List MemPlace)
    (hval : ∀ (j : Nat) t v, Tryd.f5.params[j]? = some t → args[j]? = some v → Value.okWide Tryd.prog W .any base t v)
    (hW : DataW.Whole enc Tryd.prog Tryd.f5.params.toList Rows.shipEventsSpec.vars false W args.toList ds gs before) (hsm : Rows.uptoSmall H (ds ++ gs) = true) (hs : W.ShapedOpen Tryd.prog) (hL : laidMetH Tryd.prog Rows.shipEventsUptoRow.laid W) :
    Calls Tryd.prog 5 args W fun e W' => ∃ v, e = .returned v ∧ Rows.shipEventsSpec.post enc Tryd.prog Tryd.f5 false true false false W args v W' := by
  have hshape : ∃ d0 d1, ds = [d0, d1] ∧ gs = [] := by
    obtain ⟨p, q, hA, hV, _⟩ := hW
    rw [Tryd.params5] at hA
    obtain ⟨v0, vs0, d0, ds0, p0, q0, _, rfl, _, _, r0⟩ := trodAll_cons hA
    obtain ⟨v1, vs1, d1, ds1, p1, q1, _, rfl, _, _, r1⟩ := trodAll_cons r0
    obtain ⟨_, rfl, _⟩ := trodAll_nil r1
    obtain ⟨rfl, _⟩ := trodVars_none hV
    exact ⟨d0, d1, rfl, rfl⟩
  obtain ⟨d0, d1, rfl, rfl⟩ := hshape
  refine DS.law_contract_at (env W) (DS.tt_ok tt_all).2.1 (DS.tt_ok tt_all).2.2 (sg := sig5) Tryd.func5 name body sg pm rs rt Tryd.underlying4 laid ?_ rfl hval hW rfl ?_
  · intro t ht
    rw [Tryd.params5] at ht
    have : t = 37 := by simpa using ht
    rcases this with rfl
    · exact rec37
  · intro xs hx hm
    have hsm2 : DS.dmass.dmAll xs ≤ 1048576 := Nat.le_trans hm (Nat.le_trans (bulks_le _) (by have := of_decide_eq_true hsm; simpa using this))
    obtain ⟨v0, vs0, x0, xs0, _, rfl, h0, s0⟩ := DS.args_cons hx
    obtain ⟨v1, vs1, x1, xs1, _, rfl, h1, s1⟩ := DS.args_cons s0
    obtain ⟨_, rfl⟩ := DS.args_nil s1
    obtain ⟨_, _, _, e0, _⟩ := DS.Rep.inv_slice h0
    rw [e0] at h0 hsm2 ⊢
    obtain ⟨_, _, _, e1, _⟩ := DS.Rep.inv_slice h1
    rw [e1] at h1 hsm2 ⊢
    exact DS.RUN_run (lawR h0 h1 hsm2)

noncomputable def laidWorld (os : Os) : World :=
  { World.holding Tryd.prog os ⟨#[], #[], []⟩ with heap := ((((((World.holding Tryd.prog os ⟨#[], #[], []⟩).heap.modify 6 fun | .cells _ t frozen => .cells (DS.flatV Rows.laid_math_bits_deBruijn32tab).toArray t frozen | o => o).modify 7 fun | .cells _ t frozen => .cells (DS.flatV Rows.laid_math_bits_deBruijn64tab).toArray t frozen | o => o).modify 1 fun | .cells _ t frozen => .cells (DS.flatV Rows.laid_internal_strconv_uint64pow10).toArray t frozen | o => o).modify 5 fun | .cells _ t frozen => .cells (DS.flatV Rows.laid_unicode_utf8_acceptRanges).toArray t frozen | o => o).modify 4 fun | .cells _ t frozen => .cells (DS.flatV Rows.laid_unicode_utf8_first).toArray t frozen | o => o) }
theorem laid_met (os : Os) : laidMet Tryd.prog Rows.shipEventsUptoRow.laid ((laidWorld os).forCall (fun _ _ => 0) ⟨#[], #[.slice none 0 0, .slice none 0 0], []⟩).memory :=
  laidMet_of_run' 8 (by kernel_rfl) (by kernel_rfl)
theorem reads (os : Os) {H : Type} (enc : TypeId × Value → H) : ∃ places, DataW.whole enc Tryd.prog ((laidWorld os).forCall (fun _ _ => 0) ⟨#[], #[.slice none 0 0, .slice none 0 0], []⟩).memory Tryd.f5.params.toList Rows.shipEventsSpec.vars false (#[.slice none 0 0, .slice none 0 0] : Array Value).toList 8 = some ([.nil, .nil], [], places) :=
  ⟨[], by kernel_rfl⟩

set_option maxRecDepth 100000 in
theorem lifted (os : Os) (started : os.Started) (H : Type) (enc : TypeId × Value → H) (F : Stop.Interp) :
    ReturnsInHanded {} Tryd.checked os 5 .any ((Rows.OpenSpec.upto Rows.shipEventsSpec).preRow enc Tryd.prog Tryd.f5 Rows.shipEventsUptoRow.domain false Rows.shipEventsUptoRow.laid) (((Rows.OpenSpec.upto Rows.shipEventsSpec).at F).post enc Tryd.prog Tryd.f5 false true false false) := by
  obtain ⟨places, hx⟩ := reads os enc
  refine returnsInHanded_of_row (C := Tryd.checked) (s := Rows.OpenSpec.upto Rows.shipEventsSpec) own started (by kernel_rfl) Tryd.func5
    (witness_row_at (enc := enc) (C := Tryd.checked) false (laidWorld os) #[.slice none 0 0, .slice none 0 0] rfl (by kernel_rfl) (by kernel_rfl) (by kernel_rfl)
      (OpenSpec.preRow_of_cond 8 hx (by kernel_rfl) (fun k hk => by cases hk; kernel_rfl) (by kernel_rfl) (laid_met os))) ?_
  intro W base args ds gs before hval hW _ hc _ hL hs _
  exact contract H enc W base args ds gs before hval hW (hc _ rfl) hs hL

theorem proved : Rows.ShipEventsUptoSaid :=
  OpenClaim.holds_of_cond 5 Tryd.f5 rfl rfl rfl rfl rfl rfl rfl ⟨rfl, rfl, rfl, rfl, rfl⟩ rfl rfl rfl rfl rfl (by kernel_rfl) Tryd.func5 (by kernel_rfl)
    (of_decide_eq_true (by kernel_rfl)) (by unfold Func.isWrapper; first | (rw [if_pos (by decide +kernel)]; kernel_rfl) | (rw [if_neg (by decide +kernel)]; exact ⟨rfl, rfl⟩))
    (fun os started H enc _ F => by rw [OpenClaim.pre_eq_preRow]; exact lifted os started H enc F)
#print axioms proved
theorem plain (f : FuncId) (fn : Func) (hf : Tryd.pinned.checked.prog.funcNamed "masthead/mastlaw1.ShipEvents" = some f) (hfn : Tryd.pinned.checked.prog.funcs[f]? = some fn) :
    true = Tryd.pinned.checked.prog.looks [] ∧ ∀ (j : Nat) t, fn.params[j]? = some t → Tryd.pinned.checked.prog.wantsStandIn t = false := by
  obtain rfl : f = 5 := Option.some.inj ((show Tryd.prog.funcNamed "masthead/mastlaw1.ShipEvents" = some 5 by kernel_rfl).symm.trans hf) |>.symm
  obtain rfl : fn = Tryd.f5 := (Option.some.inj (Tryd.func5.symm.trans hfn)).symm
  refine ⟨by kernel_rfl, fun j t ht => ?_⟩
  rw [Tryd.params5] at ht
  have : t = 37 := by simpa using Array.mem_of_getElem? ht
  rcases this with rfl
  · exact (show Tryd.prog.wantsStandIn 37 = false by kernel_rfl)
theorem card : Rows.ShipEventsUptoCardSaid :=
  Claim7.holds_tied_plain_at .later [] _ _ _ _ proved (fun _ h => by cases h) (by kernel_rfl) (fun _ h => by cases h) shipEventsUpto_row_tie rfl ⟨rfl, rfl⟩ (by kernel_rfl) rfl plain (by kernel_rfl)
#print axioms card
end Go.Proofs.YtefclcihphpejaaDoor.ev.evx
