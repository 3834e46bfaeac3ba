import Derived.Test.YtmlacnnlfdegmaaDtG
import Derived.Test.YtmlacnnlfdegmaaChecked
import Derived.Test.YtmlacnnlfdegmaaRows
import Derived.WalkKit
import Derived.ProofKit
set_option linter.unusedVariables false
set_option linter.unusedSimpArgs false
namespace Go.Proofs.Ytmlacnnlfdegmaa.markSames
open Go.Proofs.Ytmlacnnlfdegmaa.DS

def tt : TT := [(3, ⟨.int .i64, [.int .i64], [], 8⟩), (4, ⟨.bool, [.bool], [], 1⟩), (9, ⟨.str, [.str], [], 16⟩), (22, ⟨.slice 60, [.slice 60], [], 24⟩),
  (60, ⟨.agg 60, [.int .i64, .int .i64, .str, .str, .str, .slice 60], [(0, 3), (1, 3), (2, 9), (3, 9), (4, 9), (5, 22)], 88⟩)]
def sig2 : Sig := ⟨[.val (.slice 60), .val (.slice 60)], [.val .bool]⟩
def loopN : Norm := ⟨[], some [(0, .asis), (1, .asis), (14, .asis), (15, .asis)], []⟩
noncomputable def E : Env := { tt := tt, fns := [(3, Try.f3), (11, Try.f11), (12, Try.f12)], sigs := [(3, sig2), (11, sig2), (12, sig2)], ext := [], ann := [(11, [(4, loopN)]), (12, [(4, loopN)])] }

theorem tt_all : ttB Try.prog tt tt = true := by kernel_rfl
theorem fn3 : fnB E 3 Try.f3 = true := by kernel_rfl
theorem fn11 : fnB E 11 Try.f11 = true := by kernel_rfl
theorem fn12 : fnB E 12 Try.f12 = true := by kernel_rfl
def nd (k : Int) (kids : List D) : D := .agg [.int k, .int 0, .str [], .str [], .str [], .list kids]
example : run E 10 3 [.list [], .list []] = some [.bool true] := by kernel_rfl
example : run E 10 3 [.list [nd 1 []], .list []] = some [.bool true] := by kernel_rfl
example : run E 10 3 [.list [nd 1 [nd 3 []], nd 4 []], .list [nd 1 [nd 2 []], nd 4 []]] = some [.bool true] := by kernel_rfl
theorem mixed : Try.prog.follows .mixedOrders = true := by kernel_rfl
theorem env : EnvOK Try.prog E := by
  refine ⟨mixed, (tt_ok tt_all).1, ?_, fun f g h => by cases h⟩
  intro f fn h
  have h' : lk f [(3, Try.f3), (11, Try.f11), (12, Try.f12)] = some fn := h
  simp only [lk] at h'
  cases h1 : Nat.beq f 3 with
  | true => rw [h1] at h'; injection h' with h'; subst h'; have := beq_iff.1 h1; subst this; exact fnB_spec Try.func3 fn3
  | false =>
    rw [h1] at h'
    cases h2 : Nat.beq f 11 with
    | true => rw [h2] at h'; injection h' with h'; subst h'; have := beq_iff.1 h2; subst this; exact fnB_spec Try.func11 fn11
    | false =>
      rw [h2] at h'
      cases h3 : Nat.beq f 12 with
      | true => rw [h3] at h'; injection h' with h'; subst h'; have := beq_iff.1 h3; subst this; exact fnB_spec Try.func12 fn12
      | false => rw [h3] at h'; cases h'
end Go.Proofs.Ytmlacnnlfdegmaa.markSames
