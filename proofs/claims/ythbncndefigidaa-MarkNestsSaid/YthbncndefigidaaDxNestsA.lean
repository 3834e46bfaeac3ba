import Derived.Test.YthbncndefigidaaDtK
import Derived.Test.YthbncndefigidaaChecked
import Derived.Test.YthbncndefigidaaRows
import Derived.WalkKit
import Derived.ProofKit
set_option linter.unusedVariables false
set_option linter.unusedSimpArgs false
namespace Go.Proofs.Ythbncndefigidaa.mk
open Go.Proofs.Ythbncndefigidaa.DS

def tt : TT := [(3, ⟨.int .i64, [.int .i64], [], 8⟩),
  (4, ⟨.bool, [.bool], [], 1⟩),
  (9, ⟨.str, [.str], [], 16⟩),
  (24, ⟨.slice 30, [.slice 30], [], 24⟩),
  (25, ⟨.slice 3, [.slice 3], [], 24⟩),
  (26, ⟨.int .i64, [.int .i64], [], 8⟩),
  (30, ⟨.agg 30, [.int .i64, .str, .str], [(0, 3), (1, 9), (2, 9)], 40⟩)]
/-- masthead/mastlaw1.MarkNests -/
def sig4 : Sig := ⟨[.val (.slice 30)], [.val (.bool)]⟩
def ann4 : List (Nat × Norm) := [(6, { keep := some [(0, .dat 30), (3, .dat 3), (4, .asis), (5, .own 3), (17, .dat 30), (18, .asis), (19, .asis)] }), (11, { keep := some [(0, .dat 30), (3, .dat 3), (4, .asis), (5, .own 3), (7, .asis), (8, .asis), (17, .dat 30), (18, .asis), (19, .asis)] }), (3, { frz := [0] }), (15, { frz := [5, 3] })]
/-- masthead/mark.Nested -/
def sig13 : Sig := ⟨[.val (.slice 30)], [.val (.slice 3), .val (.int .i64)]⟩
def ann13 : List (Nat × Norm) := [(2, { keep := some [(0, .dat 30), (10, .dat 30), (11, .asis), (12, .asis)] }), (9, { keep := some [(0, .dat 30), (6, .own 3), (7, .own 3), (25, .dat 30), (26, .asis), (27, .asis)] }), (11, { keep := some [(0, .dat 30), (6, .own 3), (7, .own 3), (8, .asis), (9, .asis), (25, .dat 30), (26, .asis), (27, .asis)] })]
/-- slices.Equal[[]int,int] -/
def sig14 : Sig := ⟨[.val (.slice 3), .val (.slice 3)], [.val (.bool)]⟩
def ann14 : List (Nat × Norm) := [(4, { keep := some [(0, .dat 3), (1, .dat 3), (12, .asis), (13, .asis)] })]
noncomputable def E : Env := { tt := tt, fns := [(4, Try.f4), (13, Try.f13), (14, Try.f14)], sigs := [(4, sig4), (13, sig13), (14, sig14)], ext := [], ann := [(4, ann4), (13, ann13), (14, ann14)] }
theorem tt_all : ttB Try.prog tt tt = true := by kernel_rfl
theorem fns_ok : FnsOK Try.prog E E.fns := ⟨⟨Try.func4, by kernel_rfl⟩, ⟨Try.func13, by kernel_rfl⟩, ⟨Try.func14, by kernel_rfl⟩, trivial⟩
theorem mixed : Try.prog.follows .mixedOrders = true := by kernel_rfl
theorem env : EnvOK Try.prog E := ⟨mixed, (tt_ok tt_all).1, fun f fn h => fns_of fns_ok f fn h, fun f g h => by cases h⟩
end Go.Proofs.Ythbncndefigidaa.mk
