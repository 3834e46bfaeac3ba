import Derived.Test.YthempoaickahcaaDtM
import Derived.Test.YthempoaickahcaaChecked
import Derived.Test.YthempoaickahcaaRows
import Derived.WalkKit
import Derived.ProofKit
import Derived.Test.YthempoaickahcaaDxTmS
set_option linter.unusedVariables false
set_option linter.unusedSimpArgs false
namespace Go.Proofs.Ythempoaickahcaa.tm
open Go.Proofs.Ythempoaickahcaa.DS

def tt : TT := [(3, ⟨.int .i64, [.int .i64], [], 8⟩),
  (4, ⟨.bool, [.bool], [], 1⟩),
  (9, ⟨.str, [.str], [], 16⟩),
  (22, ⟨.slice 25, [.slice 25], [], 24⟩),
  (23, ⟨.slice 9, [.slice 9], [], 24⟩),
  (25, ⟨.agg 25, [.int .i64, .bool, .int .i64, .str, .slice 25, .slice 9], [(0, 3), (1, 4), (2, 3), (3, 9), (4, 22), (5, 23)], 88⟩),
  (26, ⟨.int .i64, [.int .i64], [], 8⟩)]
/-- masthead/mastlaw1.TmplCompares -/
def sig3 : Sig := ⟨[.val (.agg 25), .val (.agg 25)], [.val (.bool)]⟩
def ann3 : List (Nat × Norm) := []
/-- masthead/tmpl.Compare -/
def sig6 : Sig := ⟨[.val (.agg 25), .val (.agg 25)], [.val (.int .i64), .val (.int .i64)]⟩
def ann6 : List (Nat × Norm) := []
/-- masthead/mastref1.Compared -/
def sig7 : Sig := ⟨[.val (.agg 25), .val (.agg 25)], [.val (.int .i64), .val (.int .i64)]⟩
def ann7 : List (Nat × Norm) := []
/-- masthead/tmpl.sign -/
def sig14 : Sig := ⟨[.val (.bool), .val (.bool)], [.val (.int .i64)]⟩
def ann14 : List (Nat × Norm) := []
/-- masthead/tmpl.isText -/
def sig15 : Sig := ⟨[.val (.agg 25)], [.val (.bool)]⟩
def ann15 : List (Nat × Norm) := []
/-- masthead/mastref1.isString -/
def sig17 : Sig := ⟨[.val (.agg 25)], [.val (.bool)]⟩
def ann17 : List (Nat × Norm) := []
/-- masthead/mastref1.order -/
def sig18 : Sig := ⟨[.val (.int .i64), .val (.int .i64)], [.val (.int .i64)]⟩
def ann18 : List (Nat × Norm) := []
def sig16 : Sig := ⟨[.val .str, .val .str], [.val (.int .i64)]⟩
noncomputable def E : Env := { tt := tt, fns := [(3, Try.f3), (6, Try.f6), (7, Try.f7), (14, Try.f14), (15, Try.f15), (17, Try.f17), (18, Try.f18)], sigs := [(3, sig3), (6, sig6), (7, sig7), (14, sig14), (15, sig15), (17, sig17), (18, sig18), (16, sig16)], ext := [(16, xCompare)], ann := [(3, ann3), (6, ann6), (7, ann7), (14, ann14), (15, ann15), (17, ann17), (18, ann18)] }
theorem tt_all : ttB Try.prog tt tt = true := by kernel_rfl
theorem fns_ok : FnsOK Try.prog E E.fns := ⟨⟨Try.func3, by kernel_rfl⟩, ⟨Try.func6, by kernel_rfl⟩, ⟨Try.func7, by kernel_rfl⟩, ⟨Try.func14, by kernel_rfl⟩, ⟨Try.func15, by kernel_rfl⟩, ⟨Try.func17, by kernel_rfl⟩, ⟨Try.func18, by kernel_rfl⟩, trivial⟩
theorem mixed : Try.prog.follows .mixedOrders = true := by kernel_rfl
theorem exts_ok : ExtsOK Try.prog E E.ext := ⟨ext_ss (c := (Try.f16.body).getD .skip) Try.func16 (by kernel_rfl) (by kernel_rfl) (by kernel_rfl) (F := fun x y => .int .i64 (Lib.compareBytes x y)) (G := fun x y => .int (Lib.compareBytes x y))
  (fun x y r h => by injection h with h; exact h.symm) (fun M x y => .int _ _ (compare_wf x y)) Try.strings_Compare, trivial⟩
theorem env : EnvOK Try.prog E := ⟨mixed, (tt_ok tt_all).1, fun f fn h => fns_of fns_ok f fn h, fun f g h => exts_of exts_ok f g h⟩
end Go.Proofs.Ythempoaickahcaa.tm
