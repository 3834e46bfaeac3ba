/- A part of the proof. -/
import Derived.Test.YtbinmfenhbpdnaaF7
import Derived.Test.YtbinmfenhbpdnaaChecked
import Derived.Test.YtbinmfenhbpdnaaRows
import Derived.WalkKit
import Derived.ProofKit
import Derived.Test.YtbinmfenhbpdnaaDxLnS
set_option linter.unusedVariables false
set_option linter.unusedSimpArgs false
namespace Go.Proofs.Ytbinmfenhbpdnaa.tj
open Go.Proofs.Ytbinmfenhbpdnaa.DS

def tt : TT := [(3, ⟨.int .i64, [.int .i64], [], 8⟩),
  (4, ⟨.bool, [.bool], [], 1⟩),
  (5, ⟨.int .u8, [.int .u8], [], 1⟩),
  (9, ⟨.str, [.str], [], 16⟩),
  (23, ⟨.slice 9, [.slice 9], [], 24⟩),
  (27, ⟨.slice 49, [.slice 49], [], 24⟩),
  (44, ⟨.ptr, [.ptr], [], 8⟩),
  (45, ⟨.slice 5, [.slice 5], [], 24⟩),
  (47, ⟨.agg 47, [.ptr, .slice 5], [(0, 44), (1, 45)], 32⟩),
  (49, ⟨.agg 49, [.int .i64, .str], [(0, 3), (1, 9)], 24⟩)]
/-- masthead/mastlaw1.TmplJoins -/
def sig4 : Sig := ⟨[.val (.slice 49)], [.val (.bool)], false⟩
def ann4 : List (Nat × Norm) := [(1, { frz := [0] })]
/-- masthead/tmpl.String -/
def sig12 : Sig := ⟨[.val (.slice 49)], [.val (.str)], false⟩
def ann12 : List (Nat × Norm) := [(3, { keep := some [(3, .asis), (6, .dat 49), (7, .asis), (8, .asis)], rows := [(3, 1, 5)] })]
/-- masthead/mastref1.Joined -/
def sig13 : Sig := ⟨[.val (.slice 49)], [.val (.str)], false⟩
def ann13 : List (Nat × Norm) := [(3, { keep := some [(3, .own 9), (6, .dat 49), (7, .asis), (8, .asis)] }), (7, { frz := [3] })]
/-- masthead/tmpl.Skeleton -/
def sig14 : Sig := ⟨[.val (.slice 49)], [.val (.str)], false⟩
def ann14 : List (Nat × Norm) := [(3, { keep := some [(3, .asis), (6, .dat 49), (7, .asis), (8, .asis)], rows := [(3, 1, 5)] })]
/-- masthead/mastref1.SkeletonOf -/
def sig15 : Sig := ⟨[.val (.slice 49)], [.val (.str)], false⟩
def ann15 : List (Nat × Norm) := [(3, { keep := some [(3, .own 9), (6, .dat 49), (7, .asis), (8, .asis)] }), (16, { frz := [3] })]
/-- (*strings.Builder).WriteString -/
def sig28 : Sig := ⟨[.box 47 [.self, .row 5], .val (.str)], [.val (.int .i64), .any], false⟩
def ann28 : List (Nat × Norm) := []
/-- (*strings.Builder).WriteByte -/
def sig31 : Sig := ⟨[.box 47 [.self, .row 5], .val (.int .u8)], [.any], false⟩
def ann31 : List (Nat × Norm) := []
def sig29 : Sig := ⟨[.box 47 [.self, .row 5]], [.val .str], true⟩
def sig50 : Sig := ⟨[.box 47 [.self, .row 5]], [], false⟩
def sig30 : Sig := ⟨[.val (.slice 9), .val .str], [.val .str], false⟩
noncomputable def E : Env := { tt := tt, fns := [(4, Try.f4), (12, Try.f12), (13, Try.f13), (14, Try.f14), (15, Try.f15), (28, Try.f28), (31, Try.f31)], sigs := [(4, sig4), (12, sig12), (13, sig13), (14, sig14), (15, sig15), (28, sig28), (31, sig31), (29, sig29), (50, sig50), (30, sig30)], ext := [(29, xString), (50, xCheck), (30, xJoin)], ann := [(4, ann4), (12, ann12), (13, ann13), (14, ann14), (15, ann15), (28, ann28), (31, ann31)] }
theorem tt_all : ttB Try.prog tt tt = true := by kernel_rfl
theorem fns_ok : FnsOK Try.prog E E.fns := ⟨⟨Try.func4, by kernel_rfl⟩, ⟨Try.func12, by kernel_rfl⟩, ⟨Try.func13, by kernel_rfl⟩, ⟨Try.func14, by kernel_rfl⟩, ⟨Try.func15, by kernel_rfl⟩, ⟨Try.func28, by kernel_rfl⟩, ⟨Try.func31, by kernel_rfl⟩, trivial⟩
theorem mixed : Try.prog.follows .mixedOrders = true := by kernel_rfl
theorem exts_ok (W0 : World) : ExtsOK Try.prog E W0 E.ext := ⟨
  extString (f := 29) (t := 47) (e := 5) (ti := ⟨.agg 47, [.ptr, .slice 5], [(0, 44), (1, 45)], 32⟩) (ei := ⟨.int .u8, [.int .u8], [], 1⟩) (c := (Try.f29.body).getD .skip) Try.lays169 Try.Builder_Extra_169 rfl rfl rfl Try.func29 (by kernel_rfl) (by kernel_rfl) (by kernel_rfl) (by kernel_rfl) (by kernel_rfl) (by kernel_rfl) (by kernel_rfl) (by kernel_rfl),
  extCheck (f := 50) (t := 47) (e := 5) (ti := ⟨.agg 47, [.ptr, .slice 5], [(0, 44), (1, 45)], 32⟩) (ei := ⟨.int .u8, [.int .u8], [], 1⟩) (c := (Try.f50.body).getD .skip) Try.func50 (by kernel_rfl) (by kernel_rfl) (by kernel_rfl) (by kernel_rfl) (by kernel_rfl) (by decide) (by kernel_rfl)
    (fun b w h => Any.Builder_copyCheck_used { Try.lays156 with } Try.Builder_Extra_156.toX72 b w h) (fun b w h1 h2 h3 => Any.Builder_copyCheck_fresh { Try.lays156 with } Try.Builder_Extra_156.toX72 b w h1 h2 h3),
  extJoin (c := (Try.f30.body).getD .skip) (e := 9) (ti := ⟨.str, [.str], [], 16⟩) Try.func30 (by kernel_rfl) (by kernel_rfl) (by kernel_rfl) (by kernel_rfl) rfl rfl Try.strings_Join_none Try.strings_Join, trivial⟩
theorem env (W0 : World) : EnvOK Try.prog E W0 := ⟨mixed, (tt_ok tt_all).1, fun f fn h => fns_of fns_ok f fn h, fun f g h => exts_of (exts_ok W0) f g h⟩
end Go.Proofs.Ytbinmfenhbpdnaa.tj
