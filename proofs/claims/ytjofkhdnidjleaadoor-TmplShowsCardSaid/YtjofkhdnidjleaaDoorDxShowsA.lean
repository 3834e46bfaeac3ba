import Derived.Test.YtjofkhdnidjleaaDoorDtM
import Derived.Test.YtjofkhdnidjleaaDoorChecked
import Derived.Test.YtjofkhdnidjleaaDoorRows
import Derived.WalkKit
import Derived.ProofKit
import Derived.Test.YtjofkhdnidjleaaDoorDxSaS
set_option linter.unusedVariables false
set_option linter.unusedSimpArgs false
namespace Go.Proofs.YtjofkhdnidjleaaDoor.sh
open Go.Proofs.YtjofkhdnidjleaaDoor.DS

def tt : TT := [(3, ⟨.int .i64, [.int .i64], [], 8⟩),
  (4, ⟨.bool, [.bool], [], 1⟩),
  (9, ⟨.str, [.str], [], 16⟩),
  (22, ⟨.slice 25, [.slice 25], [], 24⟩),
  (23, ⟨.slice 9, [.slice 9], [], 24⟩),
  (25, ⟨.agg 25, [.int .i64, .bool, .int .i64, .str, .slice 25, .slice 9], [(0, 3), (1, 4), (2, 3), (3, 9), (4, 22), (5, 23)], 88⟩),
  (26, ⟨.int .i64, [.int .i64], [], 8⟩)]
/-- masthead/mastlaw1.TmplShows -/
def sig3 : Sig := ⟨[.val (.agg 25)], [.val (.bool)], false⟩
def ann3 : List (Nat × Norm) := []
/-- masthead/tmpl.Show -/
def sig7 : Sig := ⟨[.val (.agg 25)], [.val (.str), .val (.int .i64)], false⟩
def ann7 : List (Nat × Norm) := []
/-- masthead/mastref1.Shown -/
def sig8 : Sig := ⟨[.val (.agg 25)], [.val (.str), .val (.int .i64)], false⟩
def ann8 : List (Nat × Norm) := []
/-- masthead/tmpl.Truth -/
def sig9 : Sig := ⟨[.val (.agg 25)], [.val (.bool)], false⟩
def ann9 : List (Nat × Norm) := []
/-- masthead/mastref1.IsTrue -/
def sig10 : Sig := ⟨[.val (.agg 25)], [.val (.bool)], false⟩
def ann10 : List (Nat × Norm) := []
/-- masthead/tmpl.truth -/
def sig20 : Sig := ⟨[.val (.bool)], [.val (.str)], false⟩
def ann20 : List (Nat × Norm) := []
/-- masthead/tmpl.date -/
def sig22 : Sig := ⟨[.val (.int .i64)], [.val (.int .i64), .val (.int .i64), .val (.int .i64)], false⟩
def ann22 : List (Nat × Norm) := []
/-- masthead/tmpl.padded -/
def sig23 : Sig := ⟨[.val (.int .i64), .val (.int .i64)], [.val (.str)], false⟩
def ann23 : List (Nat × Norm) := [(2, { keep := some [(1, .asis), (5, .asis)] })]
/-- strconv.FormatBool -/
def sig24 : Sig := ⟨[.val (.bool)], [.val (.str)], false⟩
def ann24 : List (Nat × Norm) := []
/-- masthead/mastref1.inRange -/
def sig25 : Sig := ⟨[.val (.int .i64), .val (.int .i64)], [.val (.bool)], false⟩
def ann25 : List (Nat × Norm) := []
/-- masthead/mastref1.DateOf -/
def sig26 : Sig := ⟨[.val (.int .i64)], [.val (.str), .val (.int .i64), .val (.int .i64), .val (.int .i64)], false⟩
def ann26 : List (Nat × Norm) := [(2, { keep := some [(0, .asis), (6, .asis)] }), (6, { keep := some [(0, .asis), (6, .asis), (7, .asis)] })]
/-- internal/strconv.FormatBool -/
def sig35 : Sig := ⟨[.val (.bool)], [.val (.str)], false⟩
def ann35 : List (Nat × Norm) := []
/-- masthead/mastref1.yearDays -/
def sig36 : Sig := ⟨[.val (.int .i64)], [.val (.int .i64)], false⟩
def ann36 : List (Nat × Norm) := []
/-- masthead/mastref1.monthDays -/
def sig37 : Sig := ⟨[.val (.int .i64), .val (.int .i64)], [.val (.int .i64)], false⟩
def ann37 : List (Nat × Norm) := []
/-- masthead/mastref1.two -/
def sig38 : Sig := ⟨[.val (.int .i64)], [.val (.str)], false⟩
def ann38 : List (Nat × Norm) := []
def sig21 : Sig := ⟨[.val (.int .i64)], [.val .str], false⟩
noncomputable def E : Env := { tt := tt, fns := [(3, Tryd.f3), (7, Tryd.f7), (8, Tryd.f8), (9, Tryd.f9), (10, Tryd.f10), (20, Tryd.f20), (22, Tryd.f22), (23, Tryd.f23), (24, Tryd.f24), (25, Tryd.f25), (26, Tryd.f26), (35, Tryd.f35), (36, Tryd.f36), (37, Tryd.f37), (38, Tryd.f38)], sigs := [(3, sig3), (7, sig7), (8, sig8), (9, sig9), (10, sig10), (20, sig20), (22, sig22), (23, sig23), (24, sig24), (25, sig25), (26, sig26), (35, sig35), (36, sig36), (37, sig37), (38, sig38), (21, sig21)], ext := [(21, xItoa)], ann := [(3, ann3), (7, ann7), (8, ann8), (9, ann9), (10, ann10), (20, ann20), (22, ann22), (23, ann23), (24, ann24), (25, ann25), (26, ann26), (35, ann35), (36, ann36), (37, ann37), (38, ann38)] }
theorem tt_all : ttB Tryd.prog tt tt = true := by kernel_rfl
theorem fns_ok : FnsOK Tryd.prog E E.fns := ⟨⟨Tryd.func3, by kernel_rfl⟩, ⟨Tryd.func7, by kernel_rfl⟩, ⟨Tryd.func8, by kernel_rfl⟩, ⟨Tryd.func9, by kernel_rfl⟩, ⟨Tryd.func10, by kernel_rfl⟩, ⟨Tryd.func20, by kernel_rfl⟩, ⟨Tryd.func22, by kernel_rfl⟩, ⟨Tryd.func23, by kernel_rfl⟩, ⟨Tryd.func24, by kernel_rfl⟩, ⟨Tryd.func25, by kernel_rfl⟩, ⟨Tryd.func26, by kernel_rfl⟩, ⟨Tryd.func35, by kernel_rfl⟩, ⟨Tryd.func36, by kernel_rfl⟩, ⟨Tryd.func37, by kernel_rfl⟩, ⟨Tryd.func38, by kernel_rfl⟩, trivial⟩
theorem mixed : Tryd.prog.follows .mixedOrders = true := by kernel_rfl
theorem exts_ok (W0 : World) (ht : Lib.TabIs Tryd.prog W0 "internal/strconv.uint64pow10" .u64 Lib.pow10Tab) : ExtsOK Tryd.prog E W0 E.ext := ⟨extItoa (c := (Tryd.f21.body).getD .skip) Tryd.func21 (by kernel_rfl) (by kernel_rfl) (by kernel_rfl) Tryd.strconv_Itoa ht, trivial⟩
theorem env (W0 : World) (ht : Lib.TabIs Tryd.prog W0 "internal/strconv.uint64pow10" .u64 Lib.pow10Tab) : EnvOK Tryd.prog E W0 := ⟨mixed, (tt_ok tt_all).1, fun f fn h => fns_of fns_ok f fn h, fun f g h => exts_of (exts_ok W0 ht) f g h⟩
end Go.Proofs.YtjofkhdnidjleaaDoor.sh
