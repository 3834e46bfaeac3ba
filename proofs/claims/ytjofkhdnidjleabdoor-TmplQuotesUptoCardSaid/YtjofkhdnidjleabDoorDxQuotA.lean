import Derived.Test.YtjofkhdnidjleabDoorDtM
import Derived.Test.YtjofkhdnidjleabDoorChecked
import Derived.Test.YtjofkhdnidjleabDoorRows
import Derived.WalkKit
import Derived.ProofKit
import Derived.Test.YtjofkhdnidjleabDoorDxSqS
set_option linter.unusedVariables false
set_option linter.unusedSimpArgs false
namespace Go.Proofs.YtjofkhdnidjleabDoor.qt
open Go.Proofs.YtjofkhdnidjleabDoor.DS

def tt : TT := [(3, ⟨.int .i64, [.int .i64], [], 8⟩),
  (4, ⟨.bool, [.bool], [], 1⟩),
  (5, ⟨.int .u8, [.int .u8], [], 1⟩),
  (9, ⟨.str, [.str], [], 16⟩),
  (24, ⟨.slice 9, [.slice 9], [], 24⟩),
  (27, ⟨.slice 29, [.slice 29], [], 24⟩),
  (29, ⟨.agg 29, [.int .i64, .bool, .int .i64, .str, .slice 29, .slice 9], [(0, 3), (1, 4), (2, 3), (3, 9), (4, 27), (5, 24)], 88⟩),
  (37, ⟨.int .i64, [.int .i64], [], 8⟩),
  (63, ⟨.slice 5, [.slice 5], [], 24⟩)]
/-- masthead/mastlaw1.TmplQuotes -/
def sig5 : Sig := ⟨[.val (.agg 29)], [.val (.bool)], false⟩
def ann5 : List (Nat × Norm) := []
/-- masthead/tmpl.Quote -/
def sig14 : Sig := ⟨[.val (.agg 29)], [.val (.str), .val (.int .i64)], false⟩
def ann14 : List (Nat × Norm) := []
/-- masthead/mastref1.Quoted -/
def sig15 : Sig := ⟨[.val (.agg 29), .val (.int .i64)], [.val (.str), .val (.int .i64)], false⟩
def ann15 : List (Nat × Norm) := [(17, { keep := some [(1, .asis), (2, .asis)], cut := true }), (21, { keep := some [(1, .asis), (2, .asis), (8, .own 9), (45, .dat 29), (46, .asis), (47, .asis)] }), (34, { frz := [8] }), (35, { frz := [8] })]
/-- masthead/tmpl.quoted -/
def sig35 : Sig := ⟨[.own 5, .val (.agg 29), .val (.int .i64)], [.own 5, .val (.int .i64)], false⟩
def ann35 : List (Nat × Norm) := [(16, { keep := some [(0, .own 5), (2, .asis), (4, .asis)], cut := true }), (21, { keep := some [(0, .own 5), (2, .asis), (4, .asis), (12, .asis)], cut := true }), (23, { keep := some [(0, .own 5), (2, .asis), (4, .asis), (12, .asis), (63, .dat 29), (64, .asis), (65, .asis)] }), (27, { keep := some [(0, .own 5), (2, .asis), (4, .asis), (12, .asis), (13, .asis), (14, .asis), (63, .dat 29), (64, .asis), (65, .asis)], cut := true }), (32, { keep := some [(0, .own 5), (2, .asis), (4, .asis), (12, .asis), (14, .asis), (63, .dat 29), (64, .asis), (65, .asis)], cut := true })]
/-- masthead/mastref1.Shown -/
def sig36 : Sig := ⟨[.val (.agg 29)], [.val (.str), .val (.int .i64)], false⟩
def ann36 : List (Nat × Norm) := []
/-- masthead/mastref1.quoteString -/
def sig37 : Sig := ⟨[.val (.str)], [.val (.str)], false⟩
def ann37 : List (Nat × Norm) := [(3, { keep := some [(0, .asis), (3, .asis), (4, .asis)] })]
/-- masthead/tmpl.Show -/
def sig52 : Sig := ⟨[.val (.agg 29)], [.val (.str), .val (.int .i64)], false⟩
def ann52 : List (Nat × Norm) := []
/-- masthead/tmpl.quoteText -/
def sig53 : Sig := ⟨[.own 5, .val (.str)], [.own 5], false⟩
def ann53 : List (Nat × Norm) := [(3, { keep := some [(0, .own 5), (1, .asis), (5, .asis)] })]
/-- strconv.FormatBool -/
def sig54 : Sig := ⟨[.val (.bool)], [.val (.str)], false⟩
def ann54 : List (Nat × Norm) := []
/-- masthead/mastref1.inRange -/
def sig56 : Sig := ⟨[.val (.int .i64), .val (.int .i64)], [.val (.bool)], false⟩
def ann56 : List (Nat × Norm) := []
/-- masthead/mastref1.DateOf -/
def sig57 : Sig := ⟨[.val (.int .i64)], [.val (.str), .val (.int .i64), .val (.int .i64), .val (.int .i64)], false⟩
def ann57 : List (Nat × Norm) := [(2, { keep := some [(0, .asis), (6, .asis)] }), (6, { keep := some [(0, .asis), (6, .asis), (7, .asis)] })]
/-- masthead/tmpl.truth -/
def sig69 : Sig := ⟨[.val (.bool)], [.val (.str)], false⟩
def ann69 : List (Nat × Norm) := []
/-- masthead/tmpl.date -/
def sig70 : Sig := ⟨[.val (.int .i64)], [.val (.int .i64), .val (.int .i64), .val (.int .i64)], false⟩
def ann70 : List (Nat × Norm) := []
/-- masthead/tmpl.padded -/
def sig71 : Sig := ⟨[.val (.int .i64), .val (.int .i64)], [.val (.str)], false⟩
def ann71 : List (Nat × Norm) := [(2, { keep := some [(1, .asis), (5, .asis)] })]
/-- masthead/tmpl.numbered -/
def sig72 : Sig := ⟨[.val (.int .u8)], [.val (.bool)], false⟩
def ann72 : List (Nat × Norm) := []
/-- internal/strconv.FormatBool -/
def sig73 : Sig := ⟨[.val (.bool)], [.val (.str)], false⟩
def ann73 : List (Nat × Norm) := []
/-- masthead/mastref1.yearDays -/
def sig75 : Sig := ⟨[.val (.int .i64)], [.val (.int .i64)], false⟩
def ann75 : List (Nat × Norm) := []
/-- masthead/mastref1.monthDays -/
def sig76 : Sig := ⟨[.val (.int .i64), .val (.int .i64)], [.val (.int .i64)], false⟩
def ann76 : List (Nat × Norm) := []
/-- masthead/mastref1.two -/
def sig77 : Sig := ⟨[.val (.int .i64)], [.val (.str)], false⟩
def ann77 : List (Nat × Norm) := []
def sig55 : Sig := ⟨[.val (.int .i64)], [.val .str], false⟩
def sig38 : Sig := ⟨[.val (.slice 9), .val .str], [.val .str], false⟩
def sig39 : Sig := ⟨[.val .str, .val (.int .u8)], [.val (.int .i64)], false⟩
noncomputable def E : Env := { tt := tt, fns := [(5, Tryd.f5), (14, Tryd.f14), (15, Tryd.f15), (35, Tryd.f35), (36, Tryd.f36), (37, Tryd.f37), (52, Tryd.f52), (53, Tryd.f53), (54, Tryd.f54), (56, Tryd.f56), (57, Tryd.f57), (69, Tryd.f69), (70, Tryd.f70), (71, Tryd.f71), (72, Tryd.f72), (73, Tryd.f73), (75, Tryd.f75), (76, Tryd.f76), (77, Tryd.f77)], sigs := [(5, sig5), (14, sig14), (15, sig15), (35, sig35), (36, sig36), (37, sig37), (52, sig52), (53, sig53), (54, sig54), (56, sig56), (57, sig57), (69, sig69), (70, sig70), (71, sig71), (72, sig72), (73, sig73), (75, sig75), (76, sig76), (77, sig77), (55, sig55), (38, sig38), (39, sig39)], ext := [(55, xItoa), (38, xJoin), (39, xIndexByte)], ann := [(5, ann5), (14, ann14), (15, ann15), (35, ann35), (36, ann36), (37, ann37), (52, ann52), (53, ann53), (54, ann54), (56, ann56), (57, ann57), (69, ann69), (70, ann70), (71, ann71), (72, ann72), (73, ann73), (75, ann75), (76, ann76), (77, ann77)] }
theorem tt_all : ttB Tryd.prog tt tt = true := by kernel_rfl
theorem fns_ok : FnsOK Tryd.prog E E.fns := ⟨⟨Tryd.func5, by kernel_rfl⟩, ⟨Tryd.func14, by kernel_rfl⟩, ⟨Tryd.func15, by kernel_rfl⟩, ⟨Tryd.func35, by kernel_rfl⟩, ⟨Tryd.func36, by kernel_rfl⟩, ⟨Tryd.func37, by kernel_rfl⟩, ⟨Tryd.func52, by kernel_rfl⟩, ⟨Tryd.func53, by kernel_rfl⟩, ⟨Tryd.func54, by kernel_rfl⟩, ⟨Tryd.func56, by kernel_rfl⟩, ⟨Tryd.func57, by kernel_rfl⟩, ⟨Tryd.func69, by kernel_rfl⟩, ⟨Tryd.func70, by kernel_rfl⟩, ⟨Tryd.func71, by kernel_rfl⟩, ⟨Tryd.func72, by kernel_rfl⟩, ⟨Tryd.func73, by kernel_rfl⟩, ⟨Tryd.func75, by kernel_rfl⟩, ⟨Tryd.func76, by kernel_rfl⟩, ⟨Tryd.func77, by kernel_rfl⟩, trivial⟩
theorem mixed : Tryd.prog.follows .mixedOrders = true := by kernel_rfl
theorem exts_ok (W0 : World) (ht : Lib.TabIs Tryd.prog W0 "internal/strconv.uint64pow10" .u64 Lib.pow10Tab) : ExtsOK Tryd.prog E W0 E.ext := ⟨extItoa (c := (Tryd.f55.body).getD .skip) Tryd.func55 (by kernel_rfl) (by kernel_rfl) (by kernel_rfl) Tryd.strconv_Itoa ht,
  extJoin (c := (Tryd.f38.body).getD .skip) (e := 9) (ti := ⟨.str, [.str], [], 16⟩) Tryd.func38 (by kernel_rfl) (by kernel_rfl) (by kernel_rfl) (by kernel_rfl) rfl rfl Tryd.strings_Join_none Tryd.strings_Join,
  extIndexByte (c := (Tryd.f39.body).getD .skip) Tryd.func39 (by kernel_rfl) (by kernel_rfl) (by kernel_rfl) Tryd.strings_IndexByte, trivial⟩
theorem env (W0 : World) (ht : Lib.TabIs Tryd.prog W0 "internal/strconv.uint64pow10" .u64 Lib.pow10Tab) : EnvOK Tryd.prog E W0 := ⟨mixed, (tt_ok tt_all).1, fun f fn h => fns_of fns_ok f fn h, fun f g h => exts_of (exts_ok W0 ht) f g h⟩
end Go.Proofs.YtjofkhdnidjleabDoor.qt
