/- A part of the proof. -/
import Derived.Test.YtcmeincdmphaoaaGreatDoorF8
import Derived.Test.YtcmeincdmphaoaaGreatDoorChecked
import Derived.Test.YtcmeincdmphaoaaGreatDoorRows
import Derived.WalkKit
import Derived.ProofKit
import Derived.Test.YtcmeincdmphaoaaGreatDoorDxWwS
import Derived.Test.YtcmeincdmphaoaaGreatDoorF9
set_option linter.unusedVariables false
set_option linter.unusedSimpArgs false
namespace Go.Proofs.YtcmeincdmphaoaaGreatDoor.ww
open Go.Proofs.YtcmeincdmphaoaaGreatDoor.DS

def tt : TT := [(3, ⟨.int .i64, [.int .i64], [], 8⟩),
  (4, ⟨.bool, [.bool], [], 1⟩),
  (5, ⟨.int .u8, [.int .u8], [], 1⟩),
  (9, ⟨.str, [.str], [], 16⟩),
  (22, ⟨.slice 25, [.slice 25], [], 24⟩),
  (23, ⟨.slice 9, [.slice 9], [], 24⟩),
  (25, ⟨.agg 25, [.int .i64, .bool, .int .i64, .str, .slice 25, .slice 9], [(0, 3), (1, 4), (2, 3), (3, 9), (4, 22), (5, 23)], 88⟩),
  (26, ⟨.slice 28, [.slice 28], [], 24⟩),
  (28, ⟨.agg 28, [.int .i64, .str, .int .i64, .bool, .int .i64, .str, .slice 25, .slice 9, .slice 28], [(0, 3), (1, 9), (2, 25), (8, 26)], 136⟩),
  (29, ⟨.int .i64, [.int .i64], [], 8⟩),
  (61, ⟨.slice 5, [.slice 5], [], 24⟩),
  (80, ⟨.any, [.any], [], 8⟩),
  (82, ⟨.agg 82, [.int .i64, .str, .any], [(0, 3), (1, 9), (2, 80)], 32⟩),
  (83, ⟨.map, [.map], [(0, 9), (0, 82)], 8⟩)]
/-- masthead/mastlaw1.TmplWrites -/
def sig3 : Sig := ⟨[.val (.agg 28)], [.val (.bool)], false⟩
def ann3 : List (Nat × Norm) := []
/-- masthead/tmpl.PrintExpr -/
def sig5 : Sig := ⟨[.val (.agg 28)], [.val (.str), .val (.int .i64)], false⟩
def ann5 : List (Nat × Norm) := []
/-- masthead/mastref1.ExprError -/
def sig6 : Sig := ⟨[.val (.agg 28)], [.val (.int .i64)], false⟩
def ann6 : List (Nat × Norm) := []
/-- masthead/mastref1.ExprText -/
def sig7 : Sig := ⟨[.val (.agg 28)], [.val (.str)], false⟩
def ann7 : List (Nat × Norm) := [(24, { keep := some [(1, .asis), (3, .own 9), (79, .dat 28), (80, .asis), (81, .asis)] }), (28, { frz := [3] })]
/-- masthead/tmpl.exprsFault -/
def sig11 : Sig := ⟨[.val (.agg 28)], [.val (.int .i64)], false⟩
def ann11 : List (Nat × Norm) := [(5, { keep := some [(13, .dat 28), (14, .asis), (15, .asis)] })]
/-- masthead/tmpl.depth -/
def sig12 : Sig := ⟨[.val (.agg 28)], [.val (.int .i64)], false⟩
def ann12 : List (Nat × Norm) := [(3, { keep := some [(3, .asis), (7, .dat 28), (8, .asis), (9, .asis)] })]
/-- masthead/tmpl.printed -/
def sig13 : Sig := ⟨[.val (.agg 28), .val (.int .i64)], [.val (.str)], false⟩
def ann13 : List (Nat × Norm) := [(19, { keep := some [(5, .asis), (71, .dat 28), (72, .asis), (73, .asis)] })]
/-- masthead/mastref1.exprNodes -/
def sig14 : Sig := ⟨[.val (.agg 28)], [.val (.int .i64)], false⟩
def ann14 : List (Nat × Norm) := [(5, { keep := some [(13, .dat 28), (14, .asis), (15, .asis)] })]
/-- masthead/mastref1.Depth -/
def sig15 : Sig := ⟨[.val (.agg 28)], [.val (.int .i64)], false⟩
def ann15 : List (Nat × Norm) := [(3, { keep := some [(3, .asis), (7, .dat 28), (8, .asis), (9, .asis)] })]
/-- strconv.FormatBool -/
def sig16 : Sig := ⟨[.val (.bool)], [.val (.str)], false⟩
def ann16 : List (Nat × Norm) := []
/-- masthead/mastref1.escaped -/
def sig19 : Sig := ⟨[.val (.str), .val (.str)], [.val (.str)], false⟩
def ann19 : List (Nat × Norm) := [(3, { keep := some [(0, .asis), (1, .asis), (5, .asis), (6, .asis)] })]
/-- masthead/mastref1.bracketed -/
def sig20 : Sig := ⟨[.val (.agg 28), .val (.int .i64)], [.val (.str)], false⟩
def ann20 : List (Nat × Norm) := []
/-- masthead/tmpl.exprFault -/
def sig31 : Sig := ⟨[.val (.agg 28)], [.val (.int .i64)], false⟩
def ann31 : List (Nat × Norm) := []
/-- masthead/tmpl.level -/
def sig32 : Sig := ⟨[.val (.int .i64)], [.val (.int .i64)], false⟩
def ann32 : List (Nat × Norm) := []
/-- masthead/tmpl.printedConst -/
def sig33 : Sig := ⟨[.val (.agg 25)], [.val (.str)], false⟩
def ann33 : List (Nat × Norm) := [(12, { keep := some [(1, .asis), (3, .own 5), (4, .asis)] })]
/-- masthead/mastref1.exprNode -/
def sig34 : Sig := ⟨[.val (.agg 28)], [.val (.int .i64)], false⟩
def ann34 : List (Nat × Norm) := [(15, { keep := some [(1, .asis)], cut := true })]
/-- internal/strconv.FormatBool -/
def sig35 : Sig := ⟨[.val (.bool)], [.val (.str)], false⟩
def ann35 : List (Nat × Norm) := []
/-- masthead/mastref1.tight -/
def sig39 : Sig := ⟨[.val (.int .i64)], [.val (.int .i64)], false⟩
def ann39 : List (Nat × Norm) := []
/-- masthead/tmpl.operands -/
def sig51 : Sig := ⟨[.val (.int .i64)], [.val (.int .i64)], false⟩
def ann51 : List (Nat × Norm) := []
/-- masthead/tmpl.nameFault -/
def sig52 : Sig := ⟨[.val (.agg 28)], [.val (.bool)], false⟩
def ann52 : List (Nat × Norm) := []
/-- masthead/tmpl.constFault -/
def sig53 : Sig := ⟨[.val (.agg 25)], [.val (.bool)], false⟩
def ann53 : List (Nat × Norm) := []
/-- masthead/tmpl.zeroValue -/
def sig54 : Sig := ⟨[.val (.agg 25)], [.val (.bool)], false⟩
def ann54 : List (Nat × Norm) := []
/-- masthead/tmpl.badByte -/
def sig22 : Sig := ⟨[.val (.str)], [.val (.bool)], false⟩
def ann22 : List (Nat × Norm) := [(2, { keep := some [(0, .asis), (3, .asis)] })]
/-- masthead/tmpl.arity -/
def sig46 : Sig := ⟨[.val (.str)], [.val (.int .i64)], false⟩
def ann46 : List (Nat × Norm) := []
/-- masthead/mastref1.argsOf -/
def sig55 : Sig := ⟨[.val (.int .i64)], [.val (.int .i64)], false⟩
def ann55 : List (Nat × Norm) := []
/-- masthead/mastref1.zero -/
def sig56 : Sig := ⟨[.val (.agg 25)], [.val (.bool)], false⟩
def ann56 : List (Nat × Norm) := []
/-- masthead/mastref1.goodConst -/
def sig57 : Sig := ⟨[.val (.agg 25)], [.val (.bool)], false⟩
def ann57 : List (Nat × Norm) := []
/-- masthead/mastref1.IsName -/
def sig58 : Sig := ⟨[.val (.str)], [.val (.bool)], false⟩
def ann58 : List (Nat × Norm) := [(4, { keep := some [(0, .asis), (3, .asis)] }), (9, { keep := some [(0, .asis), (35, .dat 9), (36, .asis), (37, .asis)] })]
/-- masthead/mastref1.isOp -/
def sig59 : Sig := ⟨[.val (.str)], [.val (.bool)], false⟩
def ann59 : List (Nat × Norm) := []
/-- masthead/mastref1.badBytes -/
def sig60 : Sig := ⟨[.val (.str), .val (.bool), .val (.bool)], [.val (.bool)], false⟩
def ann60 : List (Nat × Norm) := [(2, { keep := some [(0, .asis), (1, .asis), (2, .asis), (7, .asis)] })]
/-- masthead/mastref1.Arity -/
def sig50 : Sig := ⟨[.val (.str)], [.val (.int .i64)], false⟩
def ann50 : List (Nat × Norm) := [(2, { keep := some [(0, .asis), (5, .dat 9), (6, .asis), (7, .asis)] })]
/-- masthead/tmpl.isName -/
def sig74 : Sig := ⟨[.val (.str)], [.val (.bool)], false⟩
def ann74 : List (Nat × Norm) := [(4, { keep := some [(0, .asis), (3, .asis)] })]
/-- masthead/tmpl.functions -/
def sig70 : Sig := ⟨[], [.mp 83], false⟩
def ann70 : List (Nat × Norm) := []
/-- masthead/mastref1.wordByte -/
def sig72 : Sig := ⟨[.val (.int .u8)], [.val (.bool)], false⟩
def ann72 : List (Nat × Norm) := []
/-- strings.Split -/
def sig73 : Sig := ⟨[.val (.str), .val (.str)], [.val (.slice 9)], false⟩
def ann73 : List (Nat × Norm) := []
/-- masthead/tmpl.isSmall -/
def sig87 : Sig := ⟨[.val (.int .u8)], [.val (.bool)], false⟩
def ann87 : List (Nat × Norm) := []
/-- masthead/tmpl.isWord -/
def sig88 : Sig := ⟨[.val (.int .u8)], [.val (.bool)], false⟩
def ann88 : List (Nat × Norm) := []
/-- masthead/mastref1.isDigit -/
def sig99 : Sig := ⟨[.val (.int .u8)], [.val (.bool)], false⟩
def ann99 : List (Nat × Norm) := []
/-- strings.genSplit -/
def sig100 : Sig := ⟨[.val (.str), .val (.str), .val (.int .i64), .val (.int .i64)], [.val (.slice 9)], false⟩
def ann100 : List (Nat × Norm) := [(7, { keep := some [(0, .asis), (1, .asis), (2, .asis), (3, .asis)], cut := true }), (11, { keep := some [(0, .asis), (1, .asis), (2, .asis), (3, .asis), (9, .own 9), (10, .asis)] })]
/-- masthead/tmpl.isDigit -/
def sig110 : Sig := ⟨[.val (.int .u8)], [.val (.bool)], false⟩
def ann110 : List (Nat × Norm) := []
def sig17 : Sig := ⟨[.val (.int .i64)], [.val .str], false⟩
def sig21 : Sig := ⟨[.val (.slice 9), .val .str], [.val .str], false⟩
def sig38 : Sig := ⟨[.val .str, .val (.int .u8)], [.val (.int .i64)], false⟩
def sig18 : Sig := ⟨[.val .str, .val .str, .val .str], [.val .str], false⟩
def sig63 : Sig := ⟨[.val .str, .val .str], [.val (.int .i64)], false⟩
def sig62 : Sig := ⟨[.val .str, .val .str], [.val (.int .i64)], false⟩
def sig132 : Sig := ⟨[.val .str, .val (.int .i64)], [.val (.slice 9)], false⟩
noncomputable def E : Env := { tt := tt, fns := [(3, Tryz.f3), (5, Tryz.f5), (6, Tryz.f6), (7, Tryz.f7), (11, Tryz.f11), (12, Tryz.f12), (13, Tryz.f13), (14, Tryz.f14), (15, Tryz.f15), (16, Tryz.f16), (19, Tryz.f19), (20, Tryz.f20), (31, Tryz.f31), (32, Tryz.f32), (33, Tryz.f33), (34, Tryz.f34), (35, Tryz.f35), (39, Tryz.f39), (51, Tryz.f51), (52, Tryz.f52), (53, Tryz.f53), (54, Tryz.f54), (22, Tryz.f22), (46, Tryz.f46), (55, Tryz.f55), (56, Tryz.f56), (57, Tryz.f57), (58, Tryz.f58), (59, Tryz.f59), (60, Tryz.f60), (50, Tryz.f50), (74, Tryz.f74), (70, Tryz.f70), (72, Tryz.f72), (73, Tryz.f73), (87, Tryz.f87), (88, Tryz.f88), (99, Tryz.f99), (100, Tryz.f100), (110, Tryz.f110)], sigs := [(3, sig3), (5, sig5), (6, sig6), (7, sig7), (11, sig11), (12, sig12), (13, sig13), (14, sig14), (15, sig15), (16, sig16), (19, sig19), (20, sig20), (31, sig31), (32, sig32), (33, sig33), (34, sig34), (35, sig35), (39, sig39), (51, sig51), (52, sig52), (53, sig53), (54, sig54), (22, sig22), (46, sig46), (55, sig55), (56, sig56), (57, sig57), (58, sig58), (59, sig59), (60, sig60), (50, sig50), (74, sig74), (70, sig70), (72, sig72), (73, sig73), (87, sig87), (88, sig88), (99, sig99), (100, sig100), (110, sig110), (17, sig17), (21, sig21), (38, sig38), (18, sig18), (63, sig63), (62, sig62), (132, sig132)], ext := [(17, xItoa), (21, xJoin), (38, xIndexByte), (18, xReplaceAll), (63, xIndex1), (62, xCount1), (132, xNone)], ann := [(3, ann3), (5, ann5), (6, ann6), (7, ann7), (11, ann11), (12, ann12), (13, ann13), (14, ann14), (15, ann15), (16, ann16), (19, ann19), (20, ann20), (31, ann31), (32, ann32), (33, ann33), (34, ann34), (35, ann35), (39, ann39), (51, ann51), (52, ann52), (53, ann53), (54, ann54), (22, ann22), (46, ann46), (55, ann55), (56, ann56), (57, ann57), (58, ann58), (59, ann59), (60, ann60), (50, ann50), (74, ann74), (70, ann70), (72, ann72), (73, ann73), (87, ann87), (88, ann88), (99, ann99), (100, ann100), (110, ann110)] }
theorem tt_all : ttB Tryz.prog tt tt = true := by kernel_rfl
theorem fns_ok : FnsOK Tryz.prog E E.fns := ⟨⟨Tryz.func3, by kernel_rfl⟩, ⟨Tryz.func5, by kernel_rfl⟩, ⟨Tryz.func6, by kernel_rfl⟩, ⟨Tryz.func7, by kernel_rfl⟩, ⟨Tryz.func11, by kernel_rfl⟩, ⟨Tryz.func12, by kernel_rfl⟩, ⟨Tryz.func13, by kernel_rfl⟩, ⟨Tryz.func14, by kernel_rfl⟩, ⟨Tryz.func15, by kernel_rfl⟩, ⟨Tryz.func16, by kernel_rfl⟩, ⟨Tryz.func19, by kernel_rfl⟩, ⟨Tryz.func20, by kernel_rfl⟩, ⟨Tryz.func31, by kernel_rfl⟩, ⟨Tryz.func32, by kernel_rfl⟩, ⟨Tryz.func33, by kernel_rfl⟩, ⟨Tryz.func34, by kernel_rfl⟩, ⟨Tryz.func35, by kernel_rfl⟩, ⟨Tryz.func39, by kernel_rfl⟩, ⟨Tryz.func51, by kernel_rfl⟩, ⟨Tryz.func52, by kernel_rfl⟩, ⟨Tryz.func53, by kernel_rfl⟩, ⟨Tryz.func54, by kernel_rfl⟩, ⟨Tryz.func22, by kernel_rfl⟩, ⟨Tryz.func46, by kernel_rfl⟩, ⟨Tryz.func55, by kernel_rfl⟩, ⟨Tryz.func56, by kernel_rfl⟩, ⟨Tryz.func57, by kernel_rfl⟩, ⟨Tryz.func58, by kernel_rfl⟩, ⟨Tryz.func59, by kernel_rfl⟩, ⟨Tryz.func60, by kernel_rfl⟩, ⟨Tryz.func50, by kernel_rfl⟩, ⟨Tryz.func74, by kernel_rfl⟩, ⟨Tryz.func70, by kernel_rfl⟩, ⟨Tryz.func72, by kernel_rfl⟩, ⟨Tryz.func73, by kernel_rfl⟩, ⟨Tryz.func87, by kernel_rfl⟩, ⟨Tryz.func88, by kernel_rfl⟩, ⟨Tryz.func99, by kernel_rfl⟩, ⟨Tryz.func100, by kernel_rfl⟩, ⟨Tryz.func110, by kernel_rfl⟩, trivial⟩
theorem mixed : Tryz.prog.follows .mixedOrders = true := by kernel_rfl
theorem exts_ok (W0 : World) (ht : Lib.TabIs Tryz.prog W0 "internal/strconv.uint64pow10" .u64 Lib.pow10Tab ∧ ∃ m, W0.cell? ⟨1, 0, none⟩ = some (.int .i64 m)) : ExtsOK Tryz.prog E W0 E.ext := ⟨
  extItoa (c := (Tryz.f17.body).getD .skip) Tryz.func17 (by kernel_rfl) (by kernel_rfl) (by kernel_rfl) Tryz.strconv_Itoa ht.1,
  extJoin (c := (Tryz.f21.body).getD .skip) (e := 9) (ti := ⟨.str, [.str], [], 16⟩) Tryz.func21 (by kernel_rfl) (by kernel_rfl) (by kernel_rfl) (by kernel_rfl) rfl rfl Tryz.strings_Join_none Tryz.strings_Join,
  extIndexByte (c := (Tryz.f38.body).getD .skip) Tryz.func38 (by kernel_rfl) (by kernel_rfl) (by kernel_rfl) Tryz.strings_IndexByte,
  extReplaceAll (c := (Tryz.f18.body).getD .skip) Tryz.func18 (by kernel_rfl) (by kernel_rfl) (by kernel_rfl) Tryz.strings_ReplaceAll ht.2,
  extIndex1 (c := (Tryz.f63.body).getD .skip) Tryz.func63 (by kernel_rfl) (by kernel_rfl) (by kernel_rfl) Tryz.strings_Index_one,
  extCount1 (c := (Tryz.f62.body).getD .skip) Tryz.func62 (by kernel_rfl) (by kernel_rfl) (by kernel_rfl) Tryz.strings_Count_one,
  extNone, trivial⟩
theorem env (W0 : World) (ht : Lib.TabIs Tryz.prog W0 "internal/strconv.uint64pow10" .u64 Lib.pow10Tab ∧ ∃ m, W0.cell? ⟨1, 0, none⟩ = some (.int .i64 m)) : EnvOK Tryz.prog E W0 := ⟨mixed, (tt_ok tt_all).1, fun f fn h => fns_of fns_ok f fn h, fun f g h => exts_of (exts_ok W0 ht) f g h⟩
end Go.Proofs.YtcmeincdmphaoaaGreatDoor.ww
