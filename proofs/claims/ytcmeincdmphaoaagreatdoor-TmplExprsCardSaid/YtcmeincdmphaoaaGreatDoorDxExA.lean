/- A part of the proof. -/
import Derived.Test.YtcmeincdmphaoaaGreatDoorF8
import Derived.Test.YtcmeincdmphaoaaGreatDoorChecked
import Derived.Test.YtcmeincdmphaoaaGreatDoorRows
import Derived.WalkKit
import Derived.ProofKit
import Derived.Test.YtcmeincdmphaoaaGreatDoorDxWwS
import Derived.Test.YtcmeincdmphaoaaGreatDoorDxExN
set_option linter.unusedVariables false
set_option linter.unusedSimpArgs false
namespace Go.Proofs.YtcmeincdmphaoaaGreatDoor.ex
open Go.Proofs.YtcmeincdmphaoaaGreatDoor.DS

def tt : TT := [(3, ⟨.int .i64, [.int .i64], [], 8⟩),
  (4, ⟨.bool, [.bool], [], 1⟩),
  (5, ⟨.int .u8, [.int .u8], [], 1⟩),
  (9, ⟨.str, [.str], [], 16⟩),
  (22, ⟨.slice 25, [.slice 25], [], 24⟩),
  (23, ⟨.slice 9, [.slice 9], [], 24⟩),
  (25, ⟨.agg 25, [.int .i64, .bool, .int .i64, .str, .slice 25, .slice 9], [(0, 3), (1, 4), (2, 3), (3, 9), (4, 22), (5, 23)], 88⟩),
  (26, ⟨.slice 28, [.slice 28], [], 24⟩),
  (28, ⟨.agg 28, [.int .i64, .str, .int .i64, .bool, .int .i64, .str, .slice 25, .slice 9, .slice 28], [(0, 3), (1, 9), (2, 25), (8, 26)], 136⟩),
  (29, ⟨.int .i64, [.int .i64], [], 8⟩),
  (46, ⟨.ptr, [.ptr], [], 8⟩),
  (48, ⟨.agg 48, [.str, .int .i64, .bool], [(0, 9), (1, 3), (2, 4)], 32⟩),
  (51, ⟨.ptr, [.ptr], [], 8⟩),
  (53, ⟨.agg 53, [.str, .int .i64, .bool], [(0, 9), (1, 3), (2, 4)], 32⟩),
  (61, ⟨.slice 5, [.slice 5], [], 24⟩),
  (80, ⟨.any, [.any], [], 8⟩),
  (82, ⟨.agg 82, [.int .i64, .str, .any], [(0, 3), (1, 9), (2, 80)], 32⟩),
  (83, ⟨.map, [.map], [(0, 9), (0, 82)], 8⟩)]
/-- masthead/mastlaw1.TmplExprs -/
def sig4 : Sig := ⟨[.val (.str)], [.val (.bool)], false⟩
def ann4 : List (Nat × Norm) := [(3, { frz := [5, 3] })]
/-- masthead/tmpl.ParseExpr -/
def sig8 : Sig := ⟨[.val (.str)], [.val (.agg 28), .val (.int .i64)], false⟩
def ann8 : List (Nat × Norm) := [(10, { frz := [5] }), (12, { frz := [5] }), (14, { frz := [5] })]
/-- masthead/mastref1.ExprOf -/
def sig9 : Sig := ⟨[.val (.str)], [.val (.agg 28), .val (.int .i64)], false⟩
def ann9 : List (Nat × Norm) := [(9, { frz := [6] }), (11, { frz := [6] }), (13, { frz := [6] })]
/-- masthead/mastref1.SameExpr -/
def sig10 : Sig := ⟨[.val (.agg 28), .val (.agg 28)], [.val (.bool)], false⟩
def ann10 : List (Nat × Norm) := [(4, { keep := some [(2, .asis), (3, .asis), (37, .asis), (38, .asis)], rows := [(2, 8, 28), (3, 8, 28)] }), (1, { frz := [3, 2] })]
/-- masthead/tmpl.badByte -/
def sig22 : Sig := ⟨[.val (.str)], [.val (.bool)], false⟩
def ann22 : List (Nat × Norm) := [(2, { keep := some [(0, .asis), (3, .asis)] })]
/-- (*masthead/tmpl.parser).or -/
def sig23 : Sig := ⟨[.box 48 [.val (.str), .val (.int .i64), .val (.bool)]], [.val (.agg 28)], false⟩
def ann23 : List (Nat × Norm) := [(2, { keep := some [(0, .asis), (2, .asis), (3, .asis)], rows := [(2, 8, 28), (3, 8, 28)] }), (3, { frz := [3] }), (4, { frz := [3] })]
/-- (*masthead/tmpl.parser).skip -/
def sig24 : Sig := ⟨[.box 48 [.val (.str), .val (.int .i64), .val (.bool)]], [], false⟩
def ann24 : List (Nat × Norm) := [(0, { keep := some [(0, .asis)] })]
/-- masthead/tmpl.depth -/
def sig12 : Sig := ⟨[.val (.agg 28)], [.val (.int .i64)], false⟩
def ann12 : List (Nat × Norm) := [(3, { keep := some [(3, .asis), (7, .dat 28), (8, .asis), (9, .asis)] }), (5, { frz := [5] })]
/-- masthead/tmpl.unknown -/
def sig25 : Sig := ⟨[.val (.agg 28)], [.val (.bool)], false⟩
def ann25 : List (Nat × Norm) := [(4, { keep := some [(24, .dat 28), (25, .asis), (26, .asis)] }), (6, { frz := [4] })]
/-- masthead/mastref1.bodyError -/
def sig26 : Sig := ⟨[.val (.str)], [.val (.int .i64)], false⟩
def ann26 : List (Nat × Norm) := [(4, { keep := some [(0, .asis), (3, .asis)] })]
/-- (*masthead/mastref1.scanner).binary -/
def sig27 : Sig := ⟨[.box 53 [.val (.str), .val (.int .i64), .val (.bool)], .val (.int .i64), .val (.str)], [.val (.agg 28)], false⟩
def ann27 : List (Nat × Norm) := [(2, { keep := some [(0, .asis), (1, .asis), (2, .asis), (6, .asis), (7, .asis)], rows := [(6, 8, 28), (7, 8, 28)] }), (4, { frz := [7] }), (6, { frz := [7] }), (8, { frz := [7] })]
/-- (*masthead/mastref1.scanner).skip -/
def sig28 : Sig := ⟨[.box 53 [.val (.str), .val (.int .i64), .val (.bool)]], [], false⟩
def ann28 : List (Nat × Norm) := [(0, { keep := some [(0, .asis)] })]
/-- masthead/mastref1.Depth -/
def sig15 : Sig := ⟨[.val (.agg 28)], [.val (.int .i64)], false⟩
def ann15 : List (Nat × Norm) := [(3, { keep := some [(3, .asis), (7, .dat 28), (8, .asis), (9, .asis)] }), (5, { frz := [5] })]
/-- masthead/mastref1.badName -/
def sig29 : Sig := ⟨[.val (.agg 28)], [.val (.bool)], false⟩
def ann29 : List (Nat × Norm) := [(4, { keep := some [(18, .dat 28), (19, .asis), (20, .asis)] }), (6, { frz := [4] })]
/-- masthead/mastref1.SameValue -/
def sig30 : Sig := ⟨[.val (.agg 25), .val (.agg 25)], [.val (.bool)], false⟩
def ann30 : List (Nat × Norm) := [(4, { keep := some [(2, .asis), (3, .asis), (53, .asis), (54, .asis)] }), (10, { keep := some [(2, .asis), (3, .asis), (71, .asis), (72, .asis)] })]
/-- (*masthead/tmpl.parser).and -/
def sig43 : Sig := ⟨[.box 48 [.val (.str), .val (.int .i64), .val (.bool)]], [.val (.agg 28)], false⟩
def ann43 : List (Nat × Norm) := [(2, { keep := some [(0, .asis), (2, .asis), (3, .asis)], rows := [(2, 8, 28), (3, 8, 28)] }), (3, { frz := [3] }), (4, { frz := [3] })]
/-- (*masthead/tmpl.parser).take -/
def sig44 : Sig := ⟨[.box 48 [.val (.str), .val (.int .i64), .val (.bool)], .val (.str)], [.val (.bool)], false⟩
def ann44 : List (Nat × Norm) := []
/-- masthead/tmpl.isSpace -/
def sig45 : Sig := ⟨[.val (.int .u8)], [.val (.bool)], false⟩
def ann45 : List (Nat × Norm) := []
/-- masthead/tmpl.arity -/
def sig46 : Sig := ⟨[.val (.str)], [.val (.int .i64)], false⟩
def ann46 : List (Nat × Norm) := []
/-- (*masthead/mastref1.scanner).side -/
def sig47 : Sig := ⟨[.box 53 [.val (.str), .val (.int .i64), .val (.bool)], .val (.int .i64)], [.val (.agg 28)], false⟩
def ann47 : List (Nat × Norm) := []
/-- (*masthead/mastref1.scanner).word -/
def sig48 : Sig := ⟨[.box 53 [.val (.str), .val (.int .i64), .val (.bool)]], [.val (.str)], false⟩
def ann48 : List (Nat × Norm) := [(2, { keep := some [(0, .asis), (3, .asis)] })]
/-- masthead/mastref1.gap -/
def sig49 : Sig := ⟨[.val (.int .u8)], [.val (.bool)], false⟩
def ann49 : List (Nat × Norm) := []
/-- masthead/mastref1.Arity -/
def sig50 : Sig := ⟨[.val (.str)], [.val (.int .i64)], false⟩
def ann50 : List (Nat × Norm) := [(2, { keep := some [(0, .asis), (5, .dat 9), (6, .asis), (7, .asis)] })]
/-- (*masthead/tmpl.parser).not -/
def sig68 : Sig := ⟨[.box 48 [.val (.str), .val (.int .i64), .val (.bool)]], [.val (.agg 28)], false⟩
def ann68 : List (Nat × Norm) := []
/-- (*masthead/tmpl.parser).word -/
def sig69 : Sig := ⟨[.box 48 [.val (.str), .val (.int .i64), .val (.bool)]], [.val (.str)], false⟩
def ann69 : List (Nat × Norm) := [(3, { keep := some [(0, .asis), (3, .asis)] })]
/-- masthead/tmpl.functions -/
def sig70 : Sig := ⟨[], [.mp 83], false⟩
def ann70 : List (Nat × Norm) := []
/-- (*masthead/mastref1.scanner).not -/
def sig71 : Sig := ⟨[.box 53 [.val (.str), .val (.int .i64), .val (.bool)]], [.val (.agg 28)], false⟩
def ann71 : List (Nat × Norm) := [(8, { keep := some [(0, .asis), (2, .asis), (3, .asis), (26, .dat 9), (27, .asis), (28, .asis)], rows := [(2, 8, 28), (3, 8, 28)] }), (11, { frz := [3] }), (13, { frz := [3] })]
/-- masthead/mastref1.wordByte -/
def sig72 : Sig := ⟨[.val (.int .u8)], [.val (.bool)], false⟩
def ann72 : List (Nat × Norm) := []
/-- strings.Split -/
def sig73 : Sig := ⟨[.val (.str), .val (.str)], [.val (.slice 9)], false⟩
def ann73 : List (Nat × Norm) := []
/-- (*masthead/tmpl.parser).cmp -/
def sig86 : Sig := ⟨[.box 48 [.val (.str), .val (.int .i64), .val (.bool)]], [.val (.agg 28)], false⟩
def ann86 : List (Nat × Norm) := [(7, { keep := some [(0, .asis), (2, .asis), (3, .asis), (4, .asis), (16, .dat 9), (17, .asis), (18, .asis)], rows := [(2, 8, 28), (3, 8, 28)] }), (3, { frz := [3] }), (13, { frz := [3] }), (15, { frz := [3] })]
/-- masthead/tmpl.isSmall -/
def sig87 : Sig := ⟨[.val (.int .u8)], [.val (.bool)], false⟩
def ann87 : List (Nat × Norm) := []
/-- masthead/tmpl.isWord -/
def sig88 : Sig := ⟨[.val (.int .u8)], [.val (.bool)], false⟩
def ann88 : List (Nat × Norm) := []
/-- (*masthead/mastref1.scanner).term -/
def sig97 : Sig := ⟨[.box 53 [.val (.str), .val (.int .i64), .val (.bool)]], [.val (.agg 28)], false⟩
def ann97 : List (Nat × Norm) := [(2, { keep := some [(0, .asis), (2, .asis), (3, .asis)], rows := [(2, 8, 28), (3, 8, 28)] }), (10, { frz := [3] }), (16, { frz := [5, 3] }), (3, { frz := [3] }), (17, { frz := [3] })]
/-- (*masthead/mastref1.scanner).is -/
def sig98 : Sig := ⟨[.box 53 [.val (.str), .val (.int .i64), .val (.bool)], .val (.str)], [.val (.bool)], false⟩
def ann98 : List (Nat × Norm) := []
/-- masthead/mastref1.isDigit -/
def sig99 : Sig := ⟨[.val (.int .u8)], [.val (.bool)], false⟩
def ann99 : List (Nat × Norm) := []
/-- strings.genSplit -/
def sig100 : Sig := ⟨[.val (.str), .val (.str), .val (.int .i64), .val (.int .i64)], [.val (.slice 9)], false⟩
def ann100 : List (Nat × Norm) := [(7, { keep := some [(0, .asis), (1, .asis), (2, .asis), (3, .asis)], cut := true }), (11, { keep := some [(0, .asis), (1, .asis), (2, .asis), (3, .asis), (9, .own 9), (10, .asis)] })]
/-- (*masthead/tmpl.parser).term -/
def sig109 : Sig := ⟨[.box 48 [.val (.str), .val (.int .i64), .val (.bool)]], [.val (.agg 28)], false⟩
def ann109 : List (Nat × Norm) := [(3, { keep := some [(0, .asis), (2, .asis), (3, .asis)], rows := [(2, 8, 28), (3, 8, 28)] }), (12, { frz := [3] }), (20, { frz := [5, 3] }), (5, { frz := [3] }), (21, { frz := [3] })]
/-- masthead/tmpl.isDigit -/
def sig110 : Sig := ⟨[.val (.int .u8)], [.val (.bool)], false⟩
def ann110 : List (Nat × Norm) := []
/-- (*masthead/mastref1.scanner).primary -/
def sig129 : Sig := ⟨[.box 53 [.val (.str), .val (.int .i64), .val (.bool)]], [.val (.agg 28)], false⟩
def ann129 : List (Nat × Norm) := [(28, { frz := [6] })]
/-- masthead/mastref1.IsName -/
def sig58 : Sig := ⟨[.val (.str)], [.val (.bool)], false⟩
def ann58 : List (Nat × Norm) := [(4, { keep := some [(0, .asis), (3, .asis)] }), (9, { keep := some [(0, .asis), (35, .dat 9), (36, .asis), (37, .asis)] })]
/-- (*masthead/mastref1.scanner).fail -/
def sig130 : Sig := ⟨[.box 53 [.val (.str), .val (.int .i64), .val (.bool)]], [.val (.agg 28)], false⟩
def ann130 : List (Nat × Norm) := []
/-- strings.HasPrefix -/
def sig131 : Sig := ⟨[.val (.str), .val (.str)], [.val (.bool)], false⟩
def ann131 : List (Nat × Norm) := []
/-- (*masthead/tmpl.parser).primary -/
def sig136 : Sig := ⟨[.box 48 [.val (.str), .val (.int .i64), .val (.bool)]], [.val (.agg 28)], false⟩
def ann136 : List (Nat × Norm) := [(27, { frz := [6] })]
/-- (*masthead/tmpl.parser).peek -/
def sig137 : Sig := ⟨[.box 48 [.val (.str), .val (.int .i64), .val (.bool)]], [.val (.int .u8)], false⟩
def ann137 : List (Nat × Norm) := []
/-- masthead/tmpl.isName -/
def sig74 : Sig := ⟨[.val (.str)], [.val (.bool)], false⟩
def ann74 : List (Nat × Norm) := [(4, { keep := some [(0, .asis), (3, .asis)] })]
/-- (*masthead/tmpl.parser).fail -/
def sig138 : Sig := ⟨[.box 48 [.val (.str), .val (.int .i64), .val (.bool)]], [.val (.agg 28)], false⟩
def ann138 : List (Nat × Norm) := []
/-- (*masthead/mastref1.scanner).str -/
def sig152 : Sig := ⟨[.box 53 [.val (.str), .val (.int .i64), .val (.bool)]], [.val (.agg 28)], false⟩
def ann152 : List (Nat × Norm) := [(3, { keep := some [(0, .asis), (2, .asis), (3, .asis)], rows := [(2, 8, 28)] })]
/-- (*masthead/mastref1.scanner).number -/
def sig153 : Sig := ⟨[.box 53 [.val (.str), .val (.int .i64), .val (.bool)]], [.val (.agg 28)], false⟩
def ann153 : List (Nat × Norm) := [(4, { keep := some [(0, .asis), (2, .asis), (3, .asis)], rows := [(2, 8, 28)], cut := true }), (5, { keep := some [(0, .asis), (2, .asis), (3, .asis), (4, .asis)], rows := [(2, 8, 28)] })]
/-- (*masthead/mastref1.scanner).named -/
def sig154 : Sig := ⟨[.box 53 [.val (.str), .val (.int .i64), .val (.bool)]], [.val (.agg 28)], false⟩
def ann154 : List (Nat × Norm) := [(9, { keep := some [(0, .asis), (2, .asis), (3, .asis)], rows := [(2, 8, 28)], cut := true }), (12, { keep := some [(0, .asis), (2, .asis), (4, .asis)], rows := [(2, 8, 28), (4, 8, 28)] }), (16, { frz := [4] }), (19, { frz := [4] })]
/-- internal/stringslite.HasPrefix -/
def sig155 : Sig := ⟨[.val (.str), .val (.str)], [.val (.bool)], false⟩
def ann155 : List (Nat × Norm) := []
/-- (*masthead/tmpl.parser).text -/
def sig156 : Sig := ⟨[.box 48 [.val (.str), .val (.int .i64), .val (.bool)]], [.val (.agg 28)], false⟩
def ann156 : List (Nat × Norm) := [(3, { keep := some [(0, .asis), (2, .asis), (3, .own 5)], rows := [(2, 8, 28)] })]
/-- (*masthead/tmpl.parser).named -/
def sig158 : Sig := ⟨[.box 48 [.val (.str), .val (.int .i64), .val (.bool)]], [.val (.agg 28)], false⟩
def ann158 : List (Nat × Norm) := [(9, { keep := some [(0, .asis), (2, .asis), (3, .asis)], rows := [(2, 8, 28)], cut := true }), (12, { keep := some [(0, .asis), (2, .asis), (4, .asis)], rows := [(2, 8, 28), (4, 8, 28)] }), (19, { frz := [4] })]
/-- masthead/mastref1.constant -/
def sig163 : Sig := ⟨[.val (.agg 25)], [.val (.agg 28)], false⟩
def ann163 : List (Nat × Norm) := []
/-- masthead/tmpl.constant -/
def sig165 : Sig := ⟨[.val (.agg 25)], [.val (.agg 28)], false⟩
def ann165 : List (Nat × Norm) := []
def sig38 : Sig := ⟨[.val .str, .val (.int .u8)], [.val (.int .i64)], false⟩
def sig63 : Sig := ⟨[.val .str, .val .str], [.val (.int .i64)], false⟩
def sig62 : Sig := ⟨[.val .str, .val .str], [.val (.int .i64)], false⟩
def sig132 : Sig := ⟨[.val .str, .val (.int .i64)], [.val (.slice 9)], false⟩
def sig157 : Sig := ⟨[.box 48 [.val .str, .val (.int .i64), .val .bool]], [.val (.agg 28)], false⟩
def sig164 : Sig := ⟨[.val .str], [.val (.int .i64), .any], false⟩
noncomputable def E : Env := { tt := tt, fns := [(4, Tryz.f4), (8, Tryz.f8), (9, Tryz.f9), (10, Tryz.f10), (22, Tryz.f22), (23, Tryz.f23), (24, Tryz.f24), (12, Tryz.f12), (25, Tryz.f25), (26, Tryz.f26), (27, Tryz.f27), (28, Tryz.f28), (15, Tryz.f15), (29, Tryz.f29), (30, Tryz.f30), (43, Tryz.f43), (44, Tryz.f44), (45, Tryz.f45), (46, Tryz.f46), (47, Tryz.f47), (48, Tryz.f48), (49, Tryz.f49), (50, Tryz.f50), (68, Tryz.f68), (69, Tryz.f69), (70, Tryz.f70), (71, Tryz.f71), (72, Tryz.f72), (73, Tryz.f73), (86, Tryz.f86), (87, Tryz.f87), (88, Tryz.f88), (97, Tryz.f97), (98, Tryz.f98), (99, Tryz.f99), (100, Tryz.f100), (109, Tryz.f109), (110, Tryz.f110), (129, Tryz.f129), (58, Tryz.f58), (130, Tryz.f130), (131, Tryz.f131), (136, Tryz.f136), (137, Tryz.f137), (74, Tryz.f74), (138, Tryz.f138), (152, Tryz.f152), (153, Tryz.f153), (154, Tryz.f154), (155, Tryz.f155), (156, Tryz.f156), (158, Tryz.f158), (163, Tryz.f163), (165, Tryz.f165)], sigs := [(4, sig4), (8, sig8), (9, sig9), (10, sig10), (22, sig22), (23, sig23), (24, sig24), (12, sig12), (25, sig25), (26, sig26), (27, sig27), (28, sig28), (15, sig15), (29, sig29), (30, sig30), (43, sig43), (44, sig44), (45, sig45), (46, sig46), (47, sig47), (48, sig48), (49, sig49), (50, sig50), (68, sig68), (69, sig69), (70, sig70), (71, sig71), (72, sig72), (73, sig73), (86, sig86), (87, sig87), (88, sig88), (97, sig97), (98, sig98), (99, sig99), (100, sig100), (109, sig109), (110, sig110), (129, sig129), (58, sig58), (130, sig130), (131, sig131), (136, sig136), (137, sig137), (74, sig74), (138, sig138), (152, sig152), (153, sig153), (154, sig154), (155, sig155), (156, sig156), (158, sig158), (163, sig163), (165, sig165), (38, sig38), (63, sig63), (62, sig62), (132, sig132), (157, sig157), (164, sig164)], ext := [(38, xIndexByte), (63, xIndex1), (62, xCount1), (132, xNone), (157, xNumber), (164, xAtoi)], ann := [(4, ann4), (8, ann8), (9, ann9), (10, ann10), (22, ann22), (23, ann23), (24, ann24), (12, ann12), (25, ann25), (26, ann26), (27, ann27), (28, ann28), (15, ann15), (29, ann29), (30, ann30), (43, ann43), (44, ann44), (45, ann45), (46, ann46), (47, ann47), (48, ann48), (49, ann49), (50, ann50), (68, ann68), (69, ann69), (70, ann70), (71, ann71), (72, ann72), (73, ann73), (86, ann86), (87, ann87), (88, ann88), (97, ann97), (98, ann98), (99, ann99), (100, ann100), (109, ann109), (110, ann110), (129, ann129), (58, ann58), (130, ann130), (131, ann131), (136, ann136), (137, ann137), (74, ann74), (138, ann138), (152, ann152), (153, ann153), (154, ann154), (155, ann155), (156, ann156), (158, ann158), (163, ann163), (165, ann165)] }
theorem tt_all : ttB Tryz.prog tt tt = true := by kernel_rfl
theorem fns_ok : FnsOK Tryz.prog E E.fns := ⟨⟨Tryz.func4, by kernel_rfl⟩, ⟨Tryz.func8, by kernel_rfl⟩, ⟨Tryz.func9, by kernel_rfl⟩, ⟨Tryz.func10, by kernel_rfl⟩, ⟨Tryz.func22, by kernel_rfl⟩, ⟨Tryz.func23, by kernel_rfl⟩, ⟨Tryz.func24, by kernel_rfl⟩, ⟨Tryz.func12, by kernel_rfl⟩, ⟨Tryz.func25, by kernel_rfl⟩, ⟨Tryz.func26, by kernel_rfl⟩, ⟨Tryz.func27, by kernel_rfl⟩, ⟨Tryz.func28, by kernel_rfl⟩, ⟨Tryz.func15, by kernel_rfl⟩, ⟨Tryz.func29, by kernel_rfl⟩, ⟨Tryz.func30, by kernel_rfl⟩, ⟨Tryz.func43, by kernel_rfl⟩, ⟨Tryz.func44, by kernel_rfl⟩, ⟨Tryz.func45, by kernel_rfl⟩, ⟨Tryz.func46, by kernel_rfl⟩, ⟨Tryz.func47, by kernel_rfl⟩, ⟨Tryz.func48, by kernel_rfl⟩, ⟨Tryz.func49, by kernel_rfl⟩, ⟨Tryz.func50, by kernel_rfl⟩, ⟨Tryz.func68, by kernel_rfl⟩, ⟨Tryz.func69, by kernel_rfl⟩, ⟨Tryz.func70, by kernel_rfl⟩, ⟨Tryz.func71, by kernel_rfl⟩, ⟨Tryz.func72, by kernel_rfl⟩, ⟨Tryz.func73, by kernel_rfl⟩, ⟨Tryz.func86, by kernel_rfl⟩, ⟨Tryz.func87, by kernel_rfl⟩, ⟨Tryz.func88, by kernel_rfl⟩, ⟨Tryz.func97, by kernel_rfl⟩, ⟨Tryz.func98, by kernel_rfl⟩, ⟨Tryz.func99, by kernel_rfl⟩, ⟨Tryz.func100, by kernel_rfl⟩, ⟨Tryz.func109, by kernel_rfl⟩, ⟨Tryz.func110, by kernel_rfl⟩, ⟨Tryz.func129, by kernel_rfl⟩, ⟨Tryz.func58, by kernel_rfl⟩, ⟨Tryz.func130, by kernel_rfl⟩, ⟨Tryz.func131, by kernel_rfl⟩, ⟨Tryz.func136, by kernel_rfl⟩, ⟨Tryz.func137, by kernel_rfl⟩, ⟨Tryz.func74, by kernel_rfl⟩, ⟨Tryz.func138, by kernel_rfl⟩, ⟨Tryz.func152, by kernel_rfl⟩, ⟨Tryz.func153, by kernel_rfl⟩, ⟨Tryz.func154, by kernel_rfl⟩, ⟨Tryz.func155, by kernel_rfl⟩, ⟨Tryz.func156, by kernel_rfl⟩, ⟨Tryz.func158, by kernel_rfl⟩, ⟨Tryz.func163, by kernel_rfl⟩, ⟨Tryz.func165, by kernel_rfl⟩, trivial⟩
theorem mixed : Tryz.prog.follows .mixedOrders = true := by kernel_rfl
theorem exts_ok (W0 : World) (ht : (∃ m, W0.cell? ⟨1, 0, none⟩ = some (.int .i64 m)) ∧ ExtOK Tryz.prog E W0 157 xNumber) : ExtsOK Tryz.prog E W0 E.ext := ⟨
  extIndexByte (c := (Tryz.f38.body).getD .skip) Tryz.func38 (by kernel_rfl) (by kernel_rfl) (by kernel_rfl) Tryz.strings_IndexByte,
  extIndex1 (c := (Tryz.f63.body).getD .skip) Tryz.func63 (by kernel_rfl) (by kernel_rfl) (by kernel_rfl) Tryz.strings_Index_one,
  extCount1 (c := (Tryz.f62.body).getD .skip) Tryz.func62 (by kernel_rfl) (by kernel_rfl) (by kernel_rfl) Tryz.strings_Count_one,
  extNone,
  ht.2,
  extAtoi (c := (Tryz.f164.body).getD .skip) Tryz.func164 (by kernel_rfl) (by kernel_rfl) (by kernel_rfl) Tryz.strconv_Atoi, trivial⟩
theorem env (W0 : World) (ht : (∃ m, W0.cell? ⟨1, 0, none⟩ = some (.int .i64 m)) ∧ ExtOK Tryz.prog E W0 157 xNumber) : EnvOK Tryz.prog E W0 := ⟨mixed, (tt_ok tt_all).1, fun f fn h => fns_of fns_ok f fn h, fun f g h => exts_of (exts_ok W0 ht) f g h⟩
end Go.Proofs.YtcmeincdmphaoaaGreatDoor.ex
