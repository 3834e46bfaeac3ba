/- A part of the proof. -/
import Derived.Test.YtefclcihphpejaaDoorF8
import Derived.Test.YtefclcihphpejaaDoorChecked
import Derived.Test.YtefclcihphpejaaDoorRows
import Derived.WalkKit
import Derived.ProofKit
import Derived.Test.YtefclcihphpejaaDoorDxScS
set_option linter.unusedVariables false
set_option linter.unusedSimpArgs false
namespace Go.Proofs.YtefclcihphpejaaDoor.rd
open Go.Proofs.YtefclcihphpejaaDoor.DS

def tt : TT := [(3, ⟨.int .i64, [.int .i64], [], 8⟩),
  (4, ⟨.bool, [.bool], [], 1⟩),
  (5, ⟨.int .u8, [.int .u8], [], 1⟩),
  (9, ⟨.str, [.str], [], 16⟩),
  (22, ⟨.slice 57, [.slice 57], [], 24⟩),
  (23, ⟨.slice 3, [.slice 3], [], 24⟩),
  (24, ⟨.slice 54, [.slice 54], [], 24⟩),
  (26, ⟨.agg 26, [.slice 57, .slice 3, .slice 54], [(0, 22), (1, 23), (2, 24)], 72⟩),
  (27, ⟨.int .i64, [.int .i64], [], 8⟩),
  (38, ⟨.slice 9, [.slice 9], [], 24⟩),
  (54, ⟨.agg 54, [.str, .slice 3, .slice 3], [(0, 9), (1, 23), (2, 23)], 64⟩),
  (57, ⟨.agg 57, [.str, .str, .str], [(0, 9), (1, 9), (2, 9)], 48⟩),
  (64, ⟨.ptr, [.ptr], [], 8⟩),
  (90, ⟨.ptr, [.ptr], [], 8⟩),
  (91, ⟨.slice 5, [.slice 5], [], 24⟩),
  (93, ⟨.agg 93, [.ptr, .slice 5], [(0, 90), (1, 91)], 32⟩)]
/-- masthead/mastlaw1.ShipReads -/
def sig4 : Sig := ⟨[.val (.str)], [.val (.bool)], false⟩
def ann4 : List (Nat × Norm) := [(3, { frz := [5, 3] })]
/-- masthead/ship.ReadIndex -/
def sig10 : Sig := ⟨[.val (.str)], [.val (.agg 26), .val (.int .i64)], false⟩
def ann10 : List (Nat × Norm) := [(6, { keep := some [(0, .asis), (2, .asis), (4, .asis)], rows := [(2, 0, 57), (2, 1, 3), (2, 2, 54), (4, 0, 57), (4, 1, 3), (4, 2, 54)] }), (14, { keep := some [(0, .asis), (2, .asis), (4, .asis), (8, .asis)], rows := [(2, 0, 57), (2, 1, 3), (2, 2, 54), (4, 0, 57), (4, 1, 3), (4, 2, 54)], cut := true }), (16, { frz := [4] }), (19, { frz := [4] })]
/-- masthead/mastref1.IndexRead -/
def sig11 : Sig := ⟨[.val (.str)], [.val (.agg 26), .val (.int .i64)], false⟩
def ann11 : List (Nat × Norm) := [(7, { keep := some [(2, .asis), (4, .asis), (34, .dat 9), (35, .asis), (36, .asis)], rows := [(2, 0, 57), (2, 1, 3), (2, 2, 54), (4, 0, 57), (4, 1, 3), (4, 2, 54)] }), (21, { keep := some [(2, .asis), (4, .asis), (7, .asis), (11, .asis), (34, .dat 9), (35, .asis), (36, .asis), (102, .dat 9), (103, .asis), (104, .asis)], rows := [(2, 0, 57), (2, 1, 3), (2, 2, 54), (4, 0, 57), (4, 1, 3), (4, 2, 54), (11, 1, 3), (11, 2, 3)] }), (32, { keep := some [(2, .asis), (4, .asis), (7, .asis), (34, .dat 9), (35, .asis), (36, .asis)], rows := [(2, 0, 57), (2, 1, 3), (2, 2, 54), (4, 0, 57), (4, 1, 3), (4, 2, 54)], cut := true }), (31, { frz := [11] }), (35, { frz := [4] }), (38, { frz := [4] })]
/-- masthead/mastlaw1.sameIndex -/
def sig12 : Sig := ⟨[.val (.agg 26), .val (.agg 26)], [.val (.bool)], false⟩
def ann12 : List (Nat × Norm) := [(4, { keep := some [(3, .asis), (32, .dat 54), (33, .asis), (34, .asis)], rows := [(3, 0, 57), (3, 1, 3), (3, 2, 54)] })]
/-- strings.HasSuffix -/
def sig27 : Sig := ⟨[.val (.str), .val (.str)], [.val (.bool)], false⟩
def ann27 : List (Nat × Norm) := []
/-- strings.Cut -/
def sig28 : Sig := ⟨[.val (.str), .val (.str)], [.val (.str), .val (.str), .val (.bool)], false⟩
def ann28 : List (Nat × Norm) := []
/-- strings.HasPrefix -/
def sig29 : Sig := ⟨[.val (.str), .val (.str)], [.val (.bool)], false⟩
def ann29 : List (Nat × Norm) := []
/-- masthead/ship.readDoc -/
def sig30 : Sig := ⟨[.box 26 [.row 57, .row 3, .row 54], .val (.str)], [.val (.bool)], false⟩
def ann30 : List (Nat × Norm) := []
/-- masthead/ship.readTerm -/
def sig31 : Sig := ⟨[.box 26 [.row 57, .row 3, .row 54], .val (.str)], [.val (.bool)], false⟩
def ann31 : List (Nat × Norm) := [(4, { keep := some [(0, .asis), (6, .asis), (23, .dat 9), (24, .asis), (25, .asis)], rows := [(0, 0, 57), (0, 1, 3), (0, 2, 54), (6, 1, 3), (6, 2, 3)] }), (13, { frz := [6] })]
/-- masthead/ship.indexFault -/
def sig20 : Sig := ⟨[.val (.agg 26)], [.val (.int .i64)], false⟩
def ann20 : List (Nat × Norm) := [(5, { keep := some [(1, .asis), (14, .dat 54), (15, .asis), (16, .asis)], rows := [(1, 0, 57), (1, 1, 3), (1, 2, 54)] }), (1, { frz := [1] }), (12, { frz := [5] }), (16, { frz := [1] })]
/-- masthead/mastref1.LinesOf -/
def sig32 : Sig := ⟨[.val (.str)], [.val (.slice 9)], false⟩
def ann32 : List (Nat × Norm) := []
/-- strings.SplitN -/
def sig33 : Sig := ⟨[.val (.str), .val (.str), .val (.int .i64)], [.val (.slice 9)], false⟩
def ann33 : List (Nat × Norm) := []
/-- masthead/mastref1.natural -/
def sig34 : Sig := ⟨[.val (.str)], [.val (.int .i64), .val (.bool)], false⟩
def ann34 : List (Nat × Norm) := [(5, { keep := some [(0, .asis), (4, .asis), (5, .asis)] })]
/-- strings.Split -/
def sig35 : Sig := ⟨[.val (.str), .val (.str)], [.val (.slice 9)], false⟩
def ann35 : List (Nat × Norm) := []
/-- masthead/mastref1.IndexError -/
def sig8 : Sig := ⟨[.val (.agg 26)], [.val (.int .i64)], false⟩
def ann8 : List (Nat × Norm) := [(7, { keep := some [(1, .asis), (25, .dat 3), (26, .asis), (27, .asis)], rows := [(1, 0, 57), (1, 1, 3), (1, 2, 54)] }), (13, { keep := some [(1, .asis), (36, .dat 54), (37, .asis), (38, .asis)], rows := [(1, 0, 57), (1, 1, 3), (1, 2, 54)] }), (23, { keep := some [(1, .asis), (7, .asis), (36, .dat 54), (37, .asis), (38, .asis), (85, .dat 3), (86, .asis), (87, .asis)], rows := [(1, 0, 57), (1, 1, 3), (1, 2, 54), (7, 1, 3), (7, 2, 3)] }), (33, { frz := [1] })]
/-- slices.Equal[[]masthead/ship.Doc,masthead/ship.Doc] -/
def sig37 : Sig := ⟨[.val (.slice 57), .val (.slice 57)], [.val (.bool)], false⟩
def ann37 : List (Nat × Norm) := [(4, { keep := some [(0, .dat 57), (1, .dat 57), (12, .asis), (13, .asis)] })]
/-- slices.Equal[[]int,int] -/
def sig38 : Sig := ⟨[.val (.slice 3), .val (.slice 3)], [.val (.bool)], false⟩
def ann38 : List (Nat × Norm) := [(4, { keep := some [(0, .dat 3), (1, .dat 3), (12, .asis), (13, .asis)] })]
/-- internal/stringslite.HasSuffix -/
def sig62 : Sig := ⟨[.val (.str), .val (.str)], [.val (.bool)], false⟩
def ann62 : List (Nat × Norm) := []
/-- internal/stringslite.Cut -/
def sig63 : Sig := ⟨[.val (.str), .val (.str)], [.val (.str), .val (.str), .val (.bool)], false⟩
def ann63 : List (Nat × Norm) := []
/-- internal/stringslite.HasPrefix -/
def sig64 : Sig := ⟨[.val (.str), .val (.str)], [.val (.bool)], false⟩
def ann64 : List (Nat × Norm) := []
/-- masthead/ship.cutAt -/
def sig65 : Sig := ⟨[.val (.str), .val (.int .u8)], [.val (.str), .val (.str)], false⟩
def ann65 : List (Nat × Norm) := []
/-- masthead/ship.small -/
def sig66 : Sig := ⟨[.val (.str)], [.val (.int .i64), .val (.bool)], false⟩
def ann66 : List (Nat × Norm) := [(5, { keep := some [(0, .asis), (4, .asis), (5, .asis)] })]
/-- masthead/ship.docsFault -/
def sig50 : Sig := ⟨[.val (.agg 26)], [.val (.int .i64)], false⟩
def ann50 : List (Nat × Norm) := [(4, { keep := some [(1, .asis), (14, .dat 57), (15, .asis), (16, .asis)], rows := [(1, 0, 57), (1, 1, 3), (1, 2, 54)] }), (19, { keep := some [(63, .dat 3), (64, .asis), (65, .asis)] })]
/-- masthead/ship.Words -/
def sig51 : Sig := ⟨[.val (.str)], [.val (.slice 9)], false⟩
def ann51 : List (Nat × Norm) := [(3, { keep := some [(0, .asis), (3, .own 9), (4, .asis)] }), (5, { keep := some [(0, .asis), (3, .own 9), (4, .asis), (5, .asis)] })]
/-- masthead/ship.termFault -/
def sig52 : Sig := ⟨[.val (.agg 54), .val (.int .i64)], [.val (.int .i64)], false⟩
def ann52 : List (Nat × Norm) := [(4, { keep := some [(1, .asis), (2, .asis), (21, .dat 3), (22, .asis), (23, .asis)], rows := [(2, 1, 3), (2, 2, 3)] })]
/-- masthead/ship.indexText -/
def sig21 : Sig := ⟨[.val (.agg 26)], [.val (.str)], false⟩
def ann21 : List (Nat × Norm) := [(3, { keep := some [(1, .asis), (3, .asis), (11, .dat 57), (12, .asis), (13, .asis)], rows := [(1, 0, 57), (1, 1, 3), (1, 2, 54), (3, 1, 5)] }), (8, { keep := some [(3, .asis), (37, .dat 54), (38, .asis), (39, .asis)], rows := [(3, 1, 5)] }), (12, { keep := some [(3, .asis), (7, .asis), (37, .dat 54), (38, .asis), (39, .asis), (48, .dat 3), (49, .asis), (50, .asis)], rows := [(3, 1, 5), (7, 1, 3), (7, 2, 3)] })]
/-- strings.genSplit -/
def sig67 : Sig := ⟨[.val (.str), .val (.str), .val (.int .i64), .val (.int .i64)], [.val (.slice 9)], false⟩
def ann67 : List (Nat × Norm) := [(7, { keep := some [(0, .asis), (1, .asis), (2, .asis), (3, .asis)], cut := true }), (11, { keep := some [(0, .asis), (1, .asis), (2, .asis), (3, .asis), (9, .own 9), (10, .asis)] })]
/-- masthead/mastref1.isDigit -/
def sig58 : Sig := ⟨[.val (.int .u8)], [.val (.bool)], false⟩
def ann58 : List (Nat × Norm) := []
/-- masthead/mastref1.docsError -/
def sig22 : Sig := ⟨[.val (.slice 57), .val (.bool)], [.val (.int .i64)], false⟩
def ann22 : List (Nat × Norm) := [(4, { keep := some [(0, .dat 57), (1, .asis), (12, .dat 57), (13, .asis), (14, .asis)] })]
/-- masthead/mastref1.inRange -/
def sig23 : Sig := ⟨[.val (.int .i64), .val (.int .i64)], [.val (.bool)], false⟩
def ann23 : List (Nat × Norm) := []
/-- masthead/mastref1.WordsIn -/
def sig24 : Sig := ⟨[.val (.str)], [.val (.slice 9)], false⟩
def ann24 : List (Nat × Norm) := [(4, { keep := some [(0, .asis), (3, .own 9), (4, .asis), (5, .asis)] })]
/-- masthead/mastref1.IndexBytes -/
def sig9 : Sig := ⟨[.val (.agg 26)], [.val (.str)], false⟩
def ann9 : List (Nat × Norm) := [(3, { keep := some [(1, .asis), (3, .own 9), (11, .dat 57), (12, .asis), (13, .asis)], rows := [(1, 0, 57), (1, 1, 3), (1, 2, 54)] }), (8, { keep := some [(3, .own 9), (39, .dat 54), (40, .asis), (41, .asis)] }), (12, { keep := some [(3, .own 9), (7, .asis), (39, .dat 54), (40, .asis), (41, .asis), (52, .dat 3), (53, .asis), (54, .asis)], rows := [(7, 1, 3), (7, 2, 3)] }), (18, { frz := [3] })]
/-- masthead/ship.isDigit -/
def sig90 : Sig := ⟨[.val (.int .u8)], [.val (.bool)], false⟩
def ann90 : List (Nat × Norm) := []
/-- masthead/ship.Path -/
def sig87 : Sig := ⟨[.val (.str)], [.val (.str), .val (.int .i64)], false⟩
def ann87 : List (Nat × Norm) := []
/-- masthead/ship.control -/
def sig88 : Sig := ⟨[.val (.str)], [.val (.bool)], false⟩
def ann88 : List (Nat × Norm) := [(2, { keep := some [(0, .asis), (3, .asis)] })]
/-- masthead/ship.isLetter -/
def sig89 : Sig := ⟨[.val (.int .u8)], [.val (.bool)], false⟩
def ann89 : List (Nat × Norm) := []
/-- masthead/ship.lower -/
def sig91 : Sig := ⟨[.val (.str)], [.val (.str)], false⟩
def ann91 : List (Nat × Norm) := [(3, { keep := some [(3, .asis), (8, .asis), (9, .asis), (10, .asis)] })]
/-- (*strings.Builder).WriteString -/
def sig53 : Sig := ⟨[.box 93 [.self, .row 5], .val (.str)], [.val (.int .i64), .any], false⟩
def ann53 : List (Nat × Norm) := []
/-- masthead/mastref1.PathOf -/
def sig55 : Sig := ⟨[.val (.str)], [.val (.str), .val (.int .i64)], false⟩
def ann55 : List (Nat × Norm) := []
/-- masthead/mastref1.badBytes -/
def sig56 : Sig := ⟨[.val (.str), .val (.bool), .val (.bool)], [.val (.bool)], false⟩
def ann56 : List (Nat × Norm) := [(2, { keep := some [(0, .asis), (1, .asis), (2, .asis), (7, .asis)] })]
/-- masthead/mastref1.isLetter -/
def sig57 : Sig := ⟨[.val (.int .u8)], [.val (.bool)], false⟩
def ann57 : List (Nat × Norm) := []
/-- masthead/mastref1.lower -/
def sig59 : Sig := ⟨[.val (.str)], [.val (.str)], false⟩
def ann59 : List (Nat × Norm) := [(3, { keep := some [(3, .asis), (8, .asis), (9, .asis), (10, .asis)] })]
/-- masthead/ship.isPath -/
def sig69 : Sig := ⟨[.val (.str)], [.val (.bool)], false⟩
def ann69 : List (Nat × Norm) := [(4, { keep := some [(9, .dat 9), (10, .asis), (11, .asis)] })]
/-- masthead/mastref1.IsPath -/
def sig43 : Sig := ⟨[.val (.str)], [.val (.bool)], false⟩
def ann43 : List (Nat × Norm) := [(4, { keep := some [(14, .dat 9), (15, .asis), (16, .asis)] })]
/-- masthead/ship.isPart -/
def sig100 : Sig := ⟨[.val (.str)], [.val (.bool)], false⟩
def ann100 : List (Nat × Norm) := [(4, { keep := some [(0, .asis), (3, .asis)] })]
/-- masthead/mastref1.pathPart -/
def sig72 : Sig := ⟨[.val (.str)], [.val (.bool)], false⟩
def ann72 : List (Nat × Norm) := [(4, { keep := some [(0, .asis), (3, .asis)] })]
/-- masthead/mastref1.wordByte -/
def sig104 : Sig := ⟨[.val (.int .u8)], [.val (.bool)], false⟩
def ann104 : List (Nat × Norm) := []
def sig25 : Sig := ⟨[.val (.int .i64)], [.val .str], false⟩
def sig26 : Sig := ⟨[.val (.slice 9), .val .str], [.val .str], false⟩
def sig54 : Sig := ⟨[.box 93 [.self, .row 5]], [.val .str], true⟩
def sig92 : Sig := ⟨[.box 93 [.self, .row 5]], [], false⟩
def sig98 : Sig := ⟨[.val .str, .val .str], [.val (.int .i64)], false⟩
def sig97 : Sig := ⟨[.val .str, .val .str], [.val (.int .i64)], false⟩
def sig95 : Sig := ⟨[.val .str, .val .str], [.val (.int .i64)], false⟩
def sig36 : Sig := ⟨[.val .str, .val (.int .u8)], [.val (.int .i64)], false⟩
def sig96 : Sig := ⟨[.val .str, .val (.int .i64)], [.val (.slice 9)], false⟩
noncomputable def E : Env := { tt := tt, fns := [(4, Tryd.f4), (10, Tryd.f10), (11, Tryd.f11), (12, Tryd.f12), (27, Tryd.f27), (28, Tryd.f28), (29, Tryd.f29), (30, Tryd.f30), (31, Tryd.f31), (20, Tryd.f20), (32, Tryd.f32), (33, Tryd.f33), (34, Tryd.f34), (35, Tryd.f35), (8, Tryd.f8), (37, Tryd.f37), (38, Tryd.f38), (62, Tryd.f62), (63, Tryd.f63), (64, Tryd.f64), (65, Tryd.f65), (66, Tryd.f66), (50, Tryd.f50), (51, Tryd.f51), (52, Tryd.f52), (21, Tryd.f21), (67, Tryd.f67), (58, Tryd.f58), (22, Tryd.f22), (23, Tryd.f23), (24, Tryd.f24), (9, Tryd.f9), (90, Tryd.f90), (87, Tryd.f87), (88, Tryd.f88), (89, Tryd.f89), (91, Tryd.f91), (53, Tryd.f53), (55, Tryd.f55), (56, Tryd.f56), (57, Tryd.f57), (59, Tryd.f59), (69, Tryd.f69), (43, Tryd.f43), (100, Tryd.f100), (72, Tryd.f72), (104, Tryd.f104)], sigs := [(4, sig4), (10, sig10), (11, sig11), (12, sig12), (27, sig27), (28, sig28), (29, sig29), (30, sig30), (31, sig31), (20, sig20), (32, sig32), (33, sig33), (34, sig34), (35, sig35), (8, sig8), (37, sig37), (38, sig38), (62, sig62), (63, sig63), (64, sig64), (65, sig65), (66, sig66), (50, sig50), (51, sig51), (52, sig52), (21, sig21), (67, sig67), (58, sig58), (22, sig22), (23, sig23), (24, sig24), (9, sig9), (90, sig90), (87, sig87), (88, sig88), (89, sig89), (91, sig91), (53, sig53), (55, sig55), (56, sig56), (57, sig57), (59, sig59), (69, sig69), (43, sig43), (100, sig100), (72, sig72), (104, sig104), (25, sig25), (26, sig26), (54, sig54), (92, sig92), (98, sig98), (97, sig97), (95, sig95), (36, sig36), (96, sig96)], ext := [(25, xItoa), (26, xJoin), (54, xString), (92, xCheck), (98, xIndex1), (97, xCount1), (95, xIndex1), (36, xIndexByte), (96, xNone)], ann := [(4, ann4), (10, ann10), (11, ann11), (12, ann12), (27, ann27), (28, ann28), (29, ann29), (30, ann30), (31, ann31), (20, ann20), (32, ann32), (33, ann33), (34, ann34), (35, ann35), (8, ann8), (37, ann37), (38, ann38), (62, ann62), (63, ann63), (64, ann64), (65, ann65), (66, ann66), (50, ann50), (51, ann51), (52, ann52), (21, ann21), (67, ann67), (58, ann58), (22, ann22), (23, ann23), (24, ann24), (9, ann9), (90, ann90), (87, ann87), (88, ann88), (89, ann89), (91, ann91), (53, ann53), (55, ann55), (56, ann56), (57, ann57), (59, ann59), (69, ann69), (43, ann43), (100, ann100), (72, ann72), (104, ann104)] }
theorem tt_all : ttB Tryd.prog tt tt = true := by kernel_rfl
theorem fns_ok : FnsOK Tryd.prog E E.fns := ⟨⟨Tryd.func4, by kernel_rfl⟩, ⟨Tryd.func10, by kernel_rfl⟩, ⟨Tryd.func11, by kernel_rfl⟩, ⟨Tryd.func12, by kernel_rfl⟩, ⟨Tryd.func27, by kernel_rfl⟩, ⟨Tryd.func28, by kernel_rfl⟩, ⟨Tryd.func29, by kernel_rfl⟩, ⟨Tryd.func30, by kernel_rfl⟩, ⟨Tryd.func31, by kernel_rfl⟩, ⟨Tryd.func20, by kernel_rfl⟩, ⟨Tryd.func32, by kernel_rfl⟩, ⟨Tryd.func33, by kernel_rfl⟩, ⟨Tryd.func34, by kernel_rfl⟩, ⟨Tryd.func35, by kernel_rfl⟩, ⟨Tryd.func8, by kernel_rfl⟩, ⟨Tryd.func37, by kernel_rfl⟩, ⟨Tryd.func38, by kernel_rfl⟩, ⟨Tryd.func62, by kernel_rfl⟩, ⟨Tryd.func63, by kernel_rfl⟩, ⟨Tryd.func64, by kernel_rfl⟩, ⟨Tryd.func65, by kernel_rfl⟩, ⟨Tryd.func66, by kernel_rfl⟩, ⟨Tryd.func50, by kernel_rfl⟩, ⟨Tryd.func51, by kernel_rfl⟩, ⟨Tryd.func52, by kernel_rfl⟩, ⟨Tryd.func21, by kernel_rfl⟩, ⟨Tryd.func67, by kernel_rfl⟩, ⟨Tryd.func58, by kernel_rfl⟩, ⟨Tryd.func22, by kernel_rfl⟩, ⟨Tryd.func23, by kernel_rfl⟩, ⟨Tryd.func24, by kernel_rfl⟩, ⟨Tryd.func9, by kernel_rfl⟩, ⟨Tryd.func90, by kernel_rfl⟩, ⟨Tryd.func87, by kernel_rfl⟩, ⟨Tryd.func88, by kernel_rfl⟩, ⟨Tryd.func89, by kernel_rfl⟩, ⟨Tryd.func91, by kernel_rfl⟩, ⟨Tryd.func53, by kernel_rfl⟩, ⟨Tryd.func55, by kernel_rfl⟩, ⟨Tryd.func56, by kernel_rfl⟩, ⟨Tryd.func57, by kernel_rfl⟩, ⟨Tryd.func59, by kernel_rfl⟩, ⟨Tryd.func69, by kernel_rfl⟩, ⟨Tryd.func43, by kernel_rfl⟩, ⟨Tryd.func100, by kernel_rfl⟩, ⟨Tryd.func72, by kernel_rfl⟩, ⟨Tryd.func104, by kernel_rfl⟩, trivial⟩
theorem mixed : Tryd.prog.follows .mixedOrders = true := by kernel_rfl
theorem exts_ok (W0 : World) (ht : Lib.TabIs Tryd.prog W0 "internal/strconv.uint64pow10" .u64 Lib.pow10Tab) : ExtsOK Tryd.prog E W0 E.ext := ⟨
  extItoa (c := (Tryd.f25.body).getD .skip) Tryd.func25 (by kernel_rfl) (by kernel_rfl) (by kernel_rfl) Tryd.strconv_Itoa ht,
  extJoin (c := (Tryd.f26.body).getD .skip) (e := 9) (ti := ⟨.str, [.str], [], 16⟩) Tryd.func26 (by kernel_rfl) (by kernel_rfl) (by kernel_rfl) (by kernel_rfl) rfl rfl Tryd.strings_Join_none Tryd.strings_Join,
  extString (f := 54) (t := 93) (e := 5) (ti := ⟨.agg 93, [.ptr, .slice 5], [(0, 90), (1, 91)], 32⟩) (ei := ⟨.int .u8, [.int .u8], [], 1⟩) (c := (Tryd.f54.body).getD .skip) Tryd.lays169 Tryd.Builder_Extra_169 rfl rfl rfl Tryd.func54 (by kernel_rfl) (by kernel_rfl) (by kernel_rfl) (by kernel_rfl) (by kernel_rfl) (by kernel_rfl) (by kernel_rfl) (by kernel_rfl),
  extCheck (f := 92) (t := 93) (e := 5) (ti := ⟨.agg 93, [.ptr, .slice 5], [(0, 90), (1, 91)], 32⟩) (ei := ⟨.int .u8, [.int .u8], [], 1⟩) (c := (Tryd.f92.body).getD .skip) Tryd.func92 (by kernel_rfl) (by kernel_rfl) (by kernel_rfl) (by kernel_rfl) (by kernel_rfl) (by decide) (by kernel_rfl)
    (fun b w h => Any.Builder_copyCheck_used { Tryd.lays156 with } Tryd.Builder_Extra_156.toX72 b w h) (fun b w h1 h2 h3 => Any.Builder_copyCheck_fresh { Tryd.lays156 with } Tryd.Builder_Extra_156.toX72 b w h1 h2 h3),
  extIndex1 (c := (Tryd.f98.body).getD .skip) Tryd.func98 (by kernel_rfl) (by kernel_rfl) (by kernel_rfl) Tryd.strings_Index_one,
  extCount1 (c := (Tryd.f97.body).getD .skip) Tryd.func97 (by kernel_rfl) (by kernel_rfl) (by kernel_rfl) Tryd.strings_Count_one,
  extIndex1 (c := (Tryd.f95.body).getD .skip) Tryd.func95 (by kernel_rfl) (by kernel_rfl) (by kernel_rfl) Tryd.stringslite_Index_one,
  extIndexByte (c := (Tryd.f36.body).getD .skip) Tryd.func36 (by kernel_rfl) (by kernel_rfl) (by kernel_rfl) Tryd.strings_IndexByte,
  extNone, trivial⟩
theorem env (W0 : World) (ht : Lib.TabIs Tryd.prog W0 "internal/strconv.uint64pow10" .u64 Lib.pow10Tab) : EnvOK Tryd.prog E W0 := ⟨mixed, (tt_ok tt_all).1, fun f fn h => fns_of fns_ok f fn h, fun f g h => exts_of (exts_ok W0 ht) f g h⟩
end Go.Proofs.YtefclcihphpejaaDoor.rd
