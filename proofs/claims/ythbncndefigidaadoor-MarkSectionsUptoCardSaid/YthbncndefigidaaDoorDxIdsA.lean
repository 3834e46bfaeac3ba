/- A part of the proof. -/
import Derived.Test.YthbncndefigidaaDoorF7
import Derived.Test.YthbncndefigidaaDoorChecked
import Derived.Test.YthbncndefigidaaDoorRows
import Derived.WalkKit
import Derived.ProofKit
import Derived.Test.YthbncndefigidaaDoorDxMdS
set_option linter.unusedVariables false
set_option linter.unusedSimpArgs false
namespace Go.Proofs.YthbncndefigidaaDoor.md
open Go.Proofs.YthbncndefigidaaDoor.DS

def tt : TT := [(3, ⟨.int .i64, [.int .i64], [], 8⟩),
  (4, ⟨.bool, [.bool], [], 1⟩),
  (5, ⟨.int .u8, [.int .u8], [], 1⟩),
  (9, ⟨.str, [.str], [], 16⟩),
  (24, ⟨.slice 33, [.slice 33], [], 24⟩),
  (25, ⟨.int .i64, [.int .i64], [], 8⟩),
  (30, ⟨.slice 35, [.slice 35], [], 24⟩),
  (33, ⟨.agg 33, [.int .i64, .int .i64, .str, .str, .str, .slice 33], [(0, 3), (1, 3), (2, 9), (3, 9), (4, 9), (5, 24)], 88⟩),
  (35, ⟨.agg 35, [.int .i64, .str, .str], [(0, 3), (1, 9), (2, 9)], 40⟩),
  (38, ⟨.slice 9, [.slice 9], [], 24⟩),
  (46, ⟨.slice 5, [.slice 5], [], 24⟩),
  (65, ⟨.ptr, [.ptr], [], 8⟩),
  (69, ⟨.map, [.map], [(0, 9), (0, 4)], 8⟩),
  (70, ⟨.map, [.map], [(0, 9), (0, 3)], 8⟩)]
/-- masthead/mastlaw1.MarkIds -/
def sig6 : Sig := ⟨[.val (.slice 33)], [.val (.bool)], false⟩
def ann6 : List (Nat × Norm) := [(1, { frz := [0] }), (2, { frz := [0] }), (6, { frz := [0] }), (7, { frz := [8] })]
/-- masthead/mastlaw1.MarkSections -/
def sig5 : Sig := ⟨[.val (.slice 33), .val (.str)], [.val (.bool)], false⟩
def ann5 : List (Nat × Norm) := [(7, { keep := some [(0, .dat 33), (1, .asis), (5, .dat 33), (6, .asis), (8, .dat 35), (33, .dat 33), (34, .asis), (35, .asis)] }), (12, { keep := some [(0, .dat 33), (5, .dat 33), (6, .asis), (9, .asis), (10, .asis), (12, .asis)] }), (1, { frz := [0] }), (5, { frz := [0] })]
/-- masthead/mark.Ids -/
def sig16 : Sig := ⟨[.val (.slice 33)], [.val (.slice 9), .val (.int .i64)], false⟩
def ann16 : List (Nat × Norm) := [(4, { frz := [0] })]
/-- masthead/mark.Contents -/
def sig17 : Sig := ⟨[.val (.slice 33)], [.val (.slice 35), .val (.int .i64)], false⟩
def ann17 : List (Nat × Norm) := [(7, { keep := some [(5, .dat 9), (6, .own 35), (17, .dat 33), (18, .asis), (19, .asis)] }), (4, { frz := [0] }), (6, { frz := [0] })]
/-- masthead/mastref1.DocError -/
def sig10 : Sig := ⟨[.val (.slice 33)], [.val (.int .i64)], false⟩
def ann10 : List (Nat × Norm) := []
/-- masthead/mastref1.EntriesOf -/
def sig14 : Sig := ⟨[.val (.slice 33)], [.val (.slice 35)], false⟩
def ann14 : List (Nat × Norm) := [(3, { keep := some [(3, .own 35), (11, .dat 33), (12, .asis), (13, .asis)] }), (9, { keep := some [(3, .own 35), (5, .asis), (6, .asis), (7, .asis), (11, .dat 33), (12, .asis), (13, .asis)], cut := true }), (11, { keep := some [(3, .own 35), (5, .asis), (6, .asis), (7, .asis), (8, .asis), (9, .asis), (11, .dat 33), (12, .asis), (13, .asis)] }), (2, { frz := [0] })]
/-- slices.Equal[[]masthead/mark.Entry,masthead/mark.Entry] -/
def sig18 : Sig := ⟨[.val (.slice 35), .val (.slice 35)], [.val (.bool)], false⟩
def ann18 : List (Nat × Norm) := [(4, { keep := some [(0, .dat 35), (1, .dat 35), (12, .asis), (13, .asis)] })]
/-- masthead/mastref1.IdsOf -/
def sig20 : Sig := ⟨[.val (.slice 35)], [.val (.slice 9)], false⟩
def ann20 : List (Nat × Norm) := [(3, { keep := some [(3, .own 9), (6, .dat 35), (7, .asis), (8, .asis)] })]
/-- slices.Equal[[]string,string] -/
def sig19 : Sig := ⟨[.val (.slice 9), .val (.slice 9)], [.val (.bool)], false⟩
def ann19 : List (Nat × Norm) := [(4, { keep := some [(0, .dat 9), (1, .dat 9), (12, .asis), (13, .asis)] })]
/-- masthead/mark.Section -/
def sig13 : Sig := ⟨[.val (.slice 33), .val (.str)], [.val (.slice 33), .val (.int .i64)], false⟩
def ann13 : List (Nat × Norm) := [(6, { keep := some [(0, .dat 33), (1, .asis), (7, .dat 9), (19, .dat 33), (20, .asis), (21, .asis)] }), (11, { keep := some [(0, .dat 33), (8, .asis), (9, .asis), (11, .asis)] }), (4, { frz := [0] })]
/-- masthead/mastref1.SameDoc -/
def sig15 : Sig := ⟨[.val (.slice 33), .val (.slice 33)], [.val (.bool)], false⟩
def ann15 : List (Nat × Norm) := [(4, { keep := some [(0, .dat 33), (1, .dat 33), (14, .asis), (15, .asis)] })]
/-- masthead/mark.Check -/
def sig9 : Sig := ⟨[.val (.slice 33)], [.val (.int .i64)], false⟩
def ann9 : List (Nat × Norm) := []
/-- masthead/mark.ids -/
def sig34 : Sig := ⟨[.val (.slice 33)], [.val (.slice 9)], false⟩
def ann34 : List (Nat × Norm) := [(5, { keep := some [(3, .asis), (4, .asis), (5, .own 9), (13, .dat 33), (14, .asis), (15, .asis)] }), (10, { keep := some [(3, .asis), (4, .asis), (5, .own 9), (8, .asis), (13, .dat 33), (14, .asis), (15, .asis)], cut := true }), (12, { keep := some [(3, .asis), (4, .asis), (5, .own 9), (8, .asis), (9, .asis), (13, .dat 33), (14, .asis), (15, .asis)] }), (4, { frz := [0] })]
/-- masthead/mark.headings -/
def sig35 : Sig := ⟨[.val (.slice 33)], [.val (.slice 33)], false⟩
def ann35 : List (Nat × Norm) := [(3, { keep := some [(3, .own 33), (6, .dat 33), (7, .asis), (8, .asis)] })]
/-- masthead/mark.plainLine -/
def sig41 : Sig := ⟨[.val (.agg 33)], [.val (.str)], false⟩
def ann41 : List (Nat × Norm) := []
/-- masthead/mastref1.Nodes -/
def sig29 : Sig := ⟨[.val (.slice 33)], [.val (.int .i64)], false⟩
def ann29 : List (Nat × Norm) := [(3, { keep := some [(3, .asis), (8, .dat 33), (9, .asis), (10, .asis)] })]
/-- masthead/mastref1.deep -/
def sig30 : Sig := ⟨[.val (.slice 33), .val (.int .i64), .val (.int .i64)], [.val (.bool)], false⟩
def ann30 : List (Nat × Norm) := [(2, { keep := some [(1, .asis), (2, .asis), (11, .dat 33), (12, .asis), (13, .asis)] })]
/-- masthead/mastref1.nodesError -/
def sig31 : Sig := ⟨[.val (.slice 33), .val (.int .i64)], [.val (.int .i64)], false⟩
def ann31 : List (Nat × Norm) := [(2, { keep := some [(1, .asis), (9, .dat 33), (10, .asis), (11, .asis)] })]
/-- masthead/mastref1.headings -/
def sig37 : Sig := ⟨[.val (.slice 33)], [.val (.slice 33)], false⟩
def ann37 : List (Nat × Norm) := [(3, { keep := some [(3, .own 33), (6, .dat 33), (7, .asis), (8, .asis)] })]
/-- masthead/mastref1.PlainOf -/
def sig38 : Sig := ⟨[.val (.slice 33)], [.val (.str)], false⟩
def ann38 : List (Nat × Norm) := [(3, { keep := some [(3, .asis), (6, .dat 33), (7, .asis), (8, .asis)] })]
/-- masthead/mastref1.SlugOf -/
def sig8 : Sig := ⟨[.val (.str)], [.val (.str)], false⟩
def ann8 : List (Nat × Norm) := [(3, { keep := some [(0, .asis), (3, .asis), (4, .asis)] })]
/-- masthead/mastref1.taken -/
def sig39 : Sig := ⟨[.val (.slice 35), .val (.str)], [.val (.bool)], false⟩
def ann39 : List (Nat × Norm) := [(2, { keep := some [(1, .asis), (7, .dat 35), (8, .asis), (9, .asis)] })]
/-- masthead/mark.clone -/
def sig36 : Sig := ⟨[.val (.slice 33)], [.val (.slice 33)], false⟩
def ann36 : List (Nat × Norm) := [(3, { keep := some [(3, .own 33), (6, .dat 33), (7, .asis), (8, .asis)] })]
/-- masthead/mark.count -/
def sig26 : Sig := ⟨[.val (.slice 33)], [.val (.int .i64)], false⟩
def ann26 : List (Nat × Norm) := [(3, { keep := some [(0, .dat 33), (3, .asis), (6, .asis), (7, .asis)] })]
/-- masthead/mark.tooDeep -/
def sig27 : Sig := ⟨[.val (.slice 33), .val (.int .i64), .val (.int .i64)], [.val (.bool)], false⟩
def ann27 : List (Nat × Norm) := [(2, { keep := some [(0, .dat 33), (1, .asis), (2, .asis), (11, .asis), (12, .asis)] })]
/-- masthead/mark.nodesFault -/
def sig28 : Sig := ⟨[.val (.slice 33), .val (.int .i64)], [.val (.int .i64)], false⟩
def ann28 : List (Nat × Norm) := [(2, { keep := some [(1, .asis), (9, .dat 33), (10, .asis), (11, .asis)] })]
/-- masthead/mark.Slug -/
def sig7 : Sig := ⟨[.val (.str)], [.val (.str)], false⟩
def ann7 : List (Nat × Norm) := [(3, { keep := some [(0, .asis), (3, .own 5), (4, .asis)] }), (8, { keep := some [(0, .asis), (3, .own 5), (4, .asis), (5, .asis)], cut := true })]
/-- masthead/mark.plainInto -/
def sig59 : Sig := ⟨[.own 5, .val (.slice 33)], [.own 5], false⟩
def ann59 : List (Nat × Norm) := [(2, { keep := some [(0, .own 5), (7, .dat 33), (8, .asis), (9, .asis)] }), (16, { keep := some [(0, .own 5), (6, .asis), (7, .dat 33), (8, .asis), (9, .asis)], cut := true })]
/-- masthead/mastref1.isInline -/
def sig52 : Sig := ⟨[.val (.int .i64)], [.val (.bool)], false⟩
def ann52 : List (Nat × Norm) := []
/-- masthead/mastref1.nodeError -/
def sig53 : Sig := ⟨[.val (.agg 33), .val (.int .i64)], [.val (.int .i64)], false⟩
def ann53 : List (Nat × Norm) := []
/-- masthead/mastref1.isBlock -/
def sig57 : Sig := ⟨[.val (.int .i64)], [.val (.bool)], false⟩
def ann57 : List (Nat × Norm) := []
/-- masthead/mastref1.lower -/
def sig22 : Sig := ⟨[.val (.str)], [.val (.str)], false⟩
def ann22 : List (Nat × Norm) := [(3, { keep := some [(3, .asis), (8, .asis), (9, .asis), (10, .asis)] })]
/-- masthead/mastref1.isDigit -/
def sig23 : Sig := ⟨[.val (.int .u8)], [.val (.bool)], false⟩
def ann23 : List (Nat × Norm) := []
/-- strings.HasSuffix -/
def sig24 : Sig := ⟨[.val (.str), .val (.str)], [.val (.bool)], false⟩
def ann24 : List (Nat × Norm) := []
/-- strings.Trim -/
def sig25 : Sig := ⟨[.val (.str), .val (.str)], [.val (.str)], false⟩
def ann25 : List (Nat × Norm) := []
/-- masthead/mark.isInline -/
def sig50 : Sig := ⟨[.val (.int .i64)], [.val (.bool)], false⟩
def ann50 : List (Nat × Norm) := []
/-- masthead/mark.nodeFault -/
def sig51 : Sig := ⟨[.val (.agg 33), .val (.int .i64)], [.val (.int .i64)], false⟩
def ann51 : List (Nat × Norm) := []
/-- masthead/mark.isDigit -/
def sig21 : Sig := ⟨[.val (.int .u8)], [.val (.bool)], false⟩
def ann21 : List (Nat × Norm) := []
/-- masthead/mastref1.permitted -/
def sig69 : Sig := ⟨[.val (.int .i64), .val (.int .i64)], [.val (.bool)], false⟩
def ann69 : List (Nat × Norm) := []
/-- masthead/mastref1.badBytes -/
def sig70 : Sig := ⟨[.val (.str), .val (.bool), .val (.bool)], [.val (.bool)], false⟩
def ann70 : List (Nat × Norm) := [(2, { keep := some [(0, .asis), (1, .asis), (2, .asis), (7, .asis)] })]
/-- internal/stringslite.HasSuffix -/
def sig42 : Sig := ⟨[.val (.str), .val (.str)], [.val (.bool)], false⟩
def ann42 : List (Nat × Norm) := []
/-- strings.trimRightByte -/
def sig44 : Sig := ⟨[.val (.str), .val (.int .u8)], [.val (.str)], false⟩
def ann44 : List (Nat × Norm) := [(1, { keep := some [(0, .asis), (1, .asis)] })]
/-- strings.trimLeftByte -/
def sig43 : Sig := ⟨[.val (.str), .val (.int .u8)], [.val (.str)], false⟩
def ann43 : List (Nat × Norm) := [(1, { keep := some [(0, .asis), (1, .asis)] })]
/-- masthead/mark.permitted -/
def sig64 : Sig := ⟨[.val (.int .i64), .val (.int .i64)], [.val (.bool)], false⟩
def ann64 : List (Nat × Norm) := []
/-- masthead/mark.uses -/
def sig65 : Sig := ⟨[.val (.int .i64)], [.val (.str)], false⟩
def ann65 : List (Nat × Norm) := []
/-- masthead/mark.nodeFault$1 -/
def sig66 : Sig := ⟨[.val (.str), .val (.bool), .ref (.str)], [.val (.bool)], false⟩
def ann66 : List (Nat × Norm) := []
/-- masthead/mark.byteFault -/
def sig68 : Sig := ⟨[.val (.agg 33)], [.val (.bool)], false⟩
def ann68 : List (Nat × Norm) := []
/-- masthead/mark.isBlock -/
def sig82 : Sig := ⟨[.val (.int .i64)], [.val (.bool)], false⟩
def ann82 : List (Nat × Norm) := []
/-- masthead/mark.control -/
def sig84 : Sig := ⟨[.val (.str), .val (.str)], [.val (.bool)], false⟩
def ann84 : List (Nat × Norm) := [(2, { keep := some [(0, .asis), (1, .asis), (5, .asis)] })]
def sig40 : Sig := ⟨[.val (.int .i64)], [.val .str], false⟩
def sig104 : Sig := ⟨[.val .str, .val (.int .u8)], [.val (.int .i64)], false⟩
def sig67 : Sig := ⟨[.val .str, .val .str], [.val .bool], false⟩
def sig45 : Sig := ⟨[], [], false⟩
def sig46 : Sig := ⟨[], [], false⟩
def sig47 : Sig := ⟨[], [], false⟩
def sig48 : Sig := ⟨[], [], false⟩
def sig49 : Sig := ⟨[], [], false⟩
noncomputable def E : Env := { tt := tt, fns := [(6, Tryd.f6), (5, Tryd.f5), (16, Tryd.f16), (17, Tryd.f17), (10, Tryd.f10), (14, Tryd.f14), (18, Tryd.f18), (20, Tryd.f20), (19, Tryd.f19), (13, Tryd.f13), (15, Tryd.f15), (9, Tryd.f9), (34, Tryd.f34), (35, Tryd.f35), (41, Tryd.f41), (29, Tryd.f29), (30, Tryd.f30), (31, Tryd.f31), (37, Tryd.f37), (38, Tryd.f38), (8, Tryd.f8), (39, Tryd.f39), (36, Tryd.f36), (26, Tryd.f26), (27, Tryd.f27), (28, Tryd.f28), (7, Tryd.f7), (59, Tryd.f59), (52, Tryd.f52), (53, Tryd.f53), (57, Tryd.f57), (22, Tryd.f22), (23, Tryd.f23), (24, Tryd.f24), (25, Tryd.f25), (50, Tryd.f50), (51, Tryd.f51), (21, Tryd.f21), (69, Tryd.f69), (70, Tryd.f70), (42, Tryd.f42), (44, Tryd.f44), (43, Tryd.f43), (64, Tryd.f64), (65, Tryd.f65), (66, Tryd.f66), (68, Tryd.f68), (82, Tryd.f82), (84, Tryd.f84)], sigs := [(6, sig6), (5, sig5), (16, sig16), (17, sig17), (10, sig10), (14, sig14), (18, sig18), (20, sig20), (19, sig19), (13, sig13), (15, sig15), (9, sig9), (34, sig34), (35, sig35), (41, sig41), (29, sig29), (30, sig30), (31, sig31), (37, sig37), (38, sig38), (8, sig8), (39, sig39), (36, sig36), (26, sig26), (27, sig27), (28, sig28), (7, sig7), (59, sig59), (52, sig52), (53, sig53), (57, sig57), (22, sig22), (23, sig23), (24, sig24), (25, sig25), (50, sig50), (51, sig51), (21, sig21), (69, sig69), (70, sig70), (42, sig42), (44, sig44), (43, sig43), (64, sig64), (65, sig65), (66, sig66), (68, sig68), (82, sig82), (84, sig84), (40, sig40), (104, sig104), (67, sig67), (45, sig45), (46, sig46), (47, sig47), (48, sig48), (49, sig49)], ext := [(40, xItoa), (104, xIndexByte), (67, xContains1), (45, xNone), (46, xNone), (47, xNone), (48, xNone), (49, xNone)], ann := [(6, ann6), (5, ann5), (16, ann16), (17, ann17), (10, ann10), (14, ann14), (18, ann18), (20, ann20), (19, ann19), (13, ann13), (15, ann15), (9, ann9), (34, ann34), (35, ann35), (41, ann41), (29, ann29), (30, ann30), (31, ann31), (37, ann37), (38, ann38), (8, ann8), (39, ann39), (36, ann36), (26, ann26), (27, ann27), (28, ann28), (7, ann7), (59, ann59), (52, ann52), (53, ann53), (57, ann57), (22, ann22), (23, ann23), (24, ann24), (25, ann25), (50, ann50), (51, ann51), (21, ann21), (69, ann69), (70, ann70), (42, ann42), (44, ann44), (43, ann43), (64, ann64), (65, ann65), (66, ann66), (68, ann68), (82, ann82), (84, ann84)] }
theorem tt_all : ttB Tryd.prog tt tt = true := by kernel_rfl
theorem fns_ok : FnsOK Tryd.prog E E.fns := ⟨⟨Tryd.func6, by kernel_rfl⟩, ⟨Tryd.func5, by kernel_rfl⟩, ⟨Tryd.func16, by kernel_rfl⟩, ⟨Tryd.func17, by kernel_rfl⟩, ⟨Tryd.func10, by kernel_rfl⟩, ⟨Tryd.func14, by kernel_rfl⟩, ⟨Tryd.func18, by kernel_rfl⟩, ⟨Tryd.func20, by kernel_rfl⟩, ⟨Tryd.func19, by kernel_rfl⟩, ⟨Tryd.func13, by kernel_rfl⟩, ⟨Tryd.func15, by kernel_rfl⟩, ⟨Tryd.func9, by kernel_rfl⟩, ⟨Tryd.func34, by kernel_rfl⟩, ⟨Tryd.func35, by kernel_rfl⟩, ⟨Tryd.func41, by kernel_rfl⟩, ⟨Tryd.func29, by kernel_rfl⟩, ⟨Tryd.func30, by kernel_rfl⟩, ⟨Tryd.func31, by kernel_rfl⟩, ⟨Tryd.func37, by kernel_rfl⟩, ⟨Tryd.func38, by kernel_rfl⟩, ⟨Tryd.func8, by kernel_rfl⟩, ⟨Tryd.func39, by kernel_rfl⟩, ⟨Tryd.func36, by kernel_rfl⟩, ⟨Tryd.func26, by kernel_rfl⟩, ⟨Tryd.func27, by kernel_rfl⟩, ⟨Tryd.func28, by kernel_rfl⟩, ⟨Tryd.func7, by kernel_rfl⟩, ⟨Tryd.func59, by kernel_rfl⟩, ⟨Tryd.func52, by kernel_rfl⟩, ⟨Tryd.func53, by kernel_rfl⟩, ⟨Tryd.func57, by kernel_rfl⟩, ⟨Tryd.func22, by kernel_rfl⟩, ⟨Tryd.func23, by kernel_rfl⟩, ⟨Tryd.func24, by kernel_rfl⟩, ⟨Tryd.func25, by kernel_rfl⟩, ⟨Tryd.func50, by kernel_rfl⟩, ⟨Tryd.func51, by kernel_rfl⟩, ⟨Tryd.func21, by kernel_rfl⟩, ⟨Tryd.func69, by kernel_rfl⟩, ⟨Tryd.func70, by kernel_rfl⟩, ⟨Tryd.func42, by kernel_rfl⟩, ⟨Tryd.func44, by kernel_rfl⟩, ⟨Tryd.func43, by kernel_rfl⟩, ⟨Tryd.func64, by kernel_rfl⟩, ⟨Tryd.func65, by kernel_rfl⟩, ⟨Tryd.func66, by kernel_rfl⟩, ⟨Tryd.func68, by kernel_rfl⟩, ⟨Tryd.func82, by kernel_rfl⟩, ⟨Tryd.func84, by kernel_rfl⟩, trivial⟩
theorem mixed : Tryd.prog.follows .mixedOrders = true := by kernel_rfl
theorem exts_ok (W0 : World) (ht : Lib.TabIs Tryd.prog W0 "internal/strconv.uint64pow10" .u64 Lib.pow10Tab) : ExtsOK Tryd.prog E W0 E.ext := ⟨
  extItoa (c := (Tryd.f40.body).getD .skip) Tryd.func40 (by kernel_rfl) (by kernel_rfl) (by kernel_rfl) Tryd.strconv_Itoa ht,
  extIndexByte (c := (Tryd.f104.body).getD .skip) Tryd.func104 (by kernel_rfl) (by kernel_rfl) (by kernel_rfl) Tryd.strings_IndexByte,
  extContains1 (c := (Tryd.f67.body).getD .skip) Tryd.func67 (by kernel_rfl) (by kernel_rfl) (by kernel_rfl) Tryd.strings_Contains_one,
  extNone, extNone, extNone, extNone, extNone, trivial⟩
theorem env (W0 : World) (ht : Lib.TabIs Tryd.prog W0 "internal/strconv.uint64pow10" .u64 Lib.pow10Tab) : EnvOK Tryd.prog E W0 := ⟨mixed, (tt_ok tt_all).1, fun f fn h => fns_of fns_ok f fn h, fun f g h => exts_of (exts_ok W0 ht) f g h⟩
end Go.Proofs.YthbncndefigidaaDoor.md
