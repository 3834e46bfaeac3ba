/- A part of the proof. -/
import Derived.Test.YthbncndefigidaaDoorF7
import Derived.Test.YthbncndefigidaaDoorChecked
import Derived.Test.YthbncndefigidaaDoorRows
import Derived.WalkKit
import Derived.ProofKit
import Derived.Test.YthbncndefigidaaDoorDxCkS
set_option linter.unusedVariables false
set_option linter.unusedSimpArgs false
namespace Go.Proofs.YthbncndefigidaaDoor.mc
open Go.Proofs.YthbncndefigidaaDoor.DS

def tt : TT := [(3, ⟨.int .i64, [.int .i64], [], 8⟩),
  (4, ⟨.bool, [.bool], [], 1⟩),
  (5, ⟨.int .u8, [.int .u8], [], 1⟩),
  (9, ⟨.str, [.str], [], 16⟩),
  (24, ⟨.slice 33, [.slice 33], [], 24⟩),
  (25, ⟨.int .i64, [.int .i64], [], 8⟩),
  (33, ⟨.agg 33, [.int .i64, .int .i64, .str, .str, .str, .slice 33], [(0, 3), (1, 3), (2, 9), (3, 9), (4, 9), (5, 24)], 88⟩),
  (38, ⟨.slice 9, [.slice 9], [], 24⟩),
  (83, ⟨.agg 83, [.bool, .bool, .bool, .bool, .bool], [(0, 4), (1, 4), (2, 4), (3, 4), (4, 4)], 5⟩),
  (90, ⟨.agg 90, [.bool, .bool, .bool, .int .i64], [(0, 4), (1, 4), (2, 4), (3, 3)], 16⟩)]
/-- masthead/mastlaw1.MarkChecks -/
def sig4 : Sig := ⟨[.val (.slice 33)], [.val (.bool)], false⟩
def ann4 : List (Nat × Norm) := []
/-- masthead/mark.Check -/
def sig9 : Sig := ⟨[.val (.slice 33)], [.val (.int .i64)], false⟩
def ann9 : List (Nat × Norm) := []
/-- masthead/mastref1.DocError -/
def sig10 : Sig := ⟨[.val (.slice 33)], [.val (.int .i64)], false⟩
def ann10 : List (Nat × Norm) := []
/-- masthead/mark.Printable -/
def sig11 : Sig := ⟨[.val (.slice 33)], [.val (.bool)], false⟩
def ann11 : List (Nat × Norm) := []
/-- masthead/mastref1.CanPrint -/
def sig12 : Sig := ⟨[.val (.slice 33)], [.val (.bool)], false⟩
def ann12 : List (Nat × Norm) := []
/-- masthead/mark.count -/
def sig26 : Sig := ⟨[.val (.slice 33)], [.val (.int .i64)], false⟩
def ann26 : List (Nat × Norm) := [(3, { keep := some [(0, .dat 33), (3, .asis), (6, .asis), (7, .asis)] })]
/-- masthead/mark.tooDeep -/
def sig27 : Sig := ⟨[.val (.slice 33), .val (.int .i64), .val (.int .i64)], [.val (.bool)], false⟩
def ann27 : List (Nat × Norm) := [(2, { keep := some [(0, .dat 33), (1, .asis), (2, .asis), (11, .asis), (12, .asis)] })]
/-- masthead/mark.nodesFault -/
def sig28 : Sig := ⟨[.val (.slice 33), .val (.int .i64)], [.val (.int .i64)], false⟩
def ann28 : List (Nat × Norm) := [(2, { keep := some [(1, .asis), (9, .dat 33), (10, .asis), (11, .asis)] })]
/-- masthead/mastref1.Nodes -/
def sig29 : Sig := ⟨[.val (.slice 33)], [.val (.int .i64)], false⟩
def ann29 : List (Nat × Norm) := [(3, { keep := some [(3, .asis), (8, .dat 33), (9, .asis), (10, .asis)] })]
/-- masthead/mastref1.deep -/
def sig30 : Sig := ⟨[.val (.slice 33), .val (.int .i64), .val (.int .i64)], [.val (.bool)], false⟩
def ann30 : List (Nat × Norm) := [(2, { keep := some [(1, .asis), (2, .asis), (11, .dat 33), (12, .asis), (13, .asis)] })]
/-- masthead/mastref1.nodesError -/
def sig31 : Sig := ⟨[.val (.slice 33), .val (.int .i64)], [.val (.int .i64)], false⟩
def ann31 : List (Nat × Norm) := [(2, { keep := some [(1, .asis), (9, .dat 33), (10, .asis), (11, .asis)] })]
/-- masthead/mark.blocksFit -/
def sig32 : Sig := ⟨[.val (.slice 33)], [.val (.bool)], false⟩
def ann32 : List (Nat × Norm) := [(2, { keep := some [(0, .dat 33), (5, .dat 33), (6, .asis), (7, .asis)] })]
/-- masthead/mastref1.goodBlocks -/
def sig33 : Sig := ⟨[.val (.slice 33)], [.val (.bool)], false⟩
def ann33 : List (Nat × Norm) := [(2, { keep := some [(0, .dat 33), (5, .dat 33), (6, .asis), (7, .asis)] })]
/-- masthead/mark.isInline -/
def sig50 : Sig := ⟨[.val (.int .i64)], [.val (.bool)], false⟩
def ann50 : List (Nat × Norm) := []
/-- masthead/mark.nodeFault -/
def sig51 : Sig := ⟨[.val (.agg 33), .val (.int .i64)], [.val (.int .i64)], false⟩
def ann51 : List (Nat × Norm) := []
/-- masthead/mastref1.isInline -/
def sig52 : Sig := ⟨[.val (.int .i64)], [.val (.bool)], false⟩
def ann52 : List (Nat × Norm) := []
/-- masthead/mastref1.nodeError -/
def sig53 : Sig := ⟨[.val (.agg 33), .val (.int .i64)], [.val (.int .i64)], false⟩
def ann53 : List (Nat × Norm) := []
/-- masthead/mark.blockFits -/
def sig54 : Sig := ⟨[.val (.agg 33)], [.val (.bool)], false⟩
def ann54 : List (Nat × Norm) := []
/-- masthead/mastref1.goodLine -/
def sig55 : Sig := ⟨[.val (.agg 33)], [.val (.bool)], false⟩
def ann55 : List (Nat × Norm) := []
/-- masthead/mastref1.goodFence -/
def sig56 : Sig := ⟨[.val (.agg 33)], [.val (.bool)], false⟩
def ann56 : List (Nat × Norm) := [(5, { keep := some [(30, .dat 9), (31, .asis), (32, .asis)] })]
/-- masthead/mark.permitted -/
def sig64 : Sig := ⟨[.val (.int .i64), .val (.int .i64)], [.val (.bool)], false⟩
def ann64 : List (Nat × Norm) := []
/-- masthead/mark.uses -/
def sig65 : Sig := ⟨[.val (.int .i64)], [.val (.str)], false⟩
def ann65 : List (Nat × Norm) := []
/-- masthead/mark.nodeFault$1 -/
def sig66 : Sig := ⟨[.val (.str), .val (.bool), .ref (.str)], [.val (.bool)], false⟩
def ann66 : List (Nat × Norm) := []
/-- masthead/mark.byteFault -/
def sig68 : Sig := ⟨[.val (.agg 33)], [.val (.bool)], false⟩
def ann68 : List (Nat × Norm) := []
/-- masthead/mastref1.permitted -/
def sig69 : Sig := ⟨[.val (.int .i64), .val (.int .i64)], [.val (.bool)], false⟩
def ann69 : List (Nat × Norm) := []
/-- masthead/mastref1.badBytes -/
def sig70 : Sig := ⟨[.val (.str), .val (.bool), .val (.bool)], [.val (.bool)], false⟩
def ann70 : List (Nat × Norm) := [(2, { keep := some [(0, .asis), (1, .asis), (2, .asis), (7, .asis)] })]
/-- masthead/mark.fenceFits -/
def sig71 : Sig := ⟨[.val (.agg 33)], [.val (.bool)], false⟩
def ann71 : List (Nat × Norm) := [(4, { keep := some [(24, .dat 9), (25, .asis), (26, .asis)] })]
/-- masthead/mark.lineFits -/
def sig72 : Sig := ⟨[.val (.slice 33), .val (.int .i64)], [.val (.bool)], false⟩
def ann72 : List (Nat × Norm) := []
/-- masthead/mastref1.blankEnds -/
def sig73 : Sig := ⟨[.val (.str)], [.val (.bool), .val (.bool)], false⟩
def ann73 : List (Nat × Norm) := []
/-- masthead/mastref1.goodInlines -/
def sig74 : Sig := ⟨[.val (.slice 33), .val (.int .i64), .val (.agg 83)], [.val (.bool)], false⟩
def ann74 : List (Nat × Norm) := [(2, { keep := some [(0, .dat 33), (1, .asis), (5, .asis), (10, .dat 33), (11, .asis), (12, .asis)] })]
/-- strings.HasSuffix -/
def sig24 : Sig := ⟨[.val (.str), .val (.str)], [.val (.bool)], false⟩
def ann24 : List (Nat × Norm) := []
/-- masthead/mastref1.LinesOf -/
def sig75 : Sig := ⟨[.val (.str)], [.val (.slice 9)], false⟩
def ann75 : List (Nat × Norm) := []
/-- masthead/mastref1.empty -/
def sig76 : Sig := ⟨[.val (.str)], [.val (.bool)], false⟩
def ann76 : List (Nat × Norm) := []
/-- masthead/mastref1.fenceEnd -/
def sig77 : Sig := ⟨[.val (.str)], [.val (.bool)], false⟩
def ann77 : List (Nat × Norm) := []
/-- masthead/mark.isBlock -/
def sig82 : Sig := ⟨[.val (.int .i64)], [.val (.bool)], false⟩
def ann82 : List (Nat × Norm) := []
/-- masthead/mark.control -/
def sig84 : Sig := ⟨[.val (.str), .val (.str)], [.val (.bool)], false⟩
def ann84 : List (Nat × Norm) := [(2, { keep := some [(0, .asis), (1, .asis), (5, .asis)] })]
/-- masthead/mastref1.isBlock -/
def sig57 : Sig := ⟨[.val (.int .i64)], [.val (.bool)], false⟩
def ann57 : List (Nat × Norm) := []
/-- masthead/mark.trim -/
def sig85 : Sig := ⟨[.val (.str)], [.val (.str)], false⟩
def ann85 : List (Nat × Norm) := [(1, { keep := some [(0, .asis)] }), (3, { keep := some [(0, .asis)] })]
/-- masthead/mark.lines -/
def sig86 : Sig := ⟨[.val (.str)], [.val (.slice 9)], false⟩
def ann86 : List (Nat × Norm) := []
/-- masthead/mark.allBlank -/
def sig87 : Sig := ⟨[.val (.str)], [.val (.bool)], false⟩
def ann87 : List (Nat × Norm) := []
/-- masthead/mark.endsFence -/
def sig88 : Sig := ⟨[.val (.str)], [.val (.bool)], false⟩
def ann88 : List (Nat × Norm) := []
/-- masthead/mark.isBreak -/
def sig89 : Sig := ⟨[.val (.agg 33)], [.val (.bool)], false⟩
def ann89 : List (Nat × Norm) := []
/-- masthead/mark.isBlank -/
def sig90 : Sig := ⟨[.val (.int .u8)], [.val (.bool)], false⟩
def ann90 : List (Nat × Norm) := []
/-- masthead/mark.inlinesFit -/
def sig91 : Sig := ⟨[.val (.slice 33), .val (.agg 90)], [.val (.bool)], false⟩
def ann91 : List (Nat × Norm) := [(2, { keep := some [(0, .dat 33), (3, .asis), (7, .dat 33), (8, .asis), (9, .asis)] })]
/-- masthead/mastref1.isBlank -/
def sig92 : Sig := ⟨[.val (.int .u8)], [.val (.bool)], false⟩
def ann92 : List (Nat × Norm) := []
/-- masthead/mastref1.ended -/
def sig93 : Sig := ⟨[.val (.int .i64)], [.val (.bool)], false⟩
def ann93 : List (Nat × Norm) := []
/-- masthead/mastref1.starred -/
def sig94 : Sig := ⟨[.val (.int .i64)], [.val (.bool)], false⟩
def ann94 : List (Nat × Norm) := []
/-- masthead/mastref1.goodPair -/
def sig95 : Sig := ⟨[.val (.agg 33), .val (.agg 33)], [.val (.bool)], false⟩
def ann95 : List (Nat × Norm) := []
/-- masthead/mastref1.goodInline -/
def sig96 : Sig := ⟨[.val (.agg 33), .val (.agg 83)], [.val (.bool)], false⟩
def ann96 : List (Nat × Norm) := []
/-- internal/stringslite.HasSuffix -/
def sig42 : Sig := ⟨[.val (.str), .val (.str)], [.val (.bool)], false⟩
def ann42 : List (Nat × Norm) := []
/-- strings.Split -/
def sig97 : Sig := ⟨[.val (.str), .val (.str)], [.val (.slice 9)], false⟩
def ann97 : List (Nat × Norm) := []
/-- masthead/mastref1.trim -/
def sig98 : Sig := ⟨[.val (.str)], [.val (.str)], false⟩
def ann98 : List (Nat × Norm) := []
/-- masthead/mastref1.fenced -/
def sig99 : Sig := ⟨[.val (.str)], [.val (.bool)], false⟩
def ann99 : List (Nat × Norm) := []
/-- strings.TrimSuffix -/
def sig109 : Sig := ⟨[.val (.str), .val (.str)], [.val (.str)], false⟩
def ann109 : List (Nat × Norm) := []
/-- masthead/mark.isFence -/
def sig110 : Sig := ⟨[.val (.str)], [.val (.bool)], false⟩
def ann110 : List (Nat × Norm) := []
/-- masthead/mark.neighbors -/
def sig111 : Sig := ⟨[.val (.agg 33), .val (.agg 33)], [.val (.bool)], false⟩
def ann111 : List (Nat × Norm) := []
/-- masthead/mark.inlineFits -/
def sig112 : Sig := ⟨[.val (.agg 33), .val (.agg 90)], [.val (.bool)], false⟩
def ann112 : List (Nat × Norm) := [(25, { keep := some [(2, .asis), (3, .asis)], cut := true })]
/-- masthead/mastref1.goodTarget -/
def sig113 : Sig := ⟨[.val (.agg 33)], [.val (.bool)], false⟩
def ann113 : List (Nat × Norm) := [(4, { keep := some [(1, .asis), (3, .asis)] })]
/-- strings.genSplit -/
def sig115 : Sig := ⟨[.val (.str), .val (.str), .val (.int .i64), .val (.int .i64)], [.val (.slice 9)], false⟩
def ann115 : List (Nat × Norm) := [(7, { keep := some [(0, .asis), (1, .asis), (2, .asis), (3, .asis)], cut := true }), (11, { keep := some [(0, .asis), (1, .asis), (2, .asis), (3, .asis), (9, .own 9), (10, .asis)] })]
/-- strings.HasPrefix -/
def sig116 : Sig := ⟨[.val (.str), .val (.str)], [.val (.bool)], false⟩
def ann116 : List (Nat × Norm) := []
/-- internal/stringslite.TrimSuffix -/
def sig124 : Sig := ⟨[.val (.str), .val (.str)], [.val (.str)], false⟩
def ann124 : List (Nat × Norm) := []
/-- masthead/mark.isStar -/
def sig125 : Sig := ⟨[.val (.agg 33)], [.val (.bool)], false⟩
def ann125 : List (Nat × Norm) := []
/-- (masthead/mark.within).barless -/
def sig126 : Sig := ⟨[.val (.agg 90), .val (.str)], [.val (.bool)], false⟩
def ann126 : List (Nat × Norm) := []
/-- (masthead/mark.within).target -/
def sig127 : Sig := ⟨[.val (.agg 90), .val (.agg 33)], [.val (.bool)], false⟩
def ann127 : List (Nat × Norm) := [(2, { keep := some [(2, .asis), (3, .asis), (5, .asis)] }), (7, { keep := some [(2, .asis), (3, .asis), (6, .asis)] })]
/-- internal/stringslite.HasPrefix -/
def sig131 : Sig := ⟨[.val (.str), .val (.str)], [.val (.bool)], false⟩
def ann131 : List (Nat × Norm) := []
/-- masthead/mark.inDest -/
def sig136 : Sig := ⟨[.val (.int .u8)], [.val (.bool)], false⟩
def ann136 : List (Nat × Norm) := []
/-- masthead/mark.inTitle -/
def sig137 : Sig := ⟨[.val (.int .u8)], [.val (.bool)], false⟩
def ann137 : List (Nat × Norm) := []
def sig104 : Sig := ⟨[.val .str, .val (.int .u8)], [.val (.int .i64)], false⟩
def sig67 : Sig := ⟨[.val .str, .val .str], [.val .bool], false⟩
def sig114 : Sig := ⟨[.val .str, .val .str], [.val .bool], false⟩
def sig25 : Sig := ⟨[.val .str, .val .str], [.val .str], false⟩
def sig83 : Sig := ⟨[.val .str, .val .str], [.val (.int .i64)], false⟩
def sig130 : Sig := ⟨[.val .str, .val .str], [.val (.int .i64)], false⟩
def sig129 : Sig := ⟨[.val .str, .val (.int .i64)], [.val (.slice 9)], false⟩
noncomputable def E : Env := { tt := tt, fns := [(4, Tryd.f4), (9, Tryd.f9), (10, Tryd.f10), (11, Tryd.f11), (12, Tryd.f12), (26, Tryd.f26), (27, Tryd.f27), (28, Tryd.f28), (29, Tryd.f29), (30, Tryd.f30), (31, Tryd.f31), (32, Tryd.f32), (33, Tryd.f33), (50, Tryd.f50), (51, Tryd.f51), (52, Tryd.f52), (53, Tryd.f53), (54, Tryd.f54), (55, Tryd.f55), (56, Tryd.f56), (64, Tryd.f64), (65, Tryd.f65), (66, Tryd.f66), (68, Tryd.f68), (69, Tryd.f69), (70, Tryd.f70), (71, Tryd.f71), (72, Tryd.f72), (73, Tryd.f73), (74, Tryd.f74), (24, Tryd.f24), (75, Tryd.f75), (76, Tryd.f76), (77, Tryd.f77), (82, Tryd.f82), (84, Tryd.f84), (57, Tryd.f57), (85, Tryd.f85), (86, Tryd.f86), (87, Tryd.f87), (88, Tryd.f88), (89, Tryd.f89), (90, Tryd.f90), (91, Tryd.f91), (92, Tryd.f92), (93, Tryd.f93), (94, Tryd.f94), (95, Tryd.f95), (96, Tryd.f96), (42, Tryd.f42), (97, Tryd.f97), (98, Tryd.f98), (99, Tryd.f99), (109, Tryd.f109), (110, Tryd.f110), (111, Tryd.f111), (112, Tryd.f112), (113, Tryd.f113), (115, Tryd.f115), (116, Tryd.f116), (124, Tryd.f124), (125, Tryd.f125), (126, Tryd.f126), (127, Tryd.f127), (131, Tryd.f131), (136, Tryd.f136), (137, Tryd.f137)], sigs := [(4, sig4), (9, sig9), (10, sig10), (11, sig11), (12, sig12), (26, sig26), (27, sig27), (28, sig28), (29, sig29), (30, sig30), (31, sig31), (32, sig32), (33, sig33), (50, sig50), (51, sig51), (52, sig52), (53, sig53), (54, sig54), (55, sig55), (56, sig56), (64, sig64), (65, sig65), (66, sig66), (68, sig68), (69, sig69), (70, sig70), (71, sig71), (72, sig72), (73, sig73), (74, sig74), (24, sig24), (75, sig75), (76, sig76), (77, sig77), (82, sig82), (84, sig84), (57, sig57), (85, sig85), (86, sig86), (87, sig87), (88, sig88), (89, sig89), (90, sig90), (91, sig91), (92, sig92), (93, sig93), (94, sig94), (95, sig95), (96, sig96), (42, sig42), (97, sig97), (98, sig98), (99, sig99), (109, sig109), (110, sig110), (111, sig111), (112, sig112), (113, sig113), (115, sig115), (116, sig116), (124, sig124), (125, sig125), (126, sig126), (127, sig127), (131, sig131), (136, sig136), (137, sig137), (104, sig104), (67, sig67), (114, sig114), (25, sig25), (83, sig83), (130, sig130), (129, sig129)], ext := [(104, xIndexByte), (67, xContains1), (114, xContainsAny), (25, xTrimS), (83, xIndex1), (130, xCount1), (129, xNone)], ann := [(4, ann4), (9, ann9), (10, ann10), (11, ann11), (12, ann12), (26, ann26), (27, ann27), (28, ann28), (29, ann29), (30, ann30), (31, ann31), (32, ann32), (33, ann33), (50, ann50), (51, ann51), (52, ann52), (53, ann53), (54, ann54), (55, ann55), (56, ann56), (64, ann64), (65, ann65), (66, ann66), (68, ann68), (69, ann69), (70, ann70), (71, ann71), (72, ann72), (73, ann73), (74, ann74), (24, ann24), (75, ann75), (76, ann76), (77, ann77), (82, ann82), (84, ann84), (57, ann57), (85, ann85), (86, ann86), (87, ann87), (88, ann88), (89, ann89), (90, ann90), (91, ann91), (92, ann92), (93, ann93), (94, ann94), (95, ann95), (96, ann96), (42, ann42), (97, ann97), (98, ann98), (99, ann99), (109, ann109), (110, ann110), (111, ann111), (112, ann112), (113, ann113), (115, ann115), (116, ann116), (124, ann124), (125, ann125), (126, ann126), (127, ann127), (131, ann131), (136, ann136), (137, ann137)] }
theorem tt_all : ttB Tryd.prog tt tt = true := by kernel_rfl
theorem fns_ok : FnsOK Tryd.prog E E.fns := ⟨⟨Tryd.func4, by kernel_rfl⟩, ⟨Tryd.func9, by kernel_rfl⟩, ⟨Tryd.func10, by kernel_rfl⟩, ⟨Tryd.func11, by kernel_rfl⟩, ⟨Tryd.func12, by kernel_rfl⟩, ⟨Tryd.func26, by kernel_rfl⟩, ⟨Tryd.func27, by kernel_rfl⟩, ⟨Tryd.func28, by kernel_rfl⟩, ⟨Tryd.func29, by kernel_rfl⟩, ⟨Tryd.func30, by kernel_rfl⟩, ⟨Tryd.func31, by kernel_rfl⟩, ⟨Tryd.func32, by kernel_rfl⟩, ⟨Tryd.func33, by kernel_rfl⟩, ⟨Tryd.func50, by kernel_rfl⟩, ⟨Tryd.func51, by kernel_rfl⟩, ⟨Tryd.func52, by kernel_rfl⟩, ⟨Tryd.func53, by kernel_rfl⟩, ⟨Tryd.func54, by kernel_rfl⟩, ⟨Tryd.func55, by kernel_rfl⟩, ⟨Tryd.func56, by kernel_rfl⟩, ⟨Tryd.func64, by kernel_rfl⟩, ⟨Tryd.func65, by kernel_rfl⟩, ⟨Tryd.func66, by kernel_rfl⟩, ⟨Tryd.func68, by kernel_rfl⟩, ⟨Tryd.func69, by kernel_rfl⟩, ⟨Tryd.func70, by kernel_rfl⟩, ⟨Tryd.func71, by kernel_rfl⟩, ⟨Tryd.func72, by kernel_rfl⟩, ⟨Tryd.func73, by kernel_rfl⟩, ⟨Tryd.func74, by kernel_rfl⟩, ⟨Tryd.func24, by kernel_rfl⟩, ⟨Tryd.func75, by kernel_rfl⟩, ⟨Tryd.func76, by kernel_rfl⟩, ⟨Tryd.func77, by kernel_rfl⟩, ⟨Tryd.func82, by kernel_rfl⟩, ⟨Tryd.func84, by kernel_rfl⟩, ⟨Tryd.func57, by kernel_rfl⟩, ⟨Tryd.func85, by kernel_rfl⟩, ⟨Tryd.func86, by kernel_rfl⟩, ⟨Tryd.func87, by kernel_rfl⟩, ⟨Tryd.func88, by kernel_rfl⟩, ⟨Tryd.func89, by kernel_rfl⟩, ⟨Tryd.func90, by kernel_rfl⟩, ⟨Tryd.func91, by kernel_rfl⟩, ⟨Tryd.func92, by kernel_rfl⟩, ⟨Tryd.func93, by kernel_rfl⟩, ⟨Tryd.func94, by kernel_rfl⟩, ⟨Tryd.func95, by kernel_rfl⟩, ⟨Tryd.func96, by kernel_rfl⟩, ⟨Tryd.func42, by kernel_rfl⟩, ⟨Tryd.func97, by kernel_rfl⟩, ⟨Tryd.func98, by kernel_rfl⟩, ⟨Tryd.func99, by kernel_rfl⟩, ⟨Tryd.func109, by kernel_rfl⟩, ⟨Tryd.func110, by kernel_rfl⟩, ⟨Tryd.func111, by kernel_rfl⟩, ⟨Tryd.func112, by kernel_rfl⟩, ⟨Tryd.func113, by kernel_rfl⟩, ⟨Tryd.func115, by kernel_rfl⟩, ⟨Tryd.func116, by kernel_rfl⟩, ⟨Tryd.func124, by kernel_rfl⟩, ⟨Tryd.func125, by kernel_rfl⟩, ⟨Tryd.func126, by kernel_rfl⟩, ⟨Tryd.func127, by kernel_rfl⟩, ⟨Tryd.func131, by kernel_rfl⟩, ⟨Tryd.func136, by kernel_rfl⟩, ⟨Tryd.func137, by kernel_rfl⟩, trivial⟩
theorem mixed : Tryd.prog.follows .mixedOrders = true := by kernel_rfl
theorem exts_ok (W0 : World) : ExtsOK Tryd.prog E W0 E.ext := ⟨
  extIndexByte (c := (Tryd.f104.body).getD .skip) Tryd.func104 (by kernel_rfl) (by kernel_rfl) (by kernel_rfl) Tryd.strings_IndexByte,
  extContains1 (c := (Tryd.f67.body).getD .skip) Tryd.func67 (by kernel_rfl) (by kernel_rfl) (by kernel_rfl) Tryd.strings_Contains_one,
  extContainsAny (c := (Tryd.f114.body).getD .skip) Tryd.func114 (by kernel_rfl) (by kernel_rfl) (by kernel_rfl) Tryd.strings_ContainsAny_all,
  extTrimS (c := (Tryd.f25.body).getD .skip) Tryd.func25 (by kernel_rfl) (by kernel_rfl) (by kernel_rfl) Tryd.strings_Trim_set,
  extIndex1 (c := (Tryd.f83.body).getD .skip) Tryd.func83 (by kernel_rfl) (by kernel_rfl) (by kernel_rfl) Tryd.strings_Index_one,
  extCount1 (c := (Tryd.f130.body).getD .skip) Tryd.func130 (by kernel_rfl) (by kernel_rfl) (by kernel_rfl) Tryd.strings_Count_one,
  extNone, trivial⟩
theorem env (W0 : World) : EnvOK Tryd.prog E W0 := ⟨mixed, (tt_ok tt_all).1, fun f fn h => fns_of fns_ok f fn h, fun f g h => exts_of (exts_ok W0) f g h⟩
end Go.Proofs.YthbncndefigidaaDoor.mc
