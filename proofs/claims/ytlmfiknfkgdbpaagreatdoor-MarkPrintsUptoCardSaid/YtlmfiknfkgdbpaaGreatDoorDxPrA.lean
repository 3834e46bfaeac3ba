/- A part of the proof. -/
import Derived.Test.YtlmfiknfkgdbpaaGreatDoorF8
import Derived.Test.YtlmfiknfkgdbpaaGreatDoorChecked
import Derived.Test.YtlmfiknfkgdbpaaGreatDoorRows
import Derived.WalkKit
import Derived.ProofKit
import Derived.Test.YtlmfiknfkgdbpaaGreatDoorDxPrX
set_option linter.unusedVariables false
set_option linter.unusedSimpArgs false
namespace Go.Proofs.YtlmfiknfkgdbpaaGreatDoor.pr
open Go.Proofs.YtlmfiknfkgdbpaaGreatDoor.DS

def tt : TT := [(3, ⟨.int .i64, [.int .i64], [], 8⟩),
  (4, ⟨.bool, [.bool], [], 1⟩),
  (5, ⟨.int .u8, [.int .u8], [], 1⟩),
  (9, ⟨.str, [.str], [], 16⟩),
  (22, ⟨.slice 37, [.slice 37], [], 24⟩),
  (23, ⟨.int .i64, [.int .i64], [], 8⟩),
  (34, ⟨.slice 9, [.slice 9], [], 24⟩),
  (37, ⟨.agg 37, [.int .i64, .int .i64, .str, .str, .str, .slice 37], [(0, 3), (1, 3), (2, 9), (3, 9), (4, 9), (5, 22)], 88⟩),
  (39, ⟨.ptr, [.ptr], [], 8⟩),
  (40, ⟨.slice 5, [.slice 5], [], 24⟩),
  (42, ⟨.agg 42, [.ptr, .slice 5], [(0, 39), (1, 40)], 32⟩),
  (69, ⟨.agg 69, [.bool, .bool, .bool, .bool, .bool], [(0, 4), (1, 4), (2, 4), (3, 4), (4, 4)], 5⟩),
  (84, ⟨.agg 84, [.bool, .bool, .bool, .int .i64], [(0, 4), (1, 4), (2, 4), (3, 3)], 16⟩),
  (87, ⟨.ptr, [.ptr], [], 8⟩),
  (89, ⟨.agg 89, [.slice 5, .bool, .bool], [(0, 40), (1, 4), (2, 4)], 32⟩)]
/-- masthead/mastlaw1.MarkPrints -/
def sig3 : Sig := ⟨[.val (.slice 37)], [.val (.bool)], false⟩
def ann3 : List (Nat × Norm) := []
/-- masthead/mark.Print -/
def sig4 : Sig := ⟨[.val (.slice 37)], [.val (.str), .val (.int .i64)], false⟩
def ann4 : List (Nat × Norm) := []
/-- masthead/mastref1.DocError -/
def sig5 : Sig := ⟨[.val (.slice 37)], [.val (.int .i64)], false⟩
def ann5 : List (Nat × Norm) := []
/-- masthead/mastref1.CanPrint -/
def sig6 : Sig := ⟨[.val (.slice 37)], [.val (.bool)], false⟩
def ann6 : List (Nat × Norm) := []
/-- masthead/mastref1.PrintDoc -/
def sig7 : Sig := ⟨[.val (.slice 37)], [.val (.str), .val (.bool)], false⟩
def ann7 : List (Nat × Norm) := [(3, { keep := some [(4, .asis), (8, .dat 9), (9, .asis), (10, .asis)] }), (2, { frz := [0] })]
/-- masthead/mark.Check -/
def sig8 : Sig := ⟨[.val (.slice 37)], [.val (.int .i64)], false⟩
def ann8 : List (Nat × Norm) := []
/-- masthead/mark.blocksFit -/
def sig9 : Sig := ⟨[.val (.slice 37)], [.val (.bool)], false⟩
def ann9 : List (Nat × Norm) := [(2, { keep := some [(0, .dat 37), (5, .dat 37), (6, .asis), (7, .asis)] })]
/-- masthead/mark.printed -/
def sig10 : Sig := ⟨[.val (.slice 37)], [.val (.str)], false⟩
def ann10 : List (Nat × Norm) := [(3, { keep := some [(3, .asis), (6, .dat 37), (7, .asis), (8, .asis)], rows := [(3, 1, 5)] })]
/-- masthead/mastref1.Nodes -/
def sig11 : Sig := ⟨[.val (.slice 37)], [.val (.int .i64)], false⟩
def ann11 : List (Nat × Norm) := [(3, { keep := some [(3, .asis), (8, .dat 37), (9, .asis), (10, .asis)] })]
/-- masthead/mastref1.deep -/
def sig12 : Sig := ⟨[.val (.slice 37), .val (.int .i64), .val (.int .i64)], [.val (.bool)], false⟩
def ann12 : List (Nat × Norm) := [(2, { keep := some [(1, .asis), (2, .asis), (11, .dat 37), (12, .asis), (13, .asis)] })]
/-- masthead/mastref1.nodesError -/
def sig13 : Sig := ⟨[.val (.slice 37), .val (.int .i64)], [.val (.int .i64)], false⟩
def ann13 : List (Nat × Norm) := [(2, { keep := some [(1, .asis), (9, .dat 37), (10, .asis), (11, .asis)] })]
/-- masthead/mastref1.goodBlocks -/
def sig14 : Sig := ⟨[.val (.slice 37)], [.val (.bool)], false⟩
def ann14 : List (Nat × Norm) := [(2, { keep := some [(0, .dat 37), (5, .dat 37), (6, .asis), (7, .asis)] })]
/-- masthead/mastref1.PrintLines -/
def sig15 : Sig := ⟨[.val (.slice 37)], [.own 9], false⟩
def ann15 : List (Nat × Norm) := [(3, { keep := some [(3, .own 9), (13, .dat 37), (14, .asis), (15, .asis)] }), (7, { keep := some [(3, .own 9), (5, .asis), (13, .dat 37), (14, .asis), (15, .asis)], cut := true }), (21, { keep := some [(3, .own 9), (6, .own 9), (13, .dat 37), (14, .asis), (15, .asis), (87, .dat 37), (88, .asis), (89, .asis)] }), (28, { keep := some [(3, .own 9), (13, .dat 37), (14, .asis), (15, .asis), (111, .dat 9), (112, .asis), (113, .asis)] }), (36, { keep := some [(3, .own 9), (5, .asis), (13, .dat 37), (14, .asis), (15, .asis), (131, .dat 37), (132, .asis), (133, .asis)] }), (25, { frz := [6] })]
/-- masthead/mark.count -/
def sig16 : Sig := ⟨[.val (.slice 37)], [.val (.int .i64)], false⟩
def ann16 : List (Nat × Norm) := [(3, { keep := some [(0, .dat 37), (3, .asis), (6, .asis), (7, .asis)] })]
/-- masthead/mark.tooDeep -/
def sig17 : Sig := ⟨[.val (.slice 37), .val (.int .i64), .val (.int .i64)], [.val (.bool)], false⟩
def ann17 : List (Nat × Norm) := [(2, { keep := some [(0, .dat 37), (1, .asis), (2, .asis), (11, .asis), (12, .asis)] })]
/-- masthead/mark.nodesFault -/
def sig18 : Sig := ⟨[.val (.slice 37), .val (.int .i64)], [.val (.int .i64)], false⟩
def ann18 : List (Nat × Norm) := [(2, { keep := some [(1, .asis), (9, .dat 37), (10, .asis), (11, .asis)] })]
/-- masthead/mark.blockFits -/
def sig19 : Sig := ⟨[.val (.agg 37)], [.val (.bool)], false⟩
def ann19 : List (Nat × Norm) := []
/-- (*strings.Builder).WriteByte -/
def sig20 : Sig := ⟨[.box 42 [.self, .row 5], .val (.int .u8)], [.any], false⟩
def ann20 : List (Nat × Norm) := []
/-- masthead/mark.printedBlock -/
def sig22 : Sig := ⟨[.val (.agg 37)], [.val (.str)], false⟩
def ann22 : List (Nat × Norm) := [(19, { keep := some [(5, .asis), (52, .dat 37), (53, .asis), (54, .asis)], rows := [(5, 1, 5)] }), (22, { keep := some [(5, .asis), (52, .dat 37), (53, .asis), (54, .asis), (59, .dat 37), (60, .asis), (61, .asis)], rows := [(5, 1, 5)] })]
/-- (*strings.Builder).WriteString -/
def sig21 : Sig := ⟨[.box 42 [.self, .row 5], .val (.str)], [.val (.int .i64), .any], false⟩
def ann21 : List (Nat × Norm) := []
/-- masthead/mastref1.isInline -/
def sig24 : Sig := ⟨[.val (.int .i64)], [.val (.bool)], false⟩
def ann24 : List (Nat × Norm) := []
/-- masthead/mastref1.nodeError -/
def sig25 : Sig := ⟨[.val (.agg 37), .val (.int .i64)], [.val (.int .i64)], false⟩
def ann25 : List (Nat × Norm) := []
/-- masthead/mastref1.goodLine -/
def sig26 : Sig := ⟨[.val (.agg 37)], [.val (.bool)], false⟩
def ann26 : List (Nat × Norm) := []
/-- masthead/mastref1.goodFence -/
def sig27 : Sig := ⟨[.val (.agg 37)], [.val (.bool)], false⟩
def ann27 : List (Nat × Norm) := [(5, { keep := some [(30, .dat 9), (31, .asis), (32, .asis)] })]
/-- masthead/mastref1.printed -/
def sig29 : Sig := ⟨[.val (.slice 37), .val (.bool), .val (.bool)], [.val (.str)], false⟩
def ann29 : List (Nat × Norm) := [(3, { keep := some [(1, .asis), (2, .asis), (7, .asis), (12, .dat 37), (13, .asis), (14, .asis)] }), (9, { keep := some [(1, .asis), (2, .asis), (7, .asis), (9, .asis), (10, .asis), (11, .asis), (12, .dat 37), (13, .asis), (14, .asis)], cut := true })]
/-- masthead/mastref1.LinesOf -/
def sig30 : Sig := ⟨[.val (.str)], [.own 9], false⟩
def ann30 : List (Nat × Norm) := []
/-- strings.Split -/
def sig31 : Sig := ⟨[.val (.str), .val (.str)], [.own 9], false⟩
def ann31 : List (Nat × Norm) := []
/-- masthead/mastref1.itemLines -/
def sig33 : Sig := ⟨[.val (.int .i64), .val (.int .i64), .val (.agg 37)], [.val (.slice 9)], false⟩
def ann33 : List (Nat × Norm) := [(4, { keep := some [(5, .asis), (7, .asis)], cut := true }), (6, { keep := some [(7, .asis), (8, .asis), (22, .asis), (23, .asis), (24, .asis)] })]
/-- masthead/mark.isInline -/
def sig34 : Sig := ⟨[.val (.int .i64)], [.val (.bool)], false⟩
def ann34 : List (Nat × Norm) := []
/-- masthead/mark.nodeFault -/
def sig35 : Sig := ⟨[.val (.agg 37), .val (.int .i64)], [.val (.int .i64)], false⟩
def ann35 : List (Nat × Norm) := []
/-- masthead/mark.fenceFits -/
def sig36 : Sig := ⟨[.val (.agg 37)], [.val (.bool)], false⟩
def ann36 : List (Nat × Norm) := [(4, { keep := some [(24, .dat 9), (25, .asis), (26, .asis)] })]
/-- masthead/mark.lineFits -/
def sig37 : Sig := ⟨[.val (.slice 37), .val (.int .i64)], [.val (.bool)], false⟩
def ann37 : List (Nat × Norm) := []
/-- masthead/mark.printedLine -/
def sig39 : Sig := ⟨[.val (.slice 37), .val (.bool)], [.val (.str)], false⟩
def ann39 : List (Nat × Norm) := []
/-- strings.HasPrefix -/
def sig40 : Sig := ⟨[.val (.str), .val (.str)], [.val (.bool)], false⟩
def ann40 : List (Nat × Norm) := []
/-- masthead/mark.prefixed -/
def sig41 : Sig := ⟨[.val (.str), .val (.str), .val (.str), .val (.str)], [.val (.str)], false⟩
def ann41 : List (Nat × Norm) := [(3, { keep := some [(1, .asis), (2, .asis), (3, .asis), (9, .asis), (13, .dat 9), (14, .asis), (15, .asis)], rows := [(9, 1, 5)] })]
/-- masthead/mark.printedList -/
def sig42 : Sig := ⟨[.val (.agg 37)], [.val (.str)], false⟩
def ann42 : List (Nat × Norm) := [(3, { keep := some [(1, .asis), (3, .asis), (8, .dat 37), (9, .asis), (10, .asis)], rows := [(3, 1, 5)] })]
/-- masthead/mastref1.permitted -/
def sig43 : Sig := ⟨[.val (.int .i64), .val (.int .i64)], [.val (.bool)], false⟩
def ann43 : List (Nat × Norm) := []
/-- masthead/mastref1.badBytes -/
def sig44 : Sig := ⟨[.val (.str), .val (.bool), .val (.bool)], [.val (.bool)], false⟩
def ann44 : List (Nat × Norm) := [(2, { keep := some [(0, .asis), (1, .asis), (2, .asis), (7, .asis)] })]
/-- masthead/mastref1.blankEnds -/
def sig45 : Sig := ⟨[.val (.str)], [.val (.bool), .val (.bool)], false⟩
def ann45 : List (Nat × Norm) := []
/-- masthead/mastref1.goodInlines -/
def sig46 : Sig := ⟨[.val (.slice 37), .val (.int .i64), .val (.agg 69)], [.val (.bool)], false⟩
def ann46 : List (Nat × Norm) := [(2, { keep := some [(0, .dat 37), (1, .asis), (5, .asis), (10, .dat 37), (11, .asis), (12, .asis)] })]
/-- strings.HasSuffix -/
def sig47 : Sig := ⟨[.val (.str), .val (.str)], [.val (.bool)], false⟩
def ann47 : List (Nat × Norm) := []
/-- masthead/mastref1.empty -/
def sig48 : Sig := ⟨[.val (.str)], [.val (.bool)], false⟩
def ann48 : List (Nat × Norm) := []
/-- masthead/mastref1.fenceEnd -/
def sig49 : Sig := ⟨[.val (.str)], [.val (.bool)], false⟩
def ann49 : List (Nat × Norm) := []
/-- masthead/mastref1.begun -/
def sig53 : Sig := ⟨[.val (.str)], [.val (.str)], false⟩
def ann53 : List (Nat × Norm) := [(2, { keep := some [(0, .asis), (3, .asis)] })]
/-- masthead/mastref1.escaped -/
def sig54 : Sig := ⟨[.val (.str), .val (.str)], [.val (.str)], false⟩
def ann54 : List (Nat × Norm) := [(3, { keep := some [(0, .asis), (1, .asis), (5, .asis), (6, .asis)] })]
/-- strings.genSplit -/
def sig55 : Sig := ⟨[.val (.str), .val (.str), .val (.int .i64), .val (.int .i64)], [.own 9], false⟩
def ann55 : List (Nat × Norm) := [(7, { keep := some [(0, .asis), (1, .asis), (2, .asis), (3, .asis)], cut := true }), (11, { keep := some [(0, .asis), (1, .asis), (2, .asis), (3, .asis), (9, .own 9), (10, .asis)] })]
/-- masthead/mark.permitted -/
def sig57 : Sig := ⟨[.val (.int .i64), .val (.int .i64)], [.val (.bool)], false⟩
def ann57 : List (Nat × Norm) := []
/-- masthead/mark.uses -/
def sig58 : Sig := ⟨[.val (.int .i64)], [.val (.str)], false⟩
def ann58 : List (Nat × Norm) := []
/-- masthead/mark.nodeFault$1 -/
def sig59 : Sig := ⟨[.val (.str), .val (.bool), .ref (.str)], [.val (.bool)], false⟩
def ann59 : List (Nat × Norm) := []
/-- masthead/mark.byteFault -/
def sig61 : Sig := ⟨[.val (.agg 37)], [.val (.bool)], false⟩
def ann61 : List (Nat × Norm) := []
/-- masthead/mark.trim -/
def sig62 : Sig := ⟨[.val (.str)], [.val (.str)], false⟩
def ann62 : List (Nat × Norm) := [(1, { keep := some [(0, .asis)] }), (3, { keep := some [(0, .asis)] })]
/-- masthead/mark.lines -/
def sig63 : Sig := ⟨[.val (.str)], [.val (.slice 9)], false⟩
def ann63 : List (Nat × Norm) := []
/-- masthead/mark.allBlank -/
def sig64 : Sig := ⟨[.val (.str)], [.val (.bool)], false⟩
def ann64 : List (Nat × Norm) := []
/-- masthead/mark.endsFence -/
def sig65 : Sig := ⟨[.val (.str)], [.val (.bool)], false⟩
def ann65 : List (Nat × Norm) := []
/-- masthead/mark.isBreak -/
def sig66 : Sig := ⟨[.val (.agg 37)], [.val (.bool)], false⟩
def ann66 : List (Nat × Norm) := []
/-- masthead/mark.isBlank -/
def sig67 : Sig := ⟨[.val (.int .u8)], [.val (.bool)], false⟩
def ann67 : List (Nat × Norm) := []
/-- masthead/mark.inlinesFit -/
def sig68 : Sig := ⟨[.val (.slice 37), .val (.agg 84)], [.val (.bool)], false⟩
def ann68 : List (Nat × Norm) := [(2, { keep := some [(0, .dat 37), (3, .asis), (7, .dat 37), (8, .asis), (9, .asis)] })]
/-- (*masthead/mark.printer).inlines -/
def sig70 : Sig := ⟨[.box 89 [.row 5, .val (.bool), .val (.bool)], .val (.slice 37)], [], false⟩
def ann70 : List (Nat × Norm) := [(1, { keep := some [(0, .asis), (6, .dat 37), (7, .asis), (8, .asis)], rows := [(0, 0, 5)] })]
/-- internal/stringslite.HasPrefix -/
def sig71 : Sig := ⟨[.val (.str), .val (.str)], [.val (.bool)], false⟩
def ann71 : List (Nat × Norm) := []
/-- masthead/mastref1.isBlock -/
def sig72 : Sig := ⟨[.val (.int .i64)], [.val (.bool)], false⟩
def ann72 : List (Nat × Norm) := []
/-- masthead/mastref1.isBlank -/
def sig73 : Sig := ⟨[.val (.int .u8)], [.val (.bool)], false⟩
def ann73 : List (Nat × Norm) := []
/-- masthead/mastref1.ended -/
def sig74 : Sig := ⟨[.val (.int .i64)], [.val (.bool)], false⟩
def ann74 : List (Nat × Norm) := []
/-- masthead/mastref1.starred -/
def sig75 : Sig := ⟨[.val (.int .i64)], [.val (.bool)], false⟩
def ann75 : List (Nat × Norm) := []
/-- masthead/mastref1.goodPair -/
def sig76 : Sig := ⟨[.val (.agg 37), .val (.agg 37)], [.val (.bool)], false⟩
def ann76 : List (Nat × Norm) := []
/-- masthead/mastref1.goodInline -/
def sig77 : Sig := ⟨[.val (.agg 37), .val (.agg 69)], [.val (.bool)], false⟩
def ann77 : List (Nat × Norm) := []
/-- internal/stringslite.HasSuffix -/
def sig78 : Sig := ⟨[.val (.str), .val (.str)], [.val (.bool)], false⟩
def ann78 : List (Nat × Norm) := []
/-- masthead/mastref1.trim -/
def sig79 : Sig := ⟨[.val (.str)], [.val (.str)], false⟩
def ann79 : List (Nat × Norm) := []
/-- masthead/mastref1.fenced -/
def sig80 : Sig := ⟨[.val (.str)], [.val (.bool)], false⟩
def ann80 : List (Nat × Norm) := []
/-- masthead/mastref1.isDigit -/
def sig84 : Sig := ⟨[.val (.int .u8)], [.val (.bool)], false⟩
def ann84 : List (Nat × Norm) := []
/-- masthead/mark.isBlock -/
def sig90 : Sig := ⟨[.val (.int .i64)], [.val (.bool)], false⟩
def ann90 : List (Nat × Norm) := []
/-- masthead/mark.control -/
def sig91 : Sig := ⟨[.val (.str), .val (.str)], [.val (.bool)], false⟩
def ann91 : List (Nat × Norm) := [(2, { keep := some [(0, .asis), (1, .asis), (5, .asis)] })]
/-- strings.TrimSuffix -/
def sig92 : Sig := ⟨[.val (.str), .val (.str)], [.val (.str)], false⟩
def ann92 : List (Nat × Norm) := []
/-- masthead/mark.isFence -/
def sig93 : Sig := ⟨[.val (.str)], [.val (.bool)], false⟩
def ann93 : List (Nat × Norm) := []
/-- masthead/mark.neighbors -/
def sig94 : Sig := ⟨[.val (.agg 37), .val (.agg 37)], [.val (.bool)], false⟩
def ann94 : List (Nat × Norm) := []
/-- masthead/mark.inlineFits -/
def sig95 : Sig := ⟨[.val (.agg 37), .val (.agg 84)], [.val (.bool)], false⟩
def ann95 : List (Nat × Norm) := [(25, { keep := some [(2, .asis), (3, .asis)], cut := true })]
/-- (*masthead/mark.printer).str -/
def sig96 : Sig := ⟨[.box 89 [.row 5, .val (.bool), .val (.bool)], .val (.str)], [], false⟩
def ann96 : List (Nat × Norm) := [(3, { keep := some [(0, .asis), (1, .asis), (4, .asis), (5, .asis)], rows := [(0, 0, 5)] })]
/-- (*masthead/mark.printer).put -/
def sig97 : Sig := ⟨[.box 89 [.row 5, .val (.bool), .val (.bool)], .val (.str)], [], false⟩
def ann97 : List (Nat × Norm) := []
/-- (*masthead/mark.printer).around -/
def sig98 : Sig := ⟨[.box 89 [.row 5, .val (.bool), .val (.bool)], .val (.str), .val (.agg 37)], [], false⟩
def ann98 : List (Nat × Norm) := []
/-- (*masthead/mark.printer).target -/
def sig99 : Sig := ⟨[.box 89 [.row 5, .val (.bool), .val (.bool)], .val (.agg 37)], [], false⟩
def ann99 : List (Nat × Norm) := []
/-- masthead/mark.slashed -/
def sig100 : Sig := ⟨[.val (.str), .val (.str)], [.val (.str)], false⟩
def ann100 : List (Nat × Norm) := [(3, { keep := some [(0, .asis), (1, .asis), (5, .own 5), (6, .asis)] })]
/-- masthead/mastref1.goodTarget -/
def sig101 : Sig := ⟨[.val (.agg 37)], [.val (.bool)], false⟩
def ann101 : List (Nat × Norm) := [(4, { keep := some [(1, .asis), (3, .asis)] })]
/-- internal/stringslite.TrimSuffix -/
def sig111 : Sig := ⟨[.val (.str), .val (.str)], [.val (.str)], false⟩
def ann111 : List (Nat × Norm) := []
/-- masthead/mark.isStar -/
def sig112 : Sig := ⟨[.val (.agg 37)], [.val (.bool)], false⟩
def ann112 : List (Nat × Norm) := []
/-- (masthead/mark.within).barless -/
def sig113 : Sig := ⟨[.val (.agg 84), .val (.str)], [.val (.bool)], false⟩
def ann113 : List (Nat × Norm) := []
/-- (masthead/mark.within).target -/
def sig114 : Sig := ⟨[.val (.agg 84), .val (.agg 37)], [.val (.bool)], false⟩
def ann114 : List (Nat × Norm) := [(2, { keep := some [(2, .asis), (3, .asis), (5, .asis)] }), (7, { keep := some [(2, .asis), (3, .asis), (6, .asis)] })]
/-- masthead/mark.isDigit -/
def sig115 : Sig := ⟨[.val (.int .u8)], [.val (.bool)], false⟩
def ann115 : List (Nat × Norm) := []
/-- masthead/mark.inDest -/
def sig133 : Sig := ⟨[.val (.int .u8)], [.val (.bool)], false⟩
def ann133 : List (Nat × Norm) := []
/-- masthead/mark.inTitle -/
def sig134 : Sig := ⟨[.val (.int .u8)], [.val (.bool)], false⟩
def ann134 : List (Nat × Norm) := []
def sig56 : Sig := ⟨[.val (.int .i64)], [.val .str], false⟩
def sig32 : Sig := ⟨[.val (.slice 9), .val .str], [.val .str], false⟩
def sig23 : Sig := ⟨[.box 42 [.self, .row 5]], [.val .str], true⟩
def sig38 : Sig := ⟨[.box 42 [.self, .row 5]], [], false⟩
def sig28 : Sig := ⟨[.val .str, .val (.int .i64)], [.val .str], false⟩
def sig85 : Sig := ⟨[.val .str, .val (.int .u8)], [.val (.int .i64)], false⟩
def sig60 : Sig := ⟨[.val .str, .val .str], [.val .bool], false⟩
def sig102 : Sig := ⟨[.val .str, .val .str], [.val .bool], false⟩
def sig103 : Sig := ⟨[.val .str, .val .str], [.val .str], false⟩
def sig88 : Sig := ⟨[.val .str, .val .str], [.val (.int .i64)], false⟩
def sig87 : Sig := ⟨[.val .str, .val .str], [.val (.int .i64)], false⟩
def sig86 : Sig := ⟨[.val .str, .val (.int .i64)], [.val (.slice 9)], false⟩
noncomputable def E : Env := { tt := tt, fns := [(3, Tryz.f3), (4, Tryz.f4), (5, Tryz.f5), (6, Tryz.f6), (7, Tryz.f7), (8, Tryz.f8), (9, Tryz.f9), (10, Tryz.f10), (11, Tryz.f11), (12, Tryz.f12), (13, Tryz.f13), (14, Tryz.f14), (15, Tryz.f15), (16, Tryz.f16), (17, Tryz.f17), (18, Tryz.f18), (19, Tryz.f19), (20, Tryz.f20), (22, Tryz.f22), (21, Tryz.f21), (24, Tryz.f24), (25, Tryz.f25), (26, Tryz.f26), (27, Tryz.f27), (29, Tryz.f29), (30, Tryz.f30), (31, Tryz.f31), (33, Tryz.f33), (34, Tryz.f34), (35, Tryz.f35), (36, Tryz.f36), (37, Tryz.f37), (39, Tryz.f39), (40, Tryz.f40), (41, Tryz.f41), (42, Tryz.f42), (43, Tryz.f43), (44, Tryz.f44), (45, Tryz.f45), (46, Tryz.f46), (47, Tryz.f47), (48, Tryz.f48), (49, Tryz.f49), (53, Tryz.f53), (54, Tryz.f54), (55, Tryz.f55), (57, Tryz.f57), (58, Tryz.f58), (59, Tryz.f59), (61, Tryz.f61), (62, Tryz.f62), (63, Tryz.f63), (64, Tryz.f64), (65, Tryz.f65), (66, Tryz.f66), (67, Tryz.f67), (68, Tryz.f68), (70, Tryz.f70), (71, Tryz.f71), (72, Tryz.f72), (73, Tryz.f73), (74, Tryz.f74), (75, Tryz.f75), (76, Tryz.f76), (77, Tryz.f77), (78, Tryz.f78), (79, Tryz.f79), (80, Tryz.f80), (84, Tryz.f84), (90, Tryz.f90), (91, Tryz.f91), (92, Tryz.f92), (93, Tryz.f93), (94, Tryz.f94), (95, Tryz.f95), (96, Tryz.f96), (97, Tryz.f97), (98, Tryz.f98), (99, Tryz.f99), (100, Tryz.f100), (101, Tryz.f101), (111, Tryz.f111), (112, Tryz.f112), (113, Tryz.f113), (114, Tryz.f114), (115, Tryz.f115), (133, Tryz.f133), (134, Tryz.f134)], sigs := [(3, sig3), (4, sig4), (5, sig5), (6, sig6), (7, sig7), (8, sig8), (9, sig9), (10, sig10), (11, sig11), (12, sig12), (13, sig13), (14, sig14), (15, sig15), (16, sig16), (17, sig17), (18, sig18), (19, sig19), (20, sig20), (22, sig22), (21, sig21), (24, sig24), (25, sig25), (26, sig26), (27, sig27), (29, sig29), (30, sig30), (31, sig31), (33, sig33), (34, sig34), (35, sig35), (36, sig36), (37, sig37), (39, sig39), (40, sig40), (41, sig41), (42, sig42), (43, sig43), (44, sig44), (45, sig45), (46, sig46), (47, sig47), (48, sig48), (49, sig49), (53, sig53), (54, sig54), (55, sig55), (57, sig57), (58, sig58), (59, sig59), (61, sig61), (62, sig62), (63, sig63), (64, sig64), (65, sig65), (66, sig66), (67, sig67), (68, sig68), (70, sig70), (71, sig71), (72, sig72), (73, sig73), (74, sig74), (75, sig75), (76, sig76), (77, sig77), (78, sig78), (79, sig79), (80, sig80), (84, sig84), (90, sig90), (91, sig91), (92, sig92), (93, sig93), (94, sig94), (95, sig95), (96, sig96), (97, sig97), (98, sig98), (99, sig99), (100, sig100), (101, sig101), (111, sig111), (112, sig112), (113, sig113), (114, sig114), (115, sig115), (133, sig133), (134, sig134), (56, sig56), (32, sig32), (23, sig23), (38, sig38), (28, sig28), (85, sig85), (60, sig60), (102, sig102), (103, sig103), (88, sig88), (87, sig87), (86, sig86)], ext := [(56, xItoa), (32, xJoin), (23, xString), (38, xCheck), (28, xRepeat), (85, xIndexByte), (60, xContains1), (102, xContainsAny), (103, xTrimS), (88, xIndex1), (87, xCount1), (86, xNone)], ann := [(3, ann3), (4, ann4), (5, ann5), (6, ann6), (7, ann7), (8, ann8), (9, ann9), (10, ann10), (11, ann11), (12, ann12), (13, ann13), (14, ann14), (15, ann15), (16, ann16), (17, ann17), (18, ann18), (19, ann19), (20, ann20), (22, ann22), (21, ann21), (24, ann24), (25, ann25), (26, ann26), (27, ann27), (29, ann29), (30, ann30), (31, ann31), (33, ann33), (34, ann34), (35, ann35), (36, ann36), (37, ann37), (39, ann39), (40, ann40), (41, ann41), (42, ann42), (43, ann43), (44, ann44), (45, ann45), (46, ann46), (47, ann47), (48, ann48), (49, ann49), (53, ann53), (54, ann54), (55, ann55), (57, ann57), (58, ann58), (59, ann59), (61, ann61), (62, ann62), (63, ann63), (64, ann64), (65, ann65), (66, ann66), (67, ann67), (68, ann68), (70, ann70), (71, ann71), (72, ann72), (73, ann73), (74, ann74), (75, ann75), (76, ann76), (77, ann77), (78, ann78), (79, ann79), (80, ann80), (84, ann84), (90, ann90), (91, ann91), (92, ann92), (93, ann93), (94, ann94), (95, ann95), (96, ann96), (97, ann97), (98, ann98), (99, ann99), (100, ann100), (101, ann101), (111, ann111), (112, ann112), (113, ann113), (114, ann114), (115, ann115), (133, ann133), (134, ann134)] }
theorem tt_all : ttB Tryz.prog tt tt = true := by kernel_rfl
theorem fns_ok : FnsOK Tryz.prog E E.fns := ⟨⟨Tryz.func3, by kernel_rfl⟩, ⟨Tryz.func4, by kernel_rfl⟩, ⟨Tryz.func5, by kernel_rfl⟩, ⟨Tryz.func6, by kernel_rfl⟩, ⟨Tryz.func7, by kernel_rfl⟩, ⟨Tryz.func8, by kernel_rfl⟩, ⟨Tryz.func9, by kernel_rfl⟩, ⟨Tryz.func10, by kernel_rfl⟩, ⟨Tryz.func11, by kernel_rfl⟩, ⟨Tryz.func12, by kernel_rfl⟩, ⟨Tryz.func13, by kernel_rfl⟩, ⟨Tryz.func14, by kernel_rfl⟩, ⟨Tryz.func15, by kernel_rfl⟩, ⟨Tryz.func16, by kernel_rfl⟩, ⟨Tryz.func17, by kernel_rfl⟩, ⟨Tryz.func18, by kernel_rfl⟩, ⟨Tryz.func19, by kernel_rfl⟩, ⟨Tryz.func20, by kernel_rfl⟩, ⟨Tryz.func22, by kernel_rfl⟩, ⟨Tryz.func21, by kernel_rfl⟩, ⟨Tryz.func24, by kernel_rfl⟩, ⟨Tryz.func25, by kernel_rfl⟩, ⟨Tryz.func26, by kernel_rfl⟩, ⟨Tryz.func27, by kernel_rfl⟩, ⟨Tryz.func29, by kernel_rfl⟩, ⟨Tryz.func30, by kernel_rfl⟩, ⟨Tryz.func31, by kernel_rfl⟩, ⟨Tryz.func33, by kernel_rfl⟩, ⟨Tryz.func34, by kernel_rfl⟩, ⟨Tryz.func35, by kernel_rfl⟩, ⟨Tryz.func36, by kernel_rfl⟩, ⟨Tryz.func37, by kernel_rfl⟩, ⟨Tryz.func39, by kernel_rfl⟩, ⟨Tryz.func40, by kernel_rfl⟩, ⟨Tryz.func41, by kernel_rfl⟩, ⟨Tryz.func42, by kernel_rfl⟩, ⟨Tryz.func43, by kernel_rfl⟩, ⟨Tryz.func44, by kernel_rfl⟩, ⟨Tryz.func45, by kernel_rfl⟩, ⟨Tryz.func46, by kernel_rfl⟩, ⟨Tryz.func47, by kernel_rfl⟩, ⟨Tryz.func48, by kernel_rfl⟩, ⟨Tryz.func49, by kernel_rfl⟩, ⟨Tryz.func53, by kernel_rfl⟩, ⟨Tryz.func54, by kernel_rfl⟩, ⟨Tryz.func55, by kernel_rfl⟩, ⟨Tryz.func57, by kernel_rfl⟩, ⟨Tryz.func58, by kernel_rfl⟩, ⟨Tryz.func59, by kernel_rfl⟩, ⟨Tryz.func61, by kernel_rfl⟩, ⟨Tryz.func62, by kernel_rfl⟩, ⟨Tryz.func63, by kernel_rfl⟩, ⟨Tryz.func64, by kernel_rfl⟩, ⟨Tryz.func65, by kernel_rfl⟩, ⟨Tryz.func66, by kernel_rfl⟩, ⟨Tryz.func67, by kernel_rfl⟩, ⟨Tryz.func68, by kernel_rfl⟩, ⟨Tryz.func70, by kernel_rfl⟩, ⟨Tryz.func71, by kernel_rfl⟩, ⟨Tryz.func72, by kernel_rfl⟩, ⟨Tryz.func73, by kernel_rfl⟩, ⟨Tryz.func74, by kernel_rfl⟩, ⟨Tryz.func75, by kernel_rfl⟩, ⟨Tryz.func76, by kernel_rfl⟩, ⟨Tryz.func77, by kernel_rfl⟩, ⟨Tryz.func78, by kernel_rfl⟩, ⟨Tryz.func79, by kernel_rfl⟩, ⟨Tryz.func80, by kernel_rfl⟩, ⟨Tryz.func84, by kernel_rfl⟩, ⟨Tryz.func90, by kernel_rfl⟩, ⟨Tryz.func91, by kernel_rfl⟩, ⟨Tryz.func92, by kernel_rfl⟩, ⟨Tryz.func93, by kernel_rfl⟩, ⟨Tryz.func94, by kernel_rfl⟩, ⟨Tryz.func95, by kernel_rfl⟩, ⟨Tryz.func96, by kernel_rfl⟩, ⟨Tryz.func97, by kernel_rfl⟩, ⟨Tryz.func98, by kernel_rfl⟩, ⟨Tryz.func99, by kernel_rfl⟩, ⟨Tryz.func100, by kernel_rfl⟩, ⟨Tryz.func101, by kernel_rfl⟩, ⟨Tryz.func111, by kernel_rfl⟩, ⟨Tryz.func112, by kernel_rfl⟩, ⟨Tryz.func113, by kernel_rfl⟩, ⟨Tryz.func114, by kernel_rfl⟩, ⟨Tryz.func115, by kernel_rfl⟩, ⟨Tryz.func133, by kernel_rfl⟩, ⟨Tryz.func134, by kernel_rfl⟩, trivial⟩
theorem mixed : Tryz.prog.follows .mixedOrders = true := by kernel_rfl
theorem exts_ok (W0 : World) (ht : Lib.TabIs Tryz.prog W0 "internal/strconv.uint64pow10" .u64 Lib.pow10Tab) : ExtsOK Tryz.prog E W0 E.ext := ⟨
  extItoa (c := (Tryz.f56.body).getD .skip) Tryz.func56 (by kernel_rfl) (by kernel_rfl) (by kernel_rfl) Tryz.strconv_Itoa ht,
  extJoin (c := (Tryz.f32.body).getD .skip) (e := 9) (ti := ⟨.str, [.str], [], 16⟩) Tryz.func32 (by kernel_rfl) (by kernel_rfl) (by kernel_rfl) (by kernel_rfl) rfl rfl Tryz.strings_Join_none Tryz.strings_Join,
  extString (f := 23) (t := 42) (e := 5) (ti := ⟨.agg 42, [.ptr, .slice 5], [(0, 39), (1, 40)], 32⟩) (ei := ⟨.int .u8, [.int .u8], [], 1⟩) (c := (Tryz.f23.body).getD .skip) Tryz.lays169 Tryz.Builder_Extra_169 rfl rfl rfl Tryz.func23 (by kernel_rfl) (by kernel_rfl) (by kernel_rfl) (by kernel_rfl) (by kernel_rfl) (by kernel_rfl) (by kernel_rfl) (by kernel_rfl),
  extCheck (f := 38) (t := 42) (e := 5) (ti := ⟨.agg 42, [.ptr, .slice 5], [(0, 39), (1, 40)], 32⟩) (ei := ⟨.int .u8, [.int .u8], [], 1⟩) (c := (Tryz.f38.body).getD .skip) Tryz.func38 (by kernel_rfl) (by kernel_rfl) (by kernel_rfl) (by kernel_rfl) (by kernel_rfl) (by decide) (by kernel_rfl)
    (fun b w h => Any.Builder_copyCheck_used { Tryz.lays156 with } Tryz.Builder_Extra_156.toX72 b w h) (fun b w h1 h2 h3 => Any.Builder_copyCheck_fresh { Tryz.lays156 with } Tryz.Builder_Extra_156.toX72 b w h1 h2 h3),
  extRepeat (c := (Tryz.f28.body).getD .skip) Tryz.func28 (by kernel_rfl) (by kernel_rfl) (by kernel_rfl) Tryz.strings_Repeat,
  extIndexByte (c := (Tryz.f85.body).getD .skip) Tryz.func85 (by kernel_rfl) (by kernel_rfl) (by kernel_rfl) Tryz.strings_IndexByte,
  extContains1 (c := (Tryz.f60.body).getD .skip) Tryz.func60 (by kernel_rfl) (by kernel_rfl) (by kernel_rfl) Tryz.strings_Contains_one,
  extContainsAny (c := (Tryz.f102.body).getD .skip) Tryz.func102 (by kernel_rfl) (by kernel_rfl) (by kernel_rfl) Tryz.strings_ContainsAny_all,
  extTrimS (c := (Tryz.f103.body).getD .skip) Tryz.func103 (by kernel_rfl) (by kernel_rfl) (by kernel_rfl) Tryz.strings_Trim_set,
  extIndex1 (c := (Tryz.f88.body).getD .skip) Tryz.func88 (by kernel_rfl) (by kernel_rfl) (by kernel_rfl) Tryz.strings_Index_one,
  extCount1 (c := (Tryz.f87.body).getD .skip) Tryz.func87 (by kernel_rfl) (by kernel_rfl) (by kernel_rfl) Tryz.strings_Count_one,
  extNone, trivial⟩
theorem env (W0 : World) (ht : Lib.TabIs Tryz.prog W0 "internal/strconv.uint64pow10" .u64 Lib.pow10Tab) : EnvOK Tryz.prog E W0 := ⟨mixed, (tt_ok tt_all).1, fun f fn h => fns_of fns_ok f fn h, fun f g h => exts_of (exts_ok W0 ht) f g h⟩
end Go.Proofs.YtlmfiknfkgdbpaaGreatDoor.pr
