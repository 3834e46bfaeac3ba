/- A part of the proof. -/
import Derived.Test.YtefclcihphpejaaDoorF7
import Derived.Test.YtefclcihphpejaaDoorChecked
import Derived.Test.YtefclcihphpejaaDoorRows
import Derived.WalkKit
import Derived.ProofKit
import Derived.Test.YtefclcihphpejaaDoorDxScS
set_option linter.unusedVariables false
set_option linter.unusedSimpArgs false
namespace Go.Proofs.YtefclcihphpejaaDoor.sc
open Go.Proofs.YtefclcihphpejaaDoor.DS

def tt : TT := [(3, ⟨.int .i64, [.int .i64], [], 8⟩),
  (4, ⟨.bool, [.bool], [], 1⟩),
  (5, ⟨.int .u8, [.int .u8], [], 1⟩),
  (9, ⟨.str, [.str], [], 16⟩),
  (22, ⟨.slice 57, [.slice 57], [], 24⟩),
  (23, ⟨.slice 3, [.slice 3], [], 24⟩),
  (24, ⟨.slice 54, [.slice 54], [], 24⟩),
  (26, ⟨.agg 26, [.slice 57, .slice 3, .slice 54], [(0, 22), (1, 23), (2, 24)], 72⟩),
  (27, ⟨.int .i64, [.int .i64], [], 8⟩),
  (38, ⟨.slice 9, [.slice 9], [], 24⟩),
  (54, ⟨.agg 54, [.str, .slice 3, .slice 3], [(0, 9), (1, 23), (2, 23)], 64⟩),
  (57, ⟨.agg 57, [.str, .str, .str], [(0, 9), (1, 9), (2, 9)], 48⟩),
  (90, ⟨.ptr, [.ptr], [], 8⟩),
  (91, ⟨.slice 5, [.slice 5], [], 24⟩),
  (93, ⟨.agg 93, [.ptr, .slice 5], [(0, 90), (1, 91)], 32⟩)]
/-- masthead/mastlaw1.ShipWrites -/
def sig3 : Sig := ⟨[.val (.agg 26)], [.val (.bool)], false⟩
def ann3 : List (Nat × Norm) := []
/-- masthead/ship.IndexText -/
def sig7 : Sig := ⟨[.val (.agg 26)], [.val (.str), .val (.int .i64)], false⟩
def ann7 : List (Nat × Norm) := []
/-- masthead/mastref1.IndexError -/
def sig8 : Sig := ⟨[.val (.agg 26)], [.val (.int .i64)], false⟩
def ann8 : List (Nat × Norm) := [(7, { keep := some [(1, .asis), (25, .dat 3), (26, .asis), (27, .asis)] }), (13, { keep := some [(1, .asis), (36, .dat 54), (37, .asis), (38, .asis)] }), (23, { keep := some [(1, .asis), (7, .asis), (36, .dat 54), (37, .asis), (38, .asis), (85, .dat 3), (86, .asis), (87, .asis)] })]
/-- masthead/mastref1.IndexBytes -/
def sig9 : Sig := ⟨[.val (.agg 26)], [.val (.str)], false⟩
def ann9 : List (Nat × Norm) := [(3, { keep := some [(1, .asis), (3, .own 9), (11, .dat 57), (12, .asis), (13, .asis)] }), (8, { keep := some [(3, .own 9), (39, .dat 54), (40, .asis), (41, .asis)] }), (12, { keep := some [(3, .own 9), (7, .asis), (39, .dat 54), (40, .asis), (41, .asis), (52, .dat 3), (53, .asis), (54, .asis)] }), (18, { frz := [3] })]
/-- masthead/ship.indexFault -/
def sig20 : Sig := ⟨[.val (.agg 26)], [.val (.int .i64)], false⟩
def ann20 : List (Nat × Norm) := [(5, { keep := some [(1, .asis), (14, .dat 54), (15, .asis), (16, .asis)] })]
/-- masthead/ship.indexText -/
def sig21 : Sig := ⟨[.val (.agg 26)], [.val (.str)], false⟩
def ann21 : List (Nat × Norm) := [(3, { keep := some [(1, .asis), (3, .asis), (11, .dat 57), (12, .asis), (13, .asis)], rows := [(3, 1, 5)] }), (8, { keep := some [(3, .asis), (37, .dat 54), (38, .asis), (39, .asis)], rows := [(3, 1, 5)] }), (12, { keep := some [(3, .asis), (7, .asis), (37, .dat 54), (38, .asis), (39, .asis), (48, .dat 3), (49, .asis), (50, .asis)], rows := [(3, 1, 5)] })]
/-- masthead/mastref1.docsError -/
def sig22 : Sig := ⟨[.val (.slice 57), .val (.bool)], [.val (.int .i64)], false⟩
def ann22 : List (Nat × Norm) := [(4, { keep := some [(0, .dat 57), (1, .asis), (12, .dat 57), (13, .asis), (14, .asis)] })]
/-- masthead/mastref1.inRange -/
def sig23 : Sig := ⟨[.val (.int .i64), .val (.int .i64)], [.val (.bool)], false⟩
def ann23 : List (Nat × Norm) := []
/-- masthead/mastref1.WordsIn -/
def sig24 : Sig := ⟨[.val (.str)], [.val (.slice 9)], false⟩
def ann24 : List (Nat × Norm) := [(4, { keep := some [(0, .asis), (3, .own 9), (4, .asis), (5, .asis)] })]
/-- masthead/ship.docsFault -/
def sig50 : Sig := ⟨[.val (.agg 26)], [.val (.int .i64)], false⟩
def ann50 : List (Nat × Norm) := [(4, { keep := some [(1, .asis), (14, .dat 57), (15, .asis), (16, .asis)] }), (19, { keep := some [(63, .dat 3), (64, .asis), (65, .asis)] })]
/-- masthead/ship.Words -/
def sig51 : Sig := ⟨[.val (.str)], [.val (.slice 9)], false⟩
def ann51 : List (Nat × Norm) := [(3, { keep := some [(0, .asis), (3, .own 9), (4, .asis)] }), (5, { keep := some [(0, .asis), (3, .own 9), (4, .asis), (5, .asis)] })]
/-- masthead/ship.termFault -/
def sig52 : Sig := ⟨[.val (.agg 54), .val (.int .i64)], [.val (.int .i64)], false⟩
def ann52 : List (Nat × Norm) := [(4, { keep := some [(1, .asis), (2, .asis), (21, .dat 3), (22, .asis), (23, .asis)] })]
/-- (*strings.Builder).WriteString -/
def sig53 : Sig := ⟨[.box 93 [.self, .row 5], .val (.str)], [.val (.int .i64), .any], false⟩
def ann53 : List (Nat × Norm) := []
/-- masthead/mastref1.PathOf -/
def sig55 : Sig := ⟨[.val (.str)], [.val (.str), .val (.int .i64)], false⟩
def ann55 : List (Nat × Norm) := []
/-- masthead/mastref1.badBytes -/
def sig56 : Sig := ⟨[.val (.str), .val (.bool), .val (.bool)], [.val (.bool)], false⟩
def ann56 : List (Nat × Norm) := [(2, { keep := some [(0, .asis), (1, .asis), (2, .asis), (7, .asis)] })]
/-- masthead/mastref1.isLetter -/
def sig57 : Sig := ⟨[.val (.int .u8)], [.val (.bool)], false⟩
def ann57 : List (Nat × Norm) := []
/-- masthead/mastref1.isDigit -/
def sig58 : Sig := ⟨[.val (.int .u8)], [.val (.bool)], false⟩
def ann58 : List (Nat × Norm) := []
/-- masthead/mastref1.lower -/
def sig59 : Sig := ⟨[.val (.str)], [.val (.str)], false⟩
def ann59 : List (Nat × Norm) := [(3, { keep := some [(3, .asis), (8, .asis), (9, .asis), (10, .asis)] })]
/-- masthead/ship.Path -/
def sig87 : Sig := ⟨[.val (.str)], [.val (.str), .val (.int .i64)], false⟩
def ann87 : List (Nat × Norm) := []
/-- masthead/ship.control -/
def sig88 : Sig := ⟨[.val (.str)], [.val (.bool)], false⟩
def ann88 : List (Nat × Norm) := [(2, { keep := some [(0, .asis), (3, .asis)] })]
/-- masthead/ship.isLetter -/
def sig89 : Sig := ⟨[.val (.int .u8)], [.val (.bool)], false⟩
def ann89 : List (Nat × Norm) := []
/-- masthead/ship.isDigit -/
def sig90 : Sig := ⟨[.val (.int .u8)], [.val (.bool)], false⟩
def ann90 : List (Nat × Norm) := []
/-- masthead/ship.lower -/
def sig91 : Sig := ⟨[.val (.str)], [.val (.str)], false⟩
def ann91 : List (Nat × Norm) := [(3, { keep := some [(3, .asis), (8, .asis), (9, .asis), (10, .asis)] })]
/-- strings.HasPrefix -/
def sig29 : Sig := ⟨[.val (.str), .val (.str)], [.val (.bool)], false⟩
def ann29 : List (Nat × Norm) := []
/-- strings.HasSuffix -/
def sig27 : Sig := ⟨[.val (.str), .val (.str)], [.val (.bool)], false⟩
def ann27 : List (Nat × Norm) := []
/-- masthead/mastref1.IsPath -/
def sig43 : Sig := ⟨[.val (.str)], [.val (.bool)], false⟩
def ann43 : List (Nat × Norm) := [(4, { keep := some [(14, .dat 9), (15, .asis), (16, .asis)] })]
/-- masthead/ship.isPath -/
def sig69 : Sig := ⟨[.val (.str)], [.val (.bool)], false⟩
def ann69 : List (Nat × Norm) := [(4, { keep := some [(9, .dat 9), (10, .asis), (11, .asis)] })]
/-- internal/stringslite.HasPrefix -/
def sig64 : Sig := ⟨[.val (.str), .val (.str)], [.val (.bool)], false⟩
def ann64 : List (Nat × Norm) := []
/-- internal/stringslite.HasSuffix -/
def sig62 : Sig := ⟨[.val (.str), .val (.str)], [.val (.bool)], false⟩
def ann62 : List (Nat × Norm) := []
/-- strings.Split -/
def sig35 : Sig := ⟨[.val (.str), .val (.str)], [.val (.slice 9)], false⟩
def ann35 : List (Nat × Norm) := []
/-- masthead/mastref1.pathPart -/
def sig72 : Sig := ⟨[.val (.str)], [.val (.bool)], false⟩
def ann72 : List (Nat × Norm) := [(4, { keep := some [(0, .asis), (3, .asis)] })]
/-- masthead/ship.isPart -/
def sig100 : Sig := ⟨[.val (.str)], [.val (.bool)], false⟩
def ann100 : List (Nat × Norm) := [(4, { keep := some [(0, .asis), (3, .asis)] })]
/-- strings.genSplit -/
def sig67 : Sig := ⟨[.val (.str), .val (.str), .val (.int .i64), .val (.int .i64)], [.val (.slice 9)], false⟩
def ann67 : List (Nat × Norm) := [(7, { keep := some [(0, .asis), (1, .asis), (2, .asis), (3, .asis)], cut := true }), (11, { keep := some [(0, .asis), (1, .asis), (2, .asis), (3, .asis), (9, .own 9), (10, .asis)] })]
/-- masthead/mastref1.wordByte -/
def sig104 : Sig := ⟨[.val (.int .u8)], [.val (.bool)], false⟩
def ann104 : List (Nat × Norm) := []
def sig25 : Sig := ⟨[.val (.int .i64)], [.val .str], false⟩
def sig26 : Sig := ⟨[.val (.slice 9), .val .str], [.val .str], false⟩
def sig54 : Sig := ⟨[.box 93 [.self, .row 5]], [.val .str], true⟩
def sig92 : Sig := ⟨[.box 93 [.self, .row 5]], [], false⟩
def sig98 : Sig := ⟨[.val .str, .val .str], [.val (.int .i64)], false⟩
def sig97 : Sig := ⟨[.val .str, .val .str], [.val (.int .i64)], false⟩
def sig95 : Sig := ⟨[.val .str, .val .str], [.val (.int .i64)], false⟩
def sig36 : Sig := ⟨[.val .str, .val (.int .u8)], [.val (.int .i64)], false⟩
def sig96 : Sig := ⟨[.val .str, .val (.int .i64)], [.val (.slice 9)], false⟩
noncomputable def E : Env := { tt := tt, fns := [(3, Tryd.f3), (7, Tryd.f7), (8, Tryd.f8), (9, Tryd.f9), (20, Tryd.f20), (21, Tryd.f21), (22, Tryd.f22), (23, Tryd.f23), (24, Tryd.f24), (50, Tryd.f50), (51, Tryd.f51), (52, Tryd.f52), (53, Tryd.f53), (55, Tryd.f55), (56, Tryd.f56), (57, Tryd.f57), (58, Tryd.f58), (59, Tryd.f59), (87, Tryd.f87), (88, Tryd.f88), (89, Tryd.f89), (90, Tryd.f90), (91, Tryd.f91), (29, Tryd.f29), (27, Tryd.f27), (43, Tryd.f43), (69, Tryd.f69), (64, Tryd.f64), (62, Tryd.f62), (35, Tryd.f35), (72, Tryd.f72), (100, Tryd.f100), (67, Tryd.f67), (104, Tryd.f104)], sigs := [(3, sig3), (7, sig7), (8, sig8), (9, sig9), (20, sig20), (21, sig21), (22, sig22), (23, sig23), (24, sig24), (50, sig50), (51, sig51), (52, sig52), (53, sig53), (55, sig55), (56, sig56), (57, sig57), (58, sig58), (59, sig59), (87, sig87), (88, sig88), (89, sig89), (90, sig90), (91, sig91), (29, sig29), (27, sig27), (43, sig43), (69, sig69), (64, sig64), (62, sig62), (35, sig35), (72, sig72), (100, sig100), (67, sig67), (104, sig104), (25, sig25), (26, sig26), (54, sig54), (92, sig92), (98, sig98), (97, sig97), (95, sig95), (36, sig36), (96, sig96)], ext := [(25, xItoa), (26, xJoin), (54, xString), (92, xCheck), (98, xIndex1), (97, xCount1), (95, xIndex1), (36, xIndexByte), (96, xNone)], ann := [(3, ann3), (7, ann7), (8, ann8), (9, ann9), (20, ann20), (21, ann21), (22, ann22), (23, ann23), (24, ann24), (50, ann50), (51, ann51), (52, ann52), (53, ann53), (55, ann55), (56, ann56), (57, ann57), (58, ann58), (59, ann59), (87, ann87), (88, ann88), (89, ann89), (90, ann90), (91, ann91), (29, ann29), (27, ann27), (43, ann43), (69, ann69), (64, ann64), (62, ann62), (35, ann35), (72, ann72), (100, ann100), (67, ann67), (104, ann104)] }
theorem tt_all : ttB Tryd.prog tt tt = true := by kernel_rfl
theorem fns_ok : FnsOK Tryd.prog E E.fns := ⟨⟨Tryd.func3, by kernel_rfl⟩, ⟨Tryd.func7, by kernel_rfl⟩, ⟨Tryd.func8, by kernel_rfl⟩, ⟨Tryd.func9, by kernel_rfl⟩, ⟨Tryd.func20, by kernel_rfl⟩, ⟨Tryd.func21, by kernel_rfl⟩, ⟨Tryd.func22, by kernel_rfl⟩, ⟨Tryd.func23, by kernel_rfl⟩, ⟨Tryd.func24, by kernel_rfl⟩, ⟨Tryd.func50, by kernel_rfl⟩, ⟨Tryd.func51, by kernel_rfl⟩, ⟨Tryd.func52, by kernel_rfl⟩, ⟨Tryd.func53, by kernel_rfl⟩, ⟨Tryd.func55, by kernel_rfl⟩, ⟨Tryd.func56, by kernel_rfl⟩, ⟨Tryd.func57, by kernel_rfl⟩, ⟨Tryd.func58, by kernel_rfl⟩, ⟨Tryd.func59, by kernel_rfl⟩, ⟨Tryd.func87, by kernel_rfl⟩, ⟨Tryd.func88, by kernel_rfl⟩, ⟨Tryd.func89, by kernel_rfl⟩, ⟨Tryd.func90, by kernel_rfl⟩, ⟨Tryd.func91, by kernel_rfl⟩, ⟨Tryd.func29, by kernel_rfl⟩, ⟨Tryd.func27, by kernel_rfl⟩, ⟨Tryd.func43, by kernel_rfl⟩, ⟨Tryd.func69, by kernel_rfl⟩, ⟨Tryd.func64, by kernel_rfl⟩, ⟨Tryd.func62, by kernel_rfl⟩, ⟨Tryd.func35, by kernel_rfl⟩, ⟨Tryd.func72, by kernel_rfl⟩, ⟨Tryd.func100, by kernel_rfl⟩, ⟨Tryd.func67, by kernel_rfl⟩, ⟨Tryd.func104, by kernel_rfl⟩, trivial⟩
theorem mixed : Tryd.prog.follows .mixedOrders = true := by kernel_rfl
theorem exts_ok (W0 : World) (ht : Lib.TabIs Tryd.prog W0 "internal/strconv.uint64pow10" .u64 Lib.pow10Tab) : ExtsOK Tryd.prog E W0 E.ext := ⟨
  extItoa (c := (Tryd.f25.body).getD .skip) Tryd.func25 (by kernel_rfl) (by kernel_rfl) (by kernel_rfl) Tryd.strconv_Itoa ht,
  extJoin (c := (Tryd.f26.body).getD .skip) (e := 9) (ti := ⟨.str, [.str], [], 16⟩) Tryd.func26 (by kernel_rfl) (by kernel_rfl) (by kernel_rfl) (by kernel_rfl) rfl rfl Tryd.strings_Join_none Tryd.strings_Join,
  extString (f := 54) (t := 93) (e := 5) (ti := ⟨.agg 93, [.ptr, .slice 5], [(0, 90), (1, 91)], 32⟩) (ei := ⟨.int .u8, [.int .u8], [], 1⟩) (c := (Tryd.f54.body).getD .skip) Tryd.lays169 Tryd.Builder_Extra_169 rfl rfl rfl Tryd.func54 (by kernel_rfl) (by kernel_rfl) (by kernel_rfl) (by kernel_rfl) (by kernel_rfl) (by kernel_rfl) (by kernel_rfl) (by kernel_rfl),
  extCheck (f := 92) (t := 93) (e := 5) (ti := ⟨.agg 93, [.ptr, .slice 5], [(0, 90), (1, 91)], 32⟩) (ei := ⟨.int .u8, [.int .u8], [], 1⟩) (c := (Tryd.f92.body).getD .skip) Tryd.func92 (by kernel_rfl) (by kernel_rfl) (by kernel_rfl) (by kernel_rfl) (by kernel_rfl) (by decide) (by kernel_rfl)
    (fun b w h => Any.Builder_copyCheck_used { Tryd.lays156 with } Tryd.Builder_Extra_156.toX72 b w h) (fun b w h1 h2 h3 => Any.Builder_copyCheck_fresh { Tryd.lays156 with } Tryd.Builder_Extra_156.toX72 b w h1 h2 h3),
  extIndex1 (c := (Tryd.f98.body).getD .skip) Tryd.func98 (by kernel_rfl) (by kernel_rfl) (by kernel_rfl) Tryd.strings_Index_one,
  extCount1 (c := (Tryd.f97.body).getD .skip) Tryd.func97 (by kernel_rfl) (by kernel_rfl) (by kernel_rfl) Tryd.strings_Count_one,
  extIndex1 (c := (Tryd.f95.body).getD .skip) Tryd.func95 (by kernel_rfl) (by kernel_rfl) (by kernel_rfl) Tryd.stringslite_Index_one,
  extIndexByte (c := (Tryd.f36.body).getD .skip) Tryd.func36 (by kernel_rfl) (by kernel_rfl) (by kernel_rfl) Tryd.strings_IndexByte,
  extNone, trivial⟩
theorem env (W0 : World) (ht : Lib.TabIs Tryd.prog W0 "internal/strconv.uint64pow10" .u64 Lib.pow10Tab) : EnvOK Tryd.prog E W0 := ⟨mixed, (tt_ok tt_all).1, fun f fn h => fns_of fns_ok f fn h, fun f g h => exts_of (exts_ok W0 ht) f g h⟩
end Go.Proofs.YtefclcihphpejaaDoor.sc
