/- A part of the proof. -/
import Derived.Test.YtefclcihphpejaaDoorF8
import Derived.Test.YtefclcihphpejaaDoorChecked
import Derived.Test.YtefclcihphpejaaDoorRows
import Derived.WalkKit
import Derived.ProofKit
import Derived.Test.YtefclcihphpejaaDoorDxEvS
import Derived.Test.YtefclcihphpejaaDoorF9
set_option linter.unusedVariables false
set_option linter.unusedSimpArgs false
namespace Go.Proofs.YtefclcihphpejaaDoor.ev
open Go.Proofs.YtefclcihphpejaaDoor.DS

def tt : TT := [(3, ⟨.int .i64, [.int .i64], [], 8⟩),
  (4, ⟨.bool, [.bool], [], 1⟩),
  (5, ⟨.int .u8, [.int .u8], [], 1⟩),
  (9, ⟨.str, [.str], [], 16⟩),
  (27, ⟨.int .i64, [.int .i64], [], 8⟩),
  (37, ⟨.slice 75, [.slice 75], [], 24⟩),
  (38, ⟨.slice 9, [.slice 9], [], 24⟩),
  (72, ⟨.map, [.map], [(0, 9), (0, 9)], 8⟩),
  (75, ⟨.agg 75, [.str, .str], [(0, 9), (1, 9)], 32⟩)]
/-- masthead/mastlaw1.ShipEvents -/
def sig5 : Sig := ⟨[.val (.slice 75), .val (.slice 75)], [.val (.bool)], false⟩
def ann5 : List (Nat × Norm) := [(1, { frz := [1, 0] }), (7, { frz := [1, 0] })]
/-- masthead/ship.Events -/
def sig13 : Sig := ⟨[.val (.slice 75), .val (.slice 75)], [.val (.slice 9), .val (.int .i64)], false⟩
def ann13 : List (Nat × Norm) := [(10, { keep := some [(1, .dat 75), (8, .asis), (9, .asis), (10, .own 9), (37, .dat 75), (38, .asis), (39, .asis)] }), (18, { keep := some [(8, .asis), (10, .own 9), (69, .dat 75), (70, .asis), (71, .asis)] }), (7, { frz := [1, 0] })]
/-- masthead/mastref1.OutsError -/
def sig14 : Sig := ⟨[.val (.slice 75)], [.val (.int .i64)], false⟩
def ann14 : List (Nat × Norm) := [(4, { keep := some [(0, .dat 75), (10, .dat 75), (11, .asis), (12, .asis)] }), (11, { keep := some [(0, .dat 75), (4, .asis), (10, .dat 75), (11, .asis), (12, .asis), (37, .dat 75), (38, .asis), (39, .asis)] })]
/-- masthead/mastref1.EventsOf -/
def sig16 : Sig := ⟨[.val (.slice 75), .val (.slice 75)], [.val (.slice 9)], false⟩
def ann16 : List (Nat × Norm) := [(3, { keep := some [(0, .dat 75), (1, .dat 75), (5, .own 9), (18, .dat 75), (19, .asis), (20, .asis)] }), (11, { keep := some [(0, .dat 75), (5, .own 9), (50, .dat 75), (51, .asis), (52, .asis)] })]
/-- slices.Equal[[]string,string] -/
def sig15 : Sig := ⟨[.val (.slice 9), .val (.slice 9)], [.val (.bool)], false⟩
def ann15 : List (Nat × Norm) := [(4, { keep := some [(0, .dat 9), (1, .dat 9), (12, .asis), (13, .asis)] })]
/-- masthead/ship.CheckOuts -/
def sig39 : Sig := ⟨[.val (.slice 75)], [.val (.int .i64)], false⟩
def ann39 : List (Nat × Norm) := [(4, { keep := some [(0, .dat 75), (10, .dat 75), (11, .asis), (12, .asis)] }), (11, { keep := some [(0, .dat 75), (4, .asis), (10, .dat 75), (11, .asis), (12, .asis), (39, .dat 75), (40, .asis), (41, .asis)] })]
/-- masthead/ship.bodies -/
def sig40 : Sig := ⟨[.val (.slice 75)], [.mp 72], false⟩
def ann40 : List (Nat × Norm) := [(3, { keep := some [(3, .asis), (7, .dat 75), (8, .asis), (9, .asis)] })]
/-- masthead/ship.Address -/
def sig41 : Sig := ⟨[.val (.str)], [.val (.str), .val (.int .i64)], false⟩
def ann41 : List (Nat × Norm) := []
/-- masthead/mastref1.IsPath -/
def sig43 : Sig := ⟨[.val (.str)], [.val (.bool)], false⟩
def ann43 : List (Nat × Norm) := [(4, { keep := some [(14, .dat 9), (15, .asis), (16, .asis)] })]
/-- strings.HasPrefix -/
def sig29 : Sig := ⟨[.val (.str), .val (.str)], [.val (.bool)], false⟩
def ann29 : List (Nat × Norm) := []
/-- masthead/mastref1.bodyOf -/
def sig44 : Sig := ⟨[.val (.slice 75), .val (.str)], [.val (.str), .val (.bool)], false⟩
def ann44 : List (Nat × Norm) := []
/-- masthead/mastref1.AddressOf -/
def sig45 : Sig := ⟨[.val (.str)], [.val (.str), .val (.int .i64)], false⟩
def ann45 : List (Nat × Norm) := []
/-- masthead/mastref1.Sorted -/
def sig46 : Sig := ⟨[.own 9], [.val (.slice 9)], false⟩
def ann46 : List (Nat × Norm) := [(4, { keep := some [(0, .asis), (3, .own 9), (8, .asis), (9, .asis), (10, .asis)] })]
/-- masthead/ship.isPath -/
def sig69 : Sig := ⟨[.val (.str)], [.val (.bool)], false⟩
def ann69 : List (Nat × Norm) := [(4, { keep := some [(9, .dat 9), (10, .asis), (11, .asis)] })]
/-- strings.HasSuffix -/
def sig27 : Sig := ⟨[.val (.str), .val (.str)], [.val (.bool)], false⟩
def ann27 : List (Nat × Norm) := []
/-- strings.TrimSuffix -/
def sig70 : Sig := ⟨[.val (.str), .val (.str)], [.val (.str)], false⟩
def ann70 : List (Nat × Norm) := []
/-- strings.Split -/
def sig35 : Sig := ⟨[.val (.str), .val (.str)], [.val (.slice 9)], false⟩
def ann35 : List (Nat × Norm) := []
/-- masthead/mastref1.pathPart -/
def sig72 : Sig := ⟨[.val (.str)], [.val (.bool)], false⟩
def ann72 : List (Nat × Norm) := [(4, { keep := some [(0, .asis), (3, .asis)] })]
/-- internal/stringslite.HasPrefix -/
def sig64 : Sig := ⟨[.val (.str), .val (.str)], [.val (.bool)], false⟩
def ann64 : List (Nat × Norm) := []
/-- masthead/mastref1.outAt -/
def sig73 : Sig := ⟨[.val (.slice 75), .val (.str)], [.val (.int .i64)], false⟩
def ann73 : List (Nat × Norm) := [(2, { keep := some [(1, .asis), (7, .dat 75), (8, .asis), (9, .asis)] })]
/-- masthead/ship.isPart -/
def sig100 : Sig := ⟨[.val (.str)], [.val (.bool)], false⟩
def ann100 : List (Nat × Norm) := [(4, { keep := some [(0, .asis), (3, .asis)] })]
/-- internal/stringslite.HasSuffix -/
def sig62 : Sig := ⟨[.val (.str), .val (.str)], [.val (.bool)], false⟩
def ann62 : List (Nat × Norm) := []
/-- internal/stringslite.TrimSuffix -/
def sig101 : Sig := ⟨[.val (.str), .val (.str)], [.val (.str)], false⟩
def ann101 : List (Nat × Norm) := []
/-- strings.genSplit -/
def sig67 : Sig := ⟨[.val (.str), .val (.str), .val (.int .i64), .val (.int .i64)], [.val (.slice 9)], false⟩
def ann67 : List (Nat × Norm) := [(7, { keep := some [(0, .asis), (1, .asis), (2, .asis), (3, .asis)], cut := true }), (11, { keep := some [(0, .asis), (1, .asis), (2, .asis), (3, .asis), (9, .own 9), (10, .asis)] })]
/-- masthead/mastref1.wordByte -/
def sig104 : Sig := ⟨[.val (.int .u8)], [.val (.bool)], false⟩
def ann104 : List (Nat × Norm) := []
/-- masthead/ship.isDigit -/
def sig90 : Sig := ⟨[.val (.int .u8)], [.val (.bool)], false⟩
def ann90 : List (Nat × Norm) := []
/-- masthead/mastref1.isDigit -/
def sig58 : Sig := ⟨[.val (.int .u8)], [.val (.bool)], false⟩
def ann58 : List (Nat × Norm) := []
def sig42 : Sig := ⟨[.box 9 [.lent]], [], false⟩
def sig98 : Sig := ⟨[.val .str, .val .str], [.val (.int .i64)], false⟩
def sig97 : Sig := ⟨[.val .str, .val .str], [.val (.int .i64)], false⟩
def sig95 : Sig := ⟨[.val .str, .val .str], [.val (.int .i64)], false⟩
def sig36 : Sig := ⟨[.val .str, .val (.int .u8)], [.val (.int .i64)], false⟩
def sig96 : Sig := ⟨[.val .str, .val (.int .i64)], [.val (.slice 9)], false⟩
noncomputable def E : Env := { tt := tt, fns := [(5, Tryd.f5), (13, Tryd.f13), (14, Tryd.f14), (16, Tryd.f16), (15, Tryd.f15), (39, Tryd.f39), (40, Tryd.f40), (41, Tryd.f41), (43, Tryd.f43), (29, Tryd.f29), (44, Tryd.f44), (45, Tryd.f45), (46, Tryd.f46), (69, Tryd.f69), (27, Tryd.f27), (70, Tryd.f70), (35, Tryd.f35), (72, Tryd.f72), (64, Tryd.f64), (73, Tryd.f73), (100, Tryd.f100), (62, Tryd.f62), (101, Tryd.f101), (67, Tryd.f67), (104, Tryd.f104), (90, Tryd.f90), (58, Tryd.f58)], sigs := [(5, sig5), (13, sig13), (14, sig14), (16, sig16), (15, sig15), (39, sig39), (40, sig40), (41, sig41), (43, sig43), (29, sig29), (44, sig44), (45, sig45), (46, sig46), (69, sig69), (27, sig27), (70, sig70), (35, sig35), (72, sig72), (64, sig64), (73, sig73), (100, sig100), (62, sig62), (101, sig101), (67, sig67), (104, sig104), (90, sig90), (58, sig58), (42, sig42), (98, sig98), (97, sig97), (95, sig95), (36, sig36), (96, sig96)], ext := [(42, xSort), (98, xIndex1), (97, xCount1), (95, xIndex1), (36, xIndexByte), (96, xNone)], ann := [(5, ann5), (13, ann13), (14, ann14), (16, ann16), (15, ann15), (39, ann39), (40, ann40), (41, ann41), (43, ann43), (29, ann29), (44, ann44), (45, ann45), (46, ann46), (69, ann69), (27, ann27), (70, ann70), (35, ann35), (72, ann72), (64, ann64), (73, ann73), (100, ann100), (62, ann62), (101, ann101), (67, ann67), (104, ann104), (90, ann90), (58, ann58)] }
theorem tt_all : ttB Tryd.prog tt tt = true := by kernel_rfl
theorem fns_ok : FnsOK Tryd.prog E E.fns := ⟨⟨Tryd.func5, by kernel_rfl⟩, ⟨Tryd.func13, by kernel_rfl⟩, ⟨Tryd.func14, by kernel_rfl⟩, ⟨Tryd.func16, by kernel_rfl⟩, ⟨Tryd.func15, by kernel_rfl⟩, ⟨Tryd.func39, by kernel_rfl⟩, ⟨Tryd.func40, by kernel_rfl⟩, ⟨Tryd.func41, by kernel_rfl⟩, ⟨Tryd.func43, by kernel_rfl⟩, ⟨Tryd.func29, by kernel_rfl⟩, ⟨Tryd.func44, by kernel_rfl⟩, ⟨Tryd.func45, by kernel_rfl⟩, ⟨Tryd.func46, by kernel_rfl⟩, ⟨Tryd.func69, by kernel_rfl⟩, ⟨Tryd.func27, by kernel_rfl⟩, ⟨Tryd.func70, by kernel_rfl⟩, ⟨Tryd.func35, by kernel_rfl⟩, ⟨Tryd.func72, by kernel_rfl⟩, ⟨Tryd.func64, by kernel_rfl⟩, ⟨Tryd.func73, by kernel_rfl⟩, ⟨Tryd.func100, by kernel_rfl⟩, ⟨Tryd.func62, by kernel_rfl⟩, ⟨Tryd.func101, by kernel_rfl⟩, ⟨Tryd.func67, by kernel_rfl⟩, ⟨Tryd.func104, by kernel_rfl⟩, ⟨Tryd.func90, by kernel_rfl⟩, ⟨Tryd.func58, by kernel_rfl⟩, trivial⟩
theorem mixed : Tryd.prog.follows .mixedOrders = true := by kernel_rfl
theorem exts_ok (W0 : World) : ExtsOK Tryd.prog E W0 E.ext := ⟨
  extSort (c := (Tryd.f42.body).getD .skip) (e := 9) (ei := ⟨.str, [.str], [], 16⟩) Tryd.lays192 (by kernel_rfl) Tryd.func42 (by kernel_rfl) (by kernel_rfl) (by kernel_rfl) rfl rfl (by kernel_rfl),
  extIndex1 (c := (Tryd.f98.body).getD .skip) Tryd.func98 (by kernel_rfl) (by kernel_rfl) (by kernel_rfl) Tryd.strings_Index_one,
  extCount1 (c := (Tryd.f97.body).getD .skip) Tryd.func97 (by kernel_rfl) (by kernel_rfl) (by kernel_rfl) Tryd.strings_Count_one,
  extIndex1 (c := (Tryd.f95.body).getD .skip) Tryd.func95 (by kernel_rfl) (by kernel_rfl) (by kernel_rfl) Tryd.stringslite_Index_one,
  extIndexByte (c := (Tryd.f36.body).getD .skip) Tryd.func36 (by kernel_rfl) (by kernel_rfl) (by kernel_rfl) Tryd.strings_IndexByte,
  extNone, trivial⟩
theorem env (W0 : World) : EnvOK Tryd.prog E W0 := ⟨mixed, (tt_ok tt_all).1, fun f fn h => fns_of fns_ok f fn h, fun f g h => exts_of (exts_ok W0) f g h⟩
end Go.Proofs.YtefclcihphpejaaDoor.ev
