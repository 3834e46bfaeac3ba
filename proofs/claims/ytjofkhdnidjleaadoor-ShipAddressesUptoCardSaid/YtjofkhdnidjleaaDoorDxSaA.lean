import Derived.Test.YtjofkhdnidjleaaDoorDtO
import Derived.Test.YtjofkhdnidjleaaDoorChecked
import Derived.Test.YtjofkhdnidjleaaDoorRows
import Derived.WalkKit
import Derived.ProofKit
import Derived.Test.YtjofkhdnidjleaaDoorDxSaS
set_option linter.unusedVariables false
set_option linter.unusedSimpArgs false
namespace Go.Proofs.YtjofkhdnidjleaaDoor.sa
open Go.Proofs.YtjofkhdnidjleaaDoor.DS

def tt : TT := [(3, ⟨.int .i64, [.int .i64], [], 8⟩),
  (4, ⟨.bool, [.bool], [], 1⟩),
  (5, ⟨.int .u8, [.int .u8], [], 1⟩),
  (9, ⟨.str, [.str], [], 16⟩),
  (23, ⟨.slice 9, [.slice 9], [], 24⟩),
  (26, ⟨.int .i64, [.int .i64], [], 8⟩),
  (30, ⟨.slice 53, [.slice 53], [], 24⟩),
  (53, ⟨.agg 53, [.str, .str], [(0, 9), (1, 9)], 32⟩)]
/-- masthead/mastlaw1.ShipOuts -/
def sig4 : Sig := ⟨[.val (.slice 53)], [.val (.bool)]⟩
def ann4 : List (Nat × Norm) := [(1, { frz := [0] })]
/-- masthead/mastlaw1.ShipAddresses -/
def sig5 : Sig := ⟨[.val (.str), .val (.str)], [.val (.bool)]⟩
def ann5 : List (Nat × Norm) := []
/-- masthead/ship.CheckOuts -/
def sig11 : Sig := ⟨[.val (.slice 53)], [.val (.int .i64)]⟩
def ann11 : List (Nat × Norm) := [(4, { keep := some [(0, .dat 53), (10, .dat 53), (11, .asis), (12, .asis)] }), (11, { keep := some [(0, .dat 53), (4, .asis), (10, .dat 53), (11, .asis), (12, .asis), (39, .dat 53), (40, .asis), (41, .asis)] })]
/-- masthead/mastref1.OutsError -/
def sig12 : Sig := ⟨[.val (.slice 53)], [.val (.int .i64)]⟩
def ann12 : List (Nat × Norm) := [(4, { keep := some [(0, .dat 53), (10, .dat 53), (11, .asis), (12, .asis)] }), (11, { keep := some [(0, .dat 53), (4, .asis), (10, .dat 53), (11, .asis), (12, .asis), (37, .dat 53), (38, .asis), (39, .asis)] })]
/-- masthead/ship.Address -/
def sig13 : Sig := ⟨[.val (.str)], [.val (.str), .val (.int .i64)]⟩
def ann13 : List (Nat × Norm) := []
/-- masthead/ship.Path -/
def sig14 : Sig := ⟨[.val (.str)], [.val (.str), .val (.int .i64)]⟩
def ann14 : List (Nat × Norm) := []
/-- masthead/mastref1.AddressOf -/
def sig15 : Sig := ⟨[.val (.str)], [.val (.str), .val (.int .i64)]⟩
def ann15 : List (Nat × Norm) := []
/-- masthead/mastref1.PathOf -/
def sig16 : Sig := ⟨[.val (.str)], [.val (.str), .val (.int .i64)]⟩
def ann16 : List (Nat × Norm) := []
/-- masthead/ship.isPath -/
def sig27 : Sig := ⟨[.val (.str)], [.val (.bool)]⟩
def ann27 : List (Nat × Norm) := [(4, { keep := some [(9, .dat 9), (10, .asis), (11, .asis)] })]
/-- strings.HasPrefix -/
def sig28 : Sig := ⟨[.val (.str), .val (.str)], [.val (.bool)]⟩
def ann28 : List (Nat × Norm) := []
/-- masthead/mastref1.IsPath -/
def sig29 : Sig := ⟨[.val (.str)], [.val (.bool)]⟩
def ann29 : List (Nat × Norm) := [(4, { keep := some [(14, .dat 9), (15, .asis), (16, .asis)] })]
/-- strings.HasSuffix -/
def sig30 : Sig := ⟨[.val (.str), .val (.str)], [.val (.bool)]⟩
def ann30 : List (Nat × Norm) := []
/-- strings.TrimSuffix -/
def sig31 : Sig := ⟨[.val (.str), .val (.str)], [.val (.str)]⟩
def ann31 : List (Nat × Norm) := []
/-- strings.Split -/
def sig39 : Sig := ⟨[.val (.str), .val (.str)], [.val (.slice 9)]⟩
def ann39 : List (Nat × Norm) := []
/-- masthead/ship.isPart -/
def sig40 : Sig := ⟨[.val (.str)], [.val (.bool)]⟩
def ann40 : List (Nat × Norm) := [(4, { keep := some [(0, .asis), (3, .asis)] })]
/-- internal/stringslite.HasPrefix -/
def sig41 : Sig := ⟨[.val (.str), .val (.str)], [.val (.bool)]⟩
def ann41 : List (Nat × Norm) := []
/-- masthead/mastref1.pathPart -/
def sig42 : Sig := ⟨[.val (.str)], [.val (.bool)]⟩
def ann42 : List (Nat × Norm) := [(4, { keep := some [(0, .asis), (3, .asis)] })]
/-- internal/stringslite.HasSuffix -/
def sig43 : Sig := ⟨[.val (.str), .val (.str)], [.val (.bool)]⟩
def ann43 : List (Nat × Norm) := []
/-- internal/stringslite.TrimSuffix -/
def sig44 : Sig := ⟨[.val (.str), .val (.str)], [.val (.str)]⟩
def ann44 : List (Nat × Norm) := []
/-- strings.genSplit -/
def sig50 : Sig := ⟨[.val (.str), .val (.str), .val (.int .i64), .val (.int .i64)], [.val (.slice 9)]⟩
def ann50 : List (Nat × Norm) := [(7, { keep := some [(0, .asis), (1, .asis), (2, .asis), (3, .asis)], cut := true }), (11, { keep := some [(0, .asis), (1, .asis), (2, .asis), (3, .asis), (9, .own 9), (10, .asis)] })]
/-- masthead/ship.isDigit -/
def sig51 : Sig := ⟨[.val (.int .u8)], [.val (.bool)]⟩
def ann51 : List (Nat × Norm) := []
/-- masthead/mastref1.wordByte -/
def sig52 : Sig := ⟨[.val (.int .u8)], [.val (.bool)]⟩
def ann52 : List (Nat × Norm) := []
/-- masthead/mastref1.isDigit -/
def sig61 : Sig := ⟨[.val (.int .u8)], [.val (.bool)]⟩
def ann61 : List (Nat × Norm) := []
def sig19 : Sig := ⟨[.val .str, .val .str], [.val (.int .i64)]⟩
def sig60 : Sig := ⟨[.val .str, .val .str], [.val (.int .i64)]⟩
def sig59 : Sig := ⟨[.val .str, .val (.int .i64)], [.val (.slice 9)]⟩
noncomputable def E : Env := { tt := tt, fns := [(4, Tryd.f4), (5, Tryd.f5), (11, Tryd.f11), (12, Tryd.f12), (13, Tryd.f13), (14, Tryd.f14), (15, Tryd.f15), (16, Tryd.f16), (27, Tryd.f27), (28, Tryd.f28), (29, Tryd.f29), (30, Tryd.f30), (31, Tryd.f31), (39, Tryd.f39), (40, Tryd.f40), (41, Tryd.f41), (42, Tryd.f42), (43, Tryd.f43), (44, Tryd.f44), (50, Tryd.f50), (51, Tryd.f51), (52, Tryd.f52), (61, Tryd.f61)], sigs := [(4, sig4), (5, sig5), (11, sig11), (12, sig12), (13, sig13), (14, sig14), (15, sig15), (16, sig16), (27, sig27), (28, sig28), (29, sig29), (30, sig30), (31, sig31), (39, sig39), (40, sig40), (41, sig41), (42, sig42), (43, sig43), (44, sig44), (50, sig50), (51, sig51), (52, sig52), (61, sig61), (19, sig19), (60, sig60), (59, sig59)], ext := [(19, xIndex1), (60, xCount1), (59, xNone)], ann := [(4, ann4), (5, ann5), (11, ann11), (12, ann12), (13, ann13), (14, ann14), (15, ann15), (16, ann16), (27, ann27), (28, ann28), (29, ann29), (30, ann30), (31, ann31), (39, ann39), (40, ann40), (41, ann41), (42, ann42), (43, ann43), (44, ann44), (50, ann50), (51, ann51), (52, ann52), (61, ann61)] }
theorem tt_all : ttB Tryd.prog tt tt = true := by kernel_rfl
theorem fns_ok : FnsOK Tryd.prog E E.fns := ⟨⟨Tryd.func4, by kernel_rfl⟩, ⟨Tryd.func5, by kernel_rfl⟩, ⟨Tryd.func11, by kernel_rfl⟩, ⟨Tryd.func12, by kernel_rfl⟩, ⟨Tryd.func13, by kernel_rfl⟩, ⟨Tryd.func14, by kernel_rfl⟩, ⟨Tryd.func15, by kernel_rfl⟩, ⟨Tryd.func16, by kernel_rfl⟩, ⟨Tryd.func27, by kernel_rfl⟩, ⟨Tryd.func28, by kernel_rfl⟩, ⟨Tryd.func29, by kernel_rfl⟩, ⟨Tryd.func30, by kernel_rfl⟩, ⟨Tryd.func31, by kernel_rfl⟩, ⟨Tryd.func39, by kernel_rfl⟩, ⟨Tryd.func40, by kernel_rfl⟩, ⟨Tryd.func41, by kernel_rfl⟩, ⟨Tryd.func42, by kernel_rfl⟩, ⟨Tryd.func43, by kernel_rfl⟩, ⟨Tryd.func44, by kernel_rfl⟩, ⟨Tryd.func50, by kernel_rfl⟩, ⟨Tryd.func51, by kernel_rfl⟩, ⟨Tryd.func52, by kernel_rfl⟩, ⟨Tryd.func61, by kernel_rfl⟩, trivial⟩
theorem mixed : Tryd.prog.follows .mixedOrders = true := by kernel_rfl
theorem exts_ok (W0 : World) : ExtsOK Tryd.prog E W0 E.ext := ⟨extIndex1 (c := (Tryd.f19.body).getD .skip) Tryd.func19 (by kernel_rfl) (by kernel_rfl) (by kernel_rfl) Tryd.strings_Index_one,
  extCount1 (c := (Tryd.f60.body).getD .skip) Tryd.func60 (by kernel_rfl) (by kernel_rfl) (by kernel_rfl) Tryd.strings_Count_one, extNone, trivial⟩
theorem env (W0 : World) : EnvOK Tryd.prog E W0 := ⟨mixed, (tt_ok tt_all).1, fun f fn h => fns_of fns_ok f fn h, fun f g h => exts_of (exts_ok W0) f g h⟩
end Go.Proofs.YtjofkhdnidjleaaDoor.sa
