import Derived.Test.YtjofkhdnidjleabDoorDtM
import Derived.Test.YtjofkhdnidjleabDoorChecked
import Derived.Test.YtjofkhdnidjleabDoorRows
import Derived.WalkKit
import Derived.ProofKit
import Derived.Test.YtjofkhdnidjleabDoorDxSqS
set_option linter.unusedVariables false
set_option linter.unusedSimpArgs false
namespace Go.Proofs.YtjofkhdnidjleabDoor.tg
open Go.Proofs.YtjofkhdnidjleabDoor.DS

def tt : TT := [(3, ⟨.int .i64, [.int .i64], [], 8⟩),
  (4, ⟨.bool, [.bool], [], 1⟩),
  (5, ⟨.int .u8, [.int .u8], [], 1⟩),
  (9, ⟨.str, [.str], [], 16⟩),
  (22, ⟨.slice 33, [.slice 33], [], 24⟩),
  (24, ⟨.slice 9, [.slice 9], [], 24⟩),
  (27, ⟨.slice 29, [.slice 29], [], 24⟩),
  (29, ⟨.agg 29, [.int .i64, .bool, .int .i64, .str, .slice 29, .slice 9], [(0, 3), (1, 4), (2, 3), (3, 9), (4, 27), (5, 24)], 88⟩),
  (33, ⟨.agg 33, [.str, .int .i64, .bool, .int .i64, .str, .slice 29, .slice 9], [(0, 9), (1, 29)], 104⟩),
  (37, ⟨.int .i64, [.int .i64], [], 8⟩),
  (44, ⟨.slice 159, [.slice 159], [], 24⟩),
  (46, ⟨.agg 46, [.slice 159, .slice 33, .str], [(0, 44), (1, 22), (2, 9)], 64⟩),
  (159, ⟨.agg 159, [.str, .str], [(0, 9), (1, 9)], 32⟩)]
/-- masthead/mastlaw1.PageTargets -/
def sig6 : Sig := ⟨[.val (.agg 46), .val (.str)], [.val (.bool)], false⟩
def ann6 : List (Nat × Norm) := []
/-- masthead/page.Target -/
def sig16 : Sig := ⟨[.val (.agg 46), .val (.str)], [.val (.str), .val (.str), .val (.bool)], false⟩
def ann16 : List (Nat × Norm) := [(6, { keep := some [(2, .asis), (7, .asis), (8, .asis)], cut := true })]
/-- masthead/mastref1.TargetOf -/
def sig17 : Sig := ⟨[.val (.agg 46), .val (.str)], [.val (.str), .val (.str), .val (.bool)], false⟩
def ann17 : List (Nat × Norm) := [(6, { keep := some [(2, .asis), (7, .asis), (8, .asis)], cut := true })]
/-- strings.HasPrefix -/
def sig28 : Sig := ⟨[.val (.str), .val (.str)], [.val (.bool)], false⟩
def ann28 : List (Nat × Norm) := []
/-- masthead/page.Resolve -/
def sig12 : Sig := ⟨[.val (.str), .val (.str)], [.val (.str), .val (.int .i64)], false⟩
def ann12 : List (Nat × Norm) := [(6, { keep := some [(1, .asis), (6, .dat 9)], cut := true }), (7, { keep := some [(6, .dat 9), (25, .dat 9), (26, .asis), (27, .asis)] }), (10, { frz := [6] }), (20, { frz := [6] }), (22, { frz := [6] })]
/-- masthead/page.fact -/
def sig40 : Sig := ⟨[.val (.slice 33), .val (.str)], [.val (.agg 29)], false⟩
def ann40 : List (Nat × Norm) := [(2, { keep := some [(1, .asis), (4, .asis), (7, .dat 33), (8, .asis), (9, .asis)] })]
/-- masthead/page.item -/
def sig41 : Sig := ⟨[.val (.agg 29), .val (.str)], [.val (.agg 29)], false⟩
def ann41 : List (Nat × Norm) := [(2, { keep := some [(1, .asis), (2, .asis), (4, .asis), (8, .dat 9), (9, .asis), (10, .asis)] })]
/-- masthead/mastref1.Resolved -/
def sig13 : Sig := ⟨[.val (.str), .val (.str)], [.val (.str), .val (.int .i64)], false⟩
def ann13 : List (Nat × Norm) := [(6, { keep := some [(1, .asis), (6, .asis)], cut := true }), (7, { keep := some [(6, .asis), (21, .dat 9), (22, .asis), (23, .asis)] })]
/-- masthead/mastref1.FactOf -/
def sig42 : Sig := ⟨[.val (.slice 33), .val (.str)], [.val (.agg 29)], false⟩
def ann42 : List (Nat × Norm) := [(2, { keep := some [(1, .asis), (4, .asis), (7, .dat 33), (8, .asis), (9, .asis)] })]
/-- masthead/mastref1.ItemOf -/
def sig43 : Sig := ⟨[.val (.agg 29), .val (.str)], [.val (.agg 29)], false⟩
def ann43 : List (Nat × Norm) := [(2, { keep := some [(1, .asis), (2, .asis), (4, .asis), (8, .dat 9), (9, .asis), (10, .asis)] })]
/-- internal/stringslite.HasPrefix -/
def sig45 : Sig := ⟨[.val (.str), .val (.str)], [.val (.bool)], false⟩
def ann45 : List (Nat × Norm) := []
/-- masthead/page.partsOf -/
def sig27 : Sig := ⟨[.val (.str)], [.val (.slice 9), .val (.bool)], false⟩
def ann27 : List (Nat × Norm) := [(7, { keep := some [(4, .dat 9), (36, .dat 9), (37, .asis), (38, .asis)] })]
/-- strings.Split -/
def sig29 : Sig := ⟨[.val (.str), .val (.str)], [.val (.slice 9)], false⟩
def ann29 : List (Nat × Norm) := []
/-- masthead/page.isPart -/
def sig30 : Sig := ⟨[.val (.str)], [.val (.bool)], false⟩
def ann30 : List (Nat × Norm) := [(4, { keep := some [(0, .asis), (3, .asis)] })]
/-- masthead/page.address -/
def sig31 : Sig := ⟨[.val (.slice 9)], [.val (.str)], false⟩
def ann31 : List (Nat × Norm) := [(3, { keep := some [(3, .asis), (6, .dat 9), (7, .asis), (8, .asis)] })]
/-- masthead/mastref1.IsAddress -/
def sig32 : Sig := ⟨[.val (.str)], [.val (.bool)], false⟩
def ann32 : List (Nat × Norm) := [(6, { keep := some [(33, .dat 9), (34, .asis), (35, .asis)] })]
/-- strings.LastIndex -/
def sig33 : Sig := ⟨[.val (.str), .val (.str)], [.val (.int .i64)], false⟩
def ann33 : List (Nat × Norm) := []
/-- masthead/mastref1.pathPart -/
def sig34 : Sig := ⟨[.val (.str)], [.val (.bool)], false⟩
def ann34 : List (Nat × Norm) := [(4, { keep := some [(0, .asis), (3, .asis)] })]
/-- strings.genSplit -/
def sig46 : Sig := ⟨[.val (.str), .val (.str), .val (.int .i64), .val (.int .i64)], [.val (.slice 9)], false⟩
def ann46 : List (Nat × Norm) := [(7, { keep := some [(0, .asis), (1, .asis), (2, .asis), (3, .asis)], cut := true }), (11, { keep := some [(0, .asis), (1, .asis), (2, .asis), (3, .asis), (9, .own 9), (10, .asis)] })]
/-- masthead/page.isSmall -/
def sig47 : Sig := ⟨[.val (.int .u8)], [.val (.bool)], false⟩
def ann47 : List (Nat × Norm) := []
/-- masthead/page.isDigit -/
def sig48 : Sig := ⟨[.val (.int .u8)], [.val (.bool)], false⟩
def ann48 : List (Nat × Norm) := []
/-- internal/bytealg.LastIndexByteString -/
def sig49 : Sig := ⟨[.val (.str), .val (.int .u8)], [.val (.int .i64)], false⟩
def ann49 : List (Nat × Norm) := [(2, { keep := some [(0, .asis), (1, .asis), (5, .asis)] })]
/-- masthead/mastref1.wordByte -/
def sig51 : Sig := ⟨[.val (.int .u8)], [.val (.bool)], false⟩
def ann51 : List (Nat × Norm) := []
/-- masthead/mastref1.isDigit -/
def sig68 : Sig := ⟨[.val (.int .u8)], [.val (.bool)], false⟩
def ann68 : List (Nat × Norm) := []
def sig66 : Sig := ⟨[.val .str, .val .str], [.val (.int .i64)], false⟩
def sig65 : Sig := ⟨[.val .str, .val .str], [.val (.int .i64)], false⟩
def sig64 : Sig := ⟨[], [], false⟩
def sig50 : Sig := ⟨[], [], false⟩
def sig39 : Sig := ⟨[.val .str, .val (.int .u8)], [.val (.int .i64)], false⟩
noncomputable def E : Env := { tt := tt, fns := [(6, Tryd.f6), (16, Tryd.f16), (17, Tryd.f17), (28, Tryd.f28), (12, Tryd.f12), (40, Tryd.f40), (41, Tryd.f41), (13, Tryd.f13), (42, Tryd.f42), (43, Tryd.f43), (45, Tryd.f45), (27, Tryd.f27), (29, Tryd.f29), (30, Tryd.f30), (31, Tryd.f31), (32, Tryd.f32), (33, Tryd.f33), (34, Tryd.f34), (46, Tryd.f46), (47, Tryd.f47), (48, Tryd.f48), (49, Tryd.f49), (51, Tryd.f51), (68, Tryd.f68)], sigs := [(6, sig6), (16, sig16), (17, sig17), (28, sig28), (12, sig12), (40, sig40), (41, sig41), (13, sig13), (42, sig42), (43, sig43), (45, sig45), (27, sig27), (29, sig29), (30, sig30), (31, sig31), (32, sig32), (33, sig33), (34, sig34), (46, sig46), (47, sig47), (48, sig48), (49, sig49), (51, sig51), (68, sig68), (66, sig66), (65, sig65), (64, sig64), (50, sig50), (39, sig39)], ext := [(66, xIndex1), (65, xCount1), (64, xNone), (50, xNone), (39, xIndexByte)], ann := [(6, ann6), (16, ann16), (17, ann17), (28, ann28), (12, ann12), (40, ann40), (41, ann41), (13, ann13), (42, ann42), (43, ann43), (45, ann45), (27, ann27), (29, ann29), (30, ann30), (31, ann31), (32, ann32), (33, ann33), (34, ann34), (46, ann46), (47, ann47), (48, ann48), (49, ann49), (51, ann51), (68, ann68)] }
theorem tt_all : ttB Tryd.prog tt tt = true := by kernel_rfl
theorem fns_ok : FnsOK Tryd.prog E E.fns := ⟨⟨Tryd.func6, by kernel_rfl⟩, ⟨Tryd.func16, by kernel_rfl⟩, ⟨Tryd.func17, by kernel_rfl⟩, ⟨Tryd.func28, by kernel_rfl⟩, ⟨Tryd.func12, by kernel_rfl⟩, ⟨Tryd.func40, by kernel_rfl⟩, ⟨Tryd.func41, by kernel_rfl⟩, ⟨Tryd.func13, by kernel_rfl⟩, ⟨Tryd.func42, by kernel_rfl⟩, ⟨Tryd.func43, by kernel_rfl⟩, ⟨Tryd.func45, by kernel_rfl⟩, ⟨Tryd.func27, by kernel_rfl⟩, ⟨Tryd.func29, by kernel_rfl⟩, ⟨Tryd.func30, by kernel_rfl⟩, ⟨Tryd.func31, by kernel_rfl⟩, ⟨Tryd.func32, by kernel_rfl⟩, ⟨Tryd.func33, by kernel_rfl⟩, ⟨Tryd.func34, by kernel_rfl⟩, ⟨Tryd.func46, by kernel_rfl⟩, ⟨Tryd.func47, by kernel_rfl⟩, ⟨Tryd.func48, by kernel_rfl⟩, ⟨Tryd.func49, by kernel_rfl⟩, ⟨Tryd.func51, by kernel_rfl⟩, ⟨Tryd.func68, by kernel_rfl⟩, trivial⟩
theorem mixed : Tryd.prog.follows .mixedOrders = true := by kernel_rfl
theorem exts_ok (W0 : World) : ExtsOK Tryd.prog E W0 E.ext := ⟨extIndex1 (c := (Tryd.f66.body).getD .skip) Tryd.func66 (by kernel_rfl) (by kernel_rfl) (by kernel_rfl) Tryd.strings_Index_one,
  extCount1 (c := (Tryd.f65.body).getD .skip) Tryd.func65 (by kernel_rfl) (by kernel_rfl) (by kernel_rfl) Tryd.strings_Count_one, extNone, extNone,
  extIndexByte (c := (Tryd.f39.body).getD .skip) Tryd.func39 (by kernel_rfl) (by kernel_rfl) (by kernel_rfl) Tryd.strings_IndexByte, trivial⟩
theorem env (W0 : World) : EnvOK Tryd.prog E W0 := ⟨mixed, (tt_ok tt_all).1, fun f fn h => fns_of fns_ok f fn h, fun f g h => exts_of (exts_ok W0) f g h⟩
end Go.Proofs.YtjofkhdnidjleabDoor.tg
