import Derived.Test.YtjofkhdnidjleabDoorDtM
import Derived.Test.YtjofkhdnidjleabDoorChecked
import Derived.Test.YtjofkhdnidjleabDoorRows
import Derived.WalkKit
import Derived.ProofKit
import Derived.Test.YtjofkhdnidjleabDoorDxSqS
set_option linter.unusedVariables false
set_option linter.unusedSimpArgs false
namespace Go.Proofs.YtjofkhdnidjleabDoor.rs
open Go.Proofs.YtjofkhdnidjleabDoor.DS

def tt : TT := [(3, ⟨.int .i64, [.int .i64], [], 8⟩),
  (4, ⟨.bool, [.bool], [], 1⟩),
  (5, ⟨.int .u8, [.int .u8], [], 1⟩),
  (9, ⟨.str, [.str], [], 16⟩),
  (24, ⟨.slice 9, [.slice 9], [], 24⟩),
  (37, ⟨.int .i64, [.int .i64], [], 8⟩)]
/-- masthead/mastlaw1.PageResolves -/
def sig4 : Sig := ⟨[.val (.str), .val (.str)], [.val (.bool)], false⟩
def ann4 : List (Nat × Norm) := []
/-- masthead/page.Resolve -/
def sig12 : Sig := ⟨[.val (.str), .val (.str)], [.val (.str), .val (.int .i64)], false⟩
def ann12 : List (Nat × Norm) := [(6, { keep := some [(1, .asis), (6, .dat 9)], cut := true }), (7, { keep := some [(6, .dat 9), (25, .dat 9), (26, .asis), (27, .asis)] }), (10, { frz := [6] }), (20, { frz := [6] }), (22, { frz := [6] })]
/-- masthead/mastref1.Resolved -/
def sig13 : Sig := ⟨[.val (.str), .val (.str)], [.val (.str), .val (.int .i64)], false⟩
def ann13 : List (Nat × Norm) := [(6, { keep := some [(1, .asis), (6, .asis)], cut := true }), (7, { keep := some [(6, .asis), (21, .dat 9), (22, .asis), (23, .asis)] })]
/-- masthead/page.partsOf -/
def sig27 : Sig := ⟨[.val (.str)], [.val (.slice 9), .val (.bool)], false⟩
def ann27 : List (Nat × Norm) := [(7, { keep := some [(4, .dat 9), (36, .dat 9), (37, .asis), (38, .asis)] })]
/-- strings.HasPrefix -/
def sig28 : Sig := ⟨[.val (.str), .val (.str)], [.val (.bool)], false⟩
def ann28 : List (Nat × Norm) := []
/-- strings.Split -/
def sig29 : Sig := ⟨[.val (.str), .val (.str)], [.val (.slice 9)], false⟩
def ann29 : List (Nat × Norm) := []
/-- masthead/page.isPart -/
def sig30 : Sig := ⟨[.val (.str)], [.val (.bool)], false⟩
def ann30 : List (Nat × Norm) := [(4, { keep := some [(0, .asis), (3, .asis)] })]
/-- masthead/page.address -/
def sig31 : Sig := ⟨[.val (.slice 9)], [.val (.str)], false⟩
def ann31 : List (Nat × Norm) := [(3, { keep := some [(3, .asis), (6, .dat 9), (7, .asis), (8, .asis)] })]
/-- masthead/mastref1.IsAddress -/
def sig32 : Sig := ⟨[.val (.str)], [.val (.bool)], false⟩
def ann32 : List (Nat × Norm) := [(6, { keep := some [(33, .dat 9), (34, .asis), (35, .asis)] })]
/-- strings.LastIndex -/
def sig33 : Sig := ⟨[.val (.str), .val (.str)], [.val (.int .i64)], false⟩
def ann33 : List (Nat × Norm) := []
/-- masthead/mastref1.pathPart -/
def sig34 : Sig := ⟨[.val (.str)], [.val (.bool)], false⟩
def ann34 : List (Nat × Norm) := [(4, { keep := some [(0, .asis), (3, .asis)] })]
/-- internal/stringslite.HasPrefix -/
def sig45 : Sig := ⟨[.val (.str), .val (.str)], [.val (.bool)], false⟩
def ann45 : List (Nat × Norm) := []
/-- strings.genSplit -/
def sig46 : Sig := ⟨[.val (.str), .val (.str), .val (.int .i64), .val (.int .i64)], [.val (.slice 9)], false⟩
def ann46 : List (Nat × Norm) := [(7, { keep := some [(0, .asis), (1, .asis), (2, .asis), (3, .asis)], cut := true }), (11, { keep := some [(0, .asis), (1, .asis), (2, .asis), (3, .asis), (9, .own 9), (10, .asis)] })]
/-- masthead/page.isSmall -/
def sig47 : Sig := ⟨[.val (.int .u8)], [.val (.bool)], false⟩
def ann47 : List (Nat × Norm) := []
/-- masthead/page.isDigit -/
def sig48 : Sig := ⟨[.val (.int .u8)], [.val (.bool)], false⟩
def ann48 : List (Nat × Norm) := []
/-- internal/bytealg.LastIndexByteString -/
def sig49 : Sig := ⟨[.val (.str), .val (.int .u8)], [.val (.int .i64)], false⟩
def ann49 : List (Nat × Norm) := [(2, { keep := some [(0, .asis), (1, .asis), (5, .asis)] })]
/-- masthead/mastref1.wordByte -/
def sig51 : Sig := ⟨[.val (.int .u8)], [.val (.bool)], false⟩
def ann51 : List (Nat × Norm) := []
/-- masthead/mastref1.isDigit -/
def sig68 : Sig := ⟨[.val (.int .u8)], [.val (.bool)], false⟩
def ann68 : List (Nat × Norm) := []
def sig66 : Sig := ⟨[.val .str, .val .str], [.val (.int .i64)], false⟩
def sig65 : Sig := ⟨[.val .str, .val .str], [.val (.int .i64)], false⟩
def sig64 : Sig := ⟨[], [], false⟩
def sig50 : Sig := ⟨[], [], false⟩
noncomputable def E : Env := { tt := tt, fns := [(4, Tryd.f4), (12, Tryd.f12), (13, Tryd.f13), (27, Tryd.f27), (28, Tryd.f28), (29, Tryd.f29), (30, Tryd.f30), (31, Tryd.f31), (32, Tryd.f32), (33, Tryd.f33), (34, Tryd.f34), (45, Tryd.f45), (46, Tryd.f46), (47, Tryd.f47), (48, Tryd.f48), (49, Tryd.f49), (51, Tryd.f51), (68, Tryd.f68)], sigs := [(4, sig4), (12, sig12), (13, sig13), (27, sig27), (28, sig28), (29, sig29), (30, sig30), (31, sig31), (32, sig32), (33, sig33), (34, sig34), (45, sig45), (46, sig46), (47, sig47), (48, sig48), (49, sig49), (51, sig51), (68, sig68), (66, sig66), (65, sig65), (64, sig64), (50, sig50)], ext := [(66, xIndex1), (65, xCount1), (64, xNone), (50, xNone)], ann := [(4, ann4), (12, ann12), (13, ann13), (27, ann27), (28, ann28), (29, ann29), (30, ann30), (31, ann31), (32, ann32), (33, ann33), (34, ann34), (45, ann45), (46, ann46), (47, ann47), (48, ann48), (49, ann49), (51, ann51), (68, ann68)] }
theorem tt_all : ttB Tryd.prog tt tt = true := by kernel_rfl
theorem fns_ok : FnsOK Tryd.prog E E.fns := ⟨⟨Tryd.func4, by kernel_rfl⟩, ⟨Tryd.func12, by kernel_rfl⟩, ⟨Tryd.func13, by kernel_rfl⟩, ⟨Tryd.func27, by kernel_rfl⟩, ⟨Tryd.func28, by kernel_rfl⟩, ⟨Tryd.func29, by kernel_rfl⟩, ⟨Tryd.func30, by kernel_rfl⟩, ⟨Tryd.func31, by kernel_rfl⟩, ⟨Tryd.func32, by kernel_rfl⟩, ⟨Tryd.func33, by kernel_rfl⟩, ⟨Tryd.func34, by kernel_rfl⟩, ⟨Tryd.func45, by kernel_rfl⟩, ⟨Tryd.func46, by kernel_rfl⟩, ⟨Tryd.func47, by kernel_rfl⟩, ⟨Tryd.func48, by kernel_rfl⟩, ⟨Tryd.func49, by kernel_rfl⟩, ⟨Tryd.func51, by kernel_rfl⟩, ⟨Tryd.func68, by kernel_rfl⟩, trivial⟩
theorem mixed : Tryd.prog.follows .mixedOrders = true := by kernel_rfl
theorem exts_ok (W0 : World) : ExtsOK Tryd.prog E W0 E.ext := ⟨extIndex1 (c := (Tryd.f66.body).getD .skip) Tryd.func66 (by kernel_rfl) (by kernel_rfl) (by kernel_rfl) Tryd.strings_Index_one,
  extCount1 (c := (Tryd.f65.body).getD .skip) Tryd.func65 (by kernel_rfl) (by kernel_rfl) (by kernel_rfl) Tryd.strings_Count_one, extNone, extNone, trivial⟩
theorem env (W0 : World) : EnvOK Tryd.prog E W0 := ⟨mixed, (tt_ok tt_all).1, fun f fn h => fns_of fns_ok f fn h, fun f g h => exts_of (exts_ok W0) f g h⟩
end Go.Proofs.YtjofkhdnidjleabDoor.rs
