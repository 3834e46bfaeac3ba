/- A part of the proof. -/
import Derived.Test.YtcmeincdmphaoabDoorF8
import Derived.Test.YtcmeincdmphaoabDoorChecked
import Derived.Test.YtcmeincdmphaoabDoorRows
import Derived.WalkKit
import Derived.ProofKit
import Derived.Test.YtcmeincdmphaoabDoorDxBfS
import Derived.Test.YtcmeincdmphaoabDoorF9
set_option linter.unusedVariables false
set_option linter.unusedSimpArgs false
namespace Go.Proofs.YtcmeincdmphaoabDoor.bf
open Go.Proofs.YtcmeincdmphaoabDoor.DS

def tt : TT := [(3, ⟨.int .i64, [.int .i64], [], 8⟩),
  (4, ⟨.bool, [.bool], [], 1⟩),
  (9, ⟨.str, [.str], [], 16⟩),
  (22, ⟨.slice 33, [.slice 33], [], 24⟩),
  (23, ⟨.slice 45, [.slice 45], [], 24⟩),
  (24, ⟨.slice 9, [.slice 9], [], 24⟩),
  (26, ⟨.agg 26, [.str, .str, .str, .slice 45, .int .i64, .slice 9, .slice 9], [(0, 9), (1, 9), (2, 9), (3, 23), (4, 3), (5, 24), (6, 24)], 128⟩),
  (27, ⟨.slice 29, [.slice 29], [], 24⟩),
  (29, ⟨.agg 29, [.int .i64, .bool, .int .i64, .str, .slice 29, .slice 9], [(0, 3), (1, 4), (2, 3), (3, 9), (4, 27), (5, 24)], 88⟩),
  (33, ⟨.agg 33, [.str, .int .i64, .bool, .int .i64, .str, .slice 29, .slice 9], [(0, 9), (1, 29)], 104⟩),
  (45, ⟨.agg 45, [.int .i64, .str, .str], [(0, 3), (1, 9), (2, 9)], 40⟩)]
/-- masthead/mastlaw1.BuildFacts -/
def sig3 : Sig := ⟨[.val (.slice 33), .val (.str), .val (.agg 26), .val (.agg 29), .val (.agg 29)], [.val (.bool)], false⟩
def ann3 : List (Nat × Norm) := [(4, { keep := some [(1, .asis), (7, .asis), (8, .asis), (9, .asis), (11, .asis), (12, .asis), (13, .asis), (14, .asis), (24, .dat 33), (25, .asis), (26, .asis)], rows := [(8, 4, 29), (8, 5, 9), (9, 4, 29), (9, 5, 9), (11, 4, 29), (11, 5, 9), (13, 4, 29), (13, 5, 9)] }), (1, { frz := [0] }), (9, { frz := [9, 8, 13, 11] })]
/-- masthead/build.Fact -/
def sig5 : Sig := ⟨[.val (.slice 33), .val (.str)], [.val (.agg 29), .val (.bool)], false⟩
def ann5 : List (Nat × Norm) := [(2, { keep := some [(1, .asis), (4, .asis), (8, .dat 33), (9, .asis), (10, .asis)], rows := [(4, 4, 29), (4, 5, 9)] })]
/-- masthead/mastref1.SameValue -/
def sig6 : Sig := ⟨[.val (.agg 29), .val (.agg 29)], [.val (.bool)], false⟩
def ann6 : List (Nat × Norm) := [(4, { keep := some [(2, .asis), (3, .asis), (53, .asis), (54, .asis)], rows := [(2, 4, 29), (2, 5, 9), (3, 4, 29), (3, 5, 9)] }), (10, { keep := some [(2, .asis), (3, .asis), (71, .asis), (72, .asis)], rows := [(2, 4, 29), (2, 5, 9), (3, 4, 29), (3, 5, 9)] })]
/-- masthead/build.ContentFact -/
def sig7 : Sig := ⟨[.val (.agg 26)], [.val (.agg 29)], false⟩
def ann7 : List (Nat × Norm) := [(3, { keep := some [(1, .asis), (2, .asis), (3, .asis), (8, .dat 45), (9, .asis), (10, .asis)], rows := [(2, 4, 29), (2, 5, 9), (3, 4, 29), (3, 5, 9)] }), (7, { frz := [3] })]
/-- masthead/mastref1.ContentValue -/
def sig8 : Sig := ⟨[.val (.agg 26)], [.val (.agg 29)], false⟩
def ann8 : List (Nat × Norm) := [(3, { keep := some [(1, .asis), (2, .asis), (3, .asis), (8, .dat 45), (9, .asis), (10, .asis)], rows := [(2, 4, 29), (2, 5, 9), (3, 4, 29), (3, 5, 9)] }), (7, { frz := [3] })]
/-- masthead/build.SameValue -/
def sig9 : Sig := ⟨[.val (.agg 29), .val (.agg 29)], [.val (.bool)], false⟩
def ann9 : List (Nat × Norm) := [(4, { keep := some [(2, .asis), (3, .asis), (53, .asis), (54, .asis)], rows := [(2, 4, 29), (2, 5, 9), (3, 4, 29), (3, 5, 9)] }), (10, { keep := some [(2, .asis), (3, .asis), (71, .asis), (72, .asis)], rows := [(2, 4, 29), (2, 5, 9), (3, 4, 29), (3, 5, 9)] })]
/-- masthead/build.clone -/
def sig13 : Sig := ⟨[.val (.agg 29)], [.val (.agg 29)], false⟩
def ann13 : List (Nat × Norm) := [(4, { keep := some [(1, .asis), (2, .asis), (3, .own 29), (11, .dat 29), (12, .asis), (13, .asis)], rows := [(1, 4, 29), (1, 5, 9), (2, 4, 29), (2, 5, 9)] }), (6, { frz := [5] }), (9, { frz := [1] })]
/-- masthead/build.str -/
def sig15 : Sig := ⟨[.val (.str)], [.val (.agg 29)], false⟩
def ann15 : List (Nat × Norm) := []
/-- masthead/build.whole -/
def sig16 : Sig := ⟨[.val (.int .i64)], [.val (.agg 29)], false⟩
def ann16 : List (Nat × Norm) := []
/-- masthead/build.table -/
def sig14 : Sig := ⟨[.val (.str), .val (.slice 29)], [.val (.agg 29)], false⟩
def ann14 : List (Nat × Norm) := [(1, { frz := [1] })]
/-- masthead/build.safe -/
def sig17 : Sig := ⟨[.val (.str)], [.val (.agg 29)], false⟩
def ann17 : List (Nat × Norm) := []
/-- masthead/mastref1.str -/
def sig19 : Sig := ⟨[.val (.str)], [.val (.agg 29)], false⟩
def ann19 : List (Nat × Norm) := []
/-- masthead/mastref1.num -/
def sig20 : Sig := ⟨[.val (.int .i64)], [.val (.agg 29)], false⟩
def ann20 : List (Nat × Norm) := []
/-- masthead/mastref1.table -/
def sig18 : Sig := ⟨[.val (.slice 9), .val (.slice 29)], [.val (.agg 29)], false⟩
def ann18 : List (Nat × Norm) := [(1, { frz := [1, 0] })]
/-- masthead/mastref1.safeText -/
def sig21 : Sig := ⟨[.val (.str)], [.val (.agg 29)], false⟩
def ann21 : List (Nat × Norm) := []
def sig34 : Sig := ⟨[.val .str], [.val (.slice 9)], false⟩
noncomputable def E : Env := { tt := tt, fns := [(3, Tryd.f3), (5, Tryd.f5), (6, Tryd.f6), (7, Tryd.f7), (8, Tryd.f8), (9, Tryd.f9), (13, Tryd.f13), (15, Tryd.f15), (16, Tryd.f16), (14, Tryd.f14), (17, Tryd.f17), (19, Tryd.f19), (20, Tryd.f20), (18, Tryd.f18), (21, Tryd.f21)], sigs := [(3, sig3), (5, sig5), (6, sig6), (7, sig7), (8, sig8), (9, sig9), (13, sig13), (15, sig15), (16, sig16), (14, sig14), (17, sig17), (19, sig19), (20, sig20), (18, sig18), (21, sig21), (34, sig34)], ext := [(34, xFields)], ann := [(3, ann3), (5, ann5), (6, ann6), (7, ann7), (8, ann8), (9, ann9), (13, ann13), (15, ann15), (16, ann16), (14, ann14), (17, ann17), (19, ann19), (20, ann20), (18, ann18), (21, ann21)] }
theorem tt_all : ttB Tryd.prog tt tt = true := by kernel_rfl
theorem fns_ok : FnsOK Tryd.prog E E.fns := ⟨⟨Tryd.func3, by kernel_rfl⟩, ⟨Tryd.func5, by kernel_rfl⟩, ⟨Tryd.func6, by kernel_rfl⟩, ⟨Tryd.func7, by kernel_rfl⟩, ⟨Tryd.func8, by kernel_rfl⟩, ⟨Tryd.func9, by kernel_rfl⟩, ⟨Tryd.func13, by kernel_rfl⟩, ⟨Tryd.func15, by kernel_rfl⟩, ⟨Tryd.func16, by kernel_rfl⟩, ⟨Tryd.func14, by kernel_rfl⟩, ⟨Tryd.func17, by kernel_rfl⟩, ⟨Tryd.func19, by kernel_rfl⟩, ⟨Tryd.func20, by kernel_rfl⟩, ⟨Tryd.func18, by kernel_rfl⟩, ⟨Tryd.func21, by kernel_rfl⟩, trivial⟩
theorem mixed : Tryd.prog.follows .mixedOrders = true := by kernel_rfl
theorem exts_ok (W0 : World) (ht : Lib.TabIs Tryd.prog W0 "strings.asciiSpace" .u8 Lib.asciiSpaceTab) : ExtsOK Tryd.prog E W0 E.ext := ⟨
  extFields (c := (Tryd.f34.body).getD .skip) (e := 9) (ei := ⟨.str, [.str], [], 16⟩) Tryd.func34 (by kernel_rfl) (by kernel_rfl) (by kernel_rfl) rfl rfl rfl Tryd.strings_Fields_laid ht, trivial⟩
theorem env (W0 : World) (ht : Lib.TabIs Tryd.prog W0 "strings.asciiSpace" .u8 Lib.asciiSpaceTab) : EnvOK Tryd.prog E W0 := ⟨mixed, (tt_ok tt_all).1, fun f fn h => fns_of fns_ok f fn h, fun f g h => exts_of (exts_ok W0 ht) f g h⟩
end Go.Proofs.YtcmeincdmphaoabDoor.bf
