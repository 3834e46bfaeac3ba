/- A part of the proof. -/
import Derived.Test.YtcmeincdmphaoaaDoorF8
import Derived.Test.YtcmeincdmphaoaaDoorChecked
import Derived.Test.YtcmeincdmphaoaaDoorRows
import Derived.WalkKit
import Derived.ProofKit
import Derived.Test.YtcmeincdmphaoaaDoorDxMpS
set_option linter.unusedVariables false
set_option linter.unusedSimpArgs false
namespace Go.Proofs.YtcmeincdmphaoaaDoor.mp
open Go.Proofs.YtcmeincdmphaoaaDoor.DS

def tt : TT := [(3, ⟨.int .i64, [.int .i64], [], 8⟩),
  (4, ⟨.bool, [.bool], [], 1⟩),
  (5, ⟨.int .u8, [.int .u8], [], 1⟩),
  (9, ⟨.str, [.str], [], 16⟩),
  (22, ⟨.slice 39, [.slice 39], [], 24⟩),
  (23, ⟨.int .i64, [.int .i64], [], 8⟩),
  (30, ⟨.ptr, [.ptr], [], 8⟩),
  (31, ⟨.slice 5, [.slice 5], [], 24⟩),
  (33, ⟨.agg 33, [.ptr, .slice 5], [(0, 30), (1, 31)], 32⟩),
  (39, ⟨.agg 39, [.str, .str], [(0, 9), (1, 9)], 32⟩),
  (49, ⟨.slice 9, [.slice 9], [], 24⟩)]
/-- masthead/mastlaw1.ShipMaps -/
def sig3 : Sig := ⟨[.val (.str), .val (.slice 39)], [.val (.bool)], false⟩
def ann3 : List (Nat × Norm) := [(4, { keep := some [(0, .asis), (1, .dat 39), (5, .asis), (6, .asis), (7, .asis), (8, .asis)] })]
/-- masthead/ship.SiteMap -/
def sig4 : Sig := ⟨[.val (.str), .val (.slice 39)], [.val (.str), .val (.int .i64)], false⟩
def ann4 : List (Nat × Norm) := [(9, { keep := some [(0, .asis), (7, .asis), (20, .dat 39), (21, .asis), (22, .asis)], rows := [(7, 1, 5)] })]
/-- masthead/mastref1.OutsError -/
def sig5 : Sig := ⟨[.val (.slice 39)], [.val (.int .i64)], false⟩
def ann5 : List (Nat × Norm) := [(4, { keep := some [(0, .dat 39), (10, .dat 39), (11, .asis), (12, .asis)] }), (11, { keep := some [(0, .dat 39), (4, .asis), (10, .dat 39), (11, .asis), (12, .asis), (37, .dat 39), (38, .asis), (39, .asis)] })]
/-- masthead/mastref1.MapText -/
def sig6 : Sig := ⟨[.val (.str), .val (.slice 39)], [.val (.str)], false⟩
def ann6 : List (Nat × Norm) := [(3, { keep := some [(0, .asis), (5, .asis), (10, .dat 39), (11, .asis), (12, .asis)] })]
/-- masthead/ship.CheckOuts -/
def sig7 : Sig := ⟨[.val (.slice 39)], [.val (.int .i64)], false⟩
def ann7 : List (Nat × Norm) := [(4, { keep := some [(0, .dat 39), (10, .dat 39), (11, .asis), (12, .asis)] }), (11, { keep := some [(0, .dat 39), (4, .asis), (10, .dat 39), (11, .asis), (12, .asis), (39, .dat 39), (40, .asis), (41, .asis)] })]
/-- masthead/ship.control -/
def sig8 : Sig := ⟨[.val (.str)], [.val (.bool)], false⟩
def ann8 : List (Nat × Norm) := [(2, { keep := some [(0, .asis), (3, .asis)] })]
/-- (*strings.Builder).WriteString -/
def sig9 : Sig := ⟨[.box 33 [.self, .row 5], .val (.str)], [.val (.int .i64), .any], false⟩
def ann9 : List (Nat × Norm) := []
/-- masthead/ship.isPage -/
def sig10 : Sig := ⟨[.val (.str)], [.val (.bool)], false⟩
def ann10 : List (Nat × Norm) := []
/-- masthead/ship.Address -/
def sig11 : Sig := ⟨[.val (.str)], [.val (.str), .val (.int .i64)], false⟩
def ann11 : List (Nat × Norm) := []
/-- masthead/mastref1.IsPath -/
def sig14 : Sig := ⟨[.val (.str)], [.val (.bool)], false⟩
def ann14 : List (Nat × Norm) := [(4, { keep := some [(14, .dat 9), (15, .asis), (16, .asis)] })]
/-- strings.HasPrefix -/
def sig15 : Sig := ⟨[.val (.str), .val (.str)], [.val (.bool)], false⟩
def ann15 : List (Nat × Norm) := []
/-- masthead/mastref1.isPage -/
def sig16 : Sig := ⟨[.val (.agg 39)], [.val (.bool)], false⟩
def ann16 : List (Nat × Norm) := []
/-- masthead/mastref1.AddressOf -/
def sig17 : Sig := ⟨[.val (.str)], [.val (.str), .val (.int .i64)], false⟩
def ann17 : List (Nat × Norm) := []
/-- masthead/mastref1.Escaped -/
def sig18 : Sig := ⟨[.val (.str)], [.val (.str)], false⟩
def ann18 : List (Nat × Norm) := [(3, { keep := some [(0, .asis), (3, .asis), (4, .asis)] })]
/-- masthead/ship.isPath -/
def sig19 : Sig := ⟨[.val (.str)], [.val (.bool)], false⟩
def ann19 : List (Nat × Norm) := [(4, { keep := some [(9, .dat 9), (10, .asis), (11, .asis)] })]
/-- strings.HasSuffix -/
def sig21 : Sig := ⟨[.val (.str), .val (.str)], [.val (.bool)], false⟩
def ann21 : List (Nat × Norm) := []
/-- strings.TrimSuffix -/
def sig22 : Sig := ⟨[.val (.str), .val (.str)], [.val (.str)], false⟩
def ann22 : List (Nat × Norm) := []
/-- strings.Split -/
def sig25 : Sig := ⟨[.val (.str), .val (.str)], [.val (.slice 9)], false⟩
def ann25 : List (Nat × Norm) := []
/-- masthead/mastref1.pathPart -/
def sig26 : Sig := ⟨[.val (.str)], [.val (.bool)], false⟩
def ann26 : List (Nat × Norm) := [(4, { keep := some [(0, .asis), (3, .asis)] })]
/-- internal/stringslite.HasPrefix -/
def sig27 : Sig := ⟨[.val (.str), .val (.str)], [.val (.bool)], false⟩
def ann27 : List (Nat × Norm) := []
/-- masthead/ship.isPart -/
def sig28 : Sig := ⟨[.val (.str)], [.val (.bool)], false⟩
def ann28 : List (Nat × Norm) := [(4, { keep := some [(0, .asis), (3, .asis)] })]
/-- internal/stringslite.HasSuffix -/
def sig30 : Sig := ⟨[.val (.str), .val (.str)], [.val (.bool)], false⟩
def ann30 : List (Nat × Norm) := []
/-- internal/stringslite.TrimSuffix -/
def sig31 : Sig := ⟨[.val (.str), .val (.str)], [.val (.str)], false⟩
def ann31 : List (Nat × Norm) := []
/-- strings.genSplit -/
def sig34 : Sig := ⟨[.val (.str), .val (.str), .val (.int .i64), .val (.int .i64)], [.val (.slice 9)], false⟩
def ann34 : List (Nat × Norm) := [(7, { keep := some [(0, .asis), (1, .asis), (2, .asis), (3, .asis)], cut := true }), (11, { keep := some [(0, .asis), (1, .asis), (2, .asis), (3, .asis), (9, .own 9), (10, .asis)] })]
/-- masthead/mastref1.wordByte -/
def sig35 : Sig := ⟨[.val (.int .u8)], [.val (.bool)], false⟩
def ann35 : List (Nat × Norm) := []
/-- masthead/ship.isDigit -/
def sig36 : Sig := ⟨[.val (.int .u8)], [.val (.bool)], false⟩
def ann36 : List (Nat × Norm) := []
/-- masthead/mastref1.isDigit -/
def sig43 : Sig := ⟨[.val (.int .u8)], [.val (.bool)], false⟩
def ann43 : List (Nat × Norm) := []
def sig13 : Sig := ⟨[.box 33 [.self, .row 5]], [.val .str], true⟩
def sig20 : Sig := ⟨[.box 33 [.self, .row 5]], [], false⟩
def sig12 : Sig := ⟨[.val .str], [.val .str], false⟩
def sig42 : Sig := ⟨[.val .str, .val .str], [.val (.int .i64)], false⟩
def sig41 : Sig := ⟨[.val .str, .val .str], [.val (.int .i64)], false⟩
def sig40 : Sig := ⟨[.val .str, .val (.int .i64)], [.val (.slice 9)], false⟩
noncomputable def E : Env := { tt := tt, fns := [(3, Tryd.f3), (4, Tryd.f4), (5, Tryd.f5), (6, Tryd.f6), (7, Tryd.f7), (8, Tryd.f8), (9, Tryd.f9), (10, Tryd.f10), (11, Tryd.f11), (14, Tryd.f14), (15, Tryd.f15), (16, Tryd.f16), (17, Tryd.f17), (18, Tryd.f18), (19, Tryd.f19), (21, Tryd.f21), (22, Tryd.f22), (25, Tryd.f25), (26, Tryd.f26), (27, Tryd.f27), (28, Tryd.f28), (30, Tryd.f30), (31, Tryd.f31), (34, Tryd.f34), (35, Tryd.f35), (36, Tryd.f36), (43, Tryd.f43)], sigs := [(3, sig3), (4, sig4), (5, sig5), (6, sig6), (7, sig7), (8, sig8), (9, sig9), (10, sig10), (11, sig11), (14, sig14), (15, sig15), (16, sig16), (17, sig17), (18, sig18), (19, sig19), (21, sig21), (22, sig22), (25, sig25), (26, sig26), (27, sig27), (28, sig28), (30, sig30), (31, sig31), (34, sig34), (35, sig35), (36, sig36), (43, sig43), (13, sig13), (20, sig20), (12, sig12), (42, sig42), (41, sig41), (40, sig40)], ext := [(13, xString), (20, xCheck), (12, xEscape), (42, xIndex1), (41, xCount1), (40, xNone)], ann := [(3, ann3), (4, ann4), (5, ann5), (6, ann6), (7, ann7), (8, ann8), (9, ann9), (10, ann10), (11, ann11), (14, ann14), (15, ann15), (16, ann16), (17, ann17), (18, ann18), (19, ann19), (21, ann21), (22, ann22), (25, ann25), (26, ann26), (27, ann27), (28, ann28), (30, ann30), (31, ann31), (34, ann34), (35, ann35), (36, ann36), (43, ann43)] }
theorem tt_all : ttB Tryd.prog tt tt = true := by kernel_rfl
theorem fns_ok : FnsOK Tryd.prog E E.fns := ⟨⟨Tryd.func3, by kernel_rfl⟩, ⟨Tryd.func4, by kernel_rfl⟩, ⟨Tryd.func5, by kernel_rfl⟩, ⟨Tryd.func6, by kernel_rfl⟩, ⟨Tryd.func7, by kernel_rfl⟩, ⟨Tryd.func8, by kernel_rfl⟩, ⟨Tryd.func9, by kernel_rfl⟩, ⟨Tryd.func10, by kernel_rfl⟩, ⟨Tryd.func11, by kernel_rfl⟩, ⟨Tryd.func14, by kernel_rfl⟩, ⟨Tryd.func15, by kernel_rfl⟩, ⟨Tryd.func16, by kernel_rfl⟩, ⟨Tryd.func17, by kernel_rfl⟩, ⟨Tryd.func18, by kernel_rfl⟩, ⟨Tryd.func19, by kernel_rfl⟩, ⟨Tryd.func21, by kernel_rfl⟩, ⟨Tryd.func22, by kernel_rfl⟩, ⟨Tryd.func25, by kernel_rfl⟩, ⟨Tryd.func26, by kernel_rfl⟩, ⟨Tryd.func27, by kernel_rfl⟩, ⟨Tryd.func28, by kernel_rfl⟩, ⟨Tryd.func30, by kernel_rfl⟩, ⟨Tryd.func31, by kernel_rfl⟩, ⟨Tryd.func34, by kernel_rfl⟩, ⟨Tryd.func35, by kernel_rfl⟩, ⟨Tryd.func36, by kernel_rfl⟩, ⟨Tryd.func43, by kernel_rfl⟩, trivial⟩
theorem mixed : Tryd.prog.follows .mixedOrders = true := by kernel_rfl
theorem exts_ok (W0 : World) : ExtsOK Tryd.prog E W0 E.ext := ⟨
  extString (f := 13) (t := 33) (e := 5) (ti := ⟨.agg 33, [.ptr, .slice 5], [(0, 30), (1, 31)], 32⟩) (ei := ⟨.int .u8, [.int .u8], [], 1⟩) (c := (Tryd.f13.body).getD .skip) Tryd.lays169 Tryd.Builder_Extra_169 rfl rfl rfl Tryd.func13 (by kernel_rfl) (by kernel_rfl) (by kernel_rfl) (by kernel_rfl) (by kernel_rfl) (by kernel_rfl) (by kernel_rfl) (by kernel_rfl),
  extCheck (f := 20) (t := 33) (e := 5) (ti := ⟨.agg 33, [.ptr, .slice 5], [(0, 30), (1, 31)], 32⟩) (ei := ⟨.int .u8, [.int .u8], [], 1⟩) (c := (Tryd.f20.body).getD .skip) Tryd.func20 (by kernel_rfl) (by kernel_rfl) (by kernel_rfl) (by kernel_rfl) (by kernel_rfl) (by decide) (by kernel_rfl)
    (fun b w h => Any.Builder_copyCheck_used Tryd.lays240 Tryd.Builder_X72_240 b w h) (fun b w h1 h2 h3 => Any.Builder_copyCheck_fresh Tryd.lays240 Tryd.Builder_X72_240 b w h1 h2 h3),
  extEscape (c := (Tryd.f12.body).getD .skip) Tryd.func12 (by kernel_rfl) (by kernel_rfl) (by kernel_rfl) Tryd.mark_Escape,
  extIndex1 (c := (Tryd.f42.body).getD .skip) Tryd.func42 (by kernel_rfl) (by kernel_rfl) (by kernel_rfl) Tryd.strings_Index_one,
  extCount1 (c := (Tryd.f41.body).getD .skip) Tryd.func41 (by kernel_rfl) (by kernel_rfl) (by kernel_rfl) Tryd.strings_Count_one,
  extNone, trivial⟩
theorem env (W0 : World) : EnvOK Tryd.prog E W0 := ⟨mixed, (tt_ok tt_all).1, fun f fn h => fns_of fns_ok f fn h, fun f g h => exts_of (exts_ok W0) f g h⟩
end Go.Proofs.YtcmeincdmphaoaaDoor.mp
