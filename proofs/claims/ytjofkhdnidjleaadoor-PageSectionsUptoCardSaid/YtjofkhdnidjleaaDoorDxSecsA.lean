import Derived.Test.YtjofkhdnidjleaaDoorDtM
import Derived.Test.YtjofkhdnidjleaaDoorChecked
import Derived.Test.YtjofkhdnidjleaaDoorRows
import Derived.WalkKit
import Derived.ProofKit
import Derived.Test.YtjofkhdnidjleaaDoorDxSaS
set_option linter.unusedVariables false
set_option linter.unusedSimpArgs false
namespace Go.Proofs.YtjofkhdnidjleaaDoor.ps
open Go.Proofs.YtjofkhdnidjleaaDoor.DS

def tt : TT := [(3, ⟨.int .i64, [.int .i64], [], 8⟩),
  (4, ⟨.bool, [.bool], [], 1⟩),
  (9, ⟨.str, [.str], [], 16⟩),
  (23, ⟨.slice 9, [.slice 9], [], 24⟩),
  (35, ⟨.slice 41, [.slice 41], [], 24⟩),
  (37, ⟨.agg 37, [.str, .str, .str, .slice 41, .int .i64, .slice 9, .slice 9], [(0, 9), (1, 9), (2, 9), (3, 35), (4, 3), (5, 23), (6, 23)], 128⟩),
  (41, ⟨.agg 41, [.int .i64, .str, .str], [(0, 3), (1, 9), (2, 9)], 40⟩)]
/-- masthead/mastlaw1.PageSections -/
def sig6 : Sig := ⟨[.val (.agg 37), .val (.str)], [.val (.bool)], false⟩
def ann6 : List (Nat × Norm) := [(5, { keep := some [(1, .asis), (2, .asis), (5, .asis), (6, .asis), (7, .asis), (8, .asis), (9, .asis), (23, .dat 41), (24, .asis), (25, .asis)] })]
/-- masthead/page.Section -/
def sig17 : Sig := ⟨[.val (.agg 37), .val (.str)], [.val (.str), .val (.bool)], false⟩
def ann17 : List (Nat × Norm) := [(2, { keep := some [(1, .asis), (2, .asis), (14, .dat 41), (15, .asis), (16, .asis)] }), (9, { keep := some [(2, .asis), (7, .asis), (8, .asis), (36, .dat 41), (37, .asis), (38, .asis)] })]
/-- masthead/mastref1.Told -/
def sig18 : Sig := ⟨[.val (.int .i64)], [.val (.str)], false⟩
def ann18 : List (Nat × Norm) := []
/-- masthead/page.sign -/
def sig32 : Sig := ⟨[.val (.agg 41)], [.val (.str)], false⟩
def ann32 : List (Nat × Norm) := []
def sig21 : Sig := ⟨[.val (.int .i64)], [.val .str], false⟩
def sig19 : Sig := ⟨[.val .str, .val .str], [.val (.int .i64)], false⟩
noncomputable def E : Env := { tt := tt, fns := [(6, Tryd.f6), (17, Tryd.f17), (18, Tryd.f18), (32, Tryd.f32)], sigs := [(6, sig6), (17, sig17), (18, sig18), (32, sig32), (21, sig21), (19, sig19)], ext := [(21, xItoa), (19, xIndex)], ann := [(6, ann6), (17, ann17), (18, ann18), (32, ann32)] }
theorem tt_all : ttB Tryd.prog tt tt = true := by kernel_rfl
theorem fns_ok : FnsOK Tryd.prog E E.fns := ⟨⟨Tryd.func6, by kernel_rfl⟩, ⟨Tryd.func17, by kernel_rfl⟩, ⟨Tryd.func18, by kernel_rfl⟩, ⟨Tryd.func32, by kernel_rfl⟩, trivial⟩
theorem mixed : Tryd.prog.follows .mixedOrders = true := by kernel_rfl
theorem exts_ok (W0 : World) (ht : Lib.TabIs Tryd.prog W0 "internal/strconv.uint64pow10" .u64 Lib.pow10Tab ∧ ∃ m, W0.cell? ⟨0, 0, none⟩ = some (.int .i64 m)) : ExtsOK Tryd.prog E W0 E.ext := ⟨extItoa (c := (Tryd.f21.body).getD .skip) Tryd.func21 (by kernel_rfl) (by kernel_rfl) (by kernel_rfl) Tryd.strconv_Itoa ht.1,
  extIndex (c := (Tryd.f19.body).getD .skip) Tryd.func19 (by kernel_rfl) (by kernel_rfl) (by kernel_rfl) Tryd.strings_Index ht.2, trivial⟩
theorem env (W0 : World) (ht : Lib.TabIs Tryd.prog W0 "internal/strconv.uint64pow10" .u64 Lib.pow10Tab ∧ ∃ m, W0.cell? ⟨0, 0, none⟩ = some (.int .i64 m)) : EnvOK Tryd.prog E W0 := ⟨mixed, (tt_ok tt_all).1, fun f fn h => fns_of fns_ok f fn h, fun f g h => exts_of (exts_ok W0 ht) f g h⟩
end Go.Proofs.YtjofkhdnidjleaaDoor.ps
