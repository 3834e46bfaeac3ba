import Derived.Test.YthbncndefigidaaDoorDtO
import Derived.Test.YthbncndefigidaaDoorChecked
import Derived.Test.YthbncndefigidaaDoorRows
import Derived.WalkKit
import Derived.ProofKit
import Derived.Test.YthbncndefigidaaDoorDtN
import Derived.Test.YthbncndefigidaaDoorDtO
set_option linter.unusedVariables false
set_option linter.unusedSimpArgs false
namespace Go.Proofs.YthbncndefigidaaDoor.sl
open Go.Proofs.YthbncndefigidaaDoor.DS

def tt : TT := [(3, ⟨.int .i64, [.int .i64], [], 8⟩),
  (4, ⟨.bool, [.bool], [], 1⟩),
  (5, ⟨.int .u8, [.int .u8], [], 1⟩),
  (9, ⟨.str, [.str], [], 16⟩),
  (46, ⟨.slice 5, [.slice 5], [], 24⟩),
  (65, ⟨.ptr, [.ptr], [], 8⟩)]
/-- masthead/mastlaw1.MarkSlugs -/
def sig3 : Sig := ⟨[.val (.str)], [.val (.bool)], false⟩
def ann3 : List (Nat × Norm) := []
/-- masthead/mark.Slug -/
def sig7 : Sig := ⟨[.val (.str)], [.val (.str)], false⟩
def ann7 : List (Nat × Norm) := [(3, { keep := some [(0, .asis), (3, .own 5), (4, .asis)] }), (8, { keep := some [(0, .asis), (3, .own 5), (4, .asis), (5, .asis)], cut := true })]
/-- masthead/mastref1.SlugOf -/
def sig8 : Sig := ⟨[.val (.str)], [.val (.str)], false⟩
def ann8 : List (Nat × Norm) := [(3, { keep := some [(0, .asis), (3, .asis), (4, .asis)] })]
/-- masthead/mark.isDigit -/
def sig21 : Sig := ⟨[.val (.int .u8)], [.val (.bool)], false⟩
def ann21 : List (Nat × Norm) := []
/-- masthead/mastref1.lower -/
def sig22 : Sig := ⟨[.val (.str)], [.val (.str)], false⟩
def ann22 : List (Nat × Norm) := [(3, { keep := some [(3, .asis), (8, .asis), (9, .asis), (10, .asis)] })]
/-- masthead/mastref1.isDigit -/
def sig23 : Sig := ⟨[.val (.int .u8)], [.val (.bool)], false⟩
def ann23 : List (Nat × Norm) := []
/-- strings.HasSuffix -/
def sig24 : Sig := ⟨[.val (.str), .val (.str)], [.val (.bool)], false⟩
def ann24 : List (Nat × Norm) := []
/-- strings.Trim -/
def sig25 : Sig := ⟨[.val (.str), .val (.str)], [.val (.str)], false⟩
def ann25 : List (Nat × Norm) := []
/-- internal/stringslite.HasSuffix -/
def sig42 : Sig := ⟨[.val (.str), .val (.str)], [.val (.bool)], false⟩
def ann42 : List (Nat × Norm) := []
/-- strings.trimRightByte -/
def sig44 : Sig := ⟨[.val (.str), .val (.int .u8)], [.val (.str)], false⟩
def ann44 : List (Nat × Norm) := [(1, { keep := some [(0, .asis), (1, .asis)] })]
/-- strings.trimLeftByte -/
def sig43 : Sig := ⟨[.val (.str), .val (.int .u8)], [.val (.str)], false⟩
def ann43 : List (Nat × Norm) := [(1, { keep := some [(0, .asis), (1, .asis)] })]
def sig45 : Sig := ⟨[], [], false⟩
def sig46 : Sig := ⟨[], [], false⟩
def sig47 : Sig := ⟨[], [], false⟩
def sig48 : Sig := ⟨[], [], false⟩
def sig49 : Sig := ⟨[], [], false⟩
noncomputable def E : Env := { tt := tt, fns := [(3, Tryd.f3), (7, Tryd.f7), (8, Tryd.f8), (21, Tryd.f21), (22, Tryd.f22), (23, Tryd.f23), (24, Tryd.f24), (25, Tryd.f25), (42, Tryd.f42), (44, Tryd.f44), (43, Tryd.f43)], sigs := [(3, sig3), (7, sig7), (8, sig8), (21, sig21), (22, sig22), (23, sig23), (24, sig24), (25, sig25), (42, sig42), (44, sig44), (43, sig43), (45, sig45), (46, sig46), (47, sig47), (48, sig48), (49, sig49)], ext := [(45, xNone), (46, xNone), (47, xNone), (48, xNone), (49, xNone)], ann := [(3, ann3), (7, ann7), (8, ann8), (21, ann21), (22, ann22), (23, ann23), (24, ann24), (25, ann25), (42, ann42), (44, ann44), (43, ann43)] }
theorem tt_all : ttB Tryd.prog tt tt = true := by kernel_rfl
theorem fns_ok : FnsOK Tryd.prog E E.fns := ⟨⟨Tryd.func3, by kernel_rfl⟩, ⟨Tryd.func7, by kernel_rfl⟩, ⟨Tryd.func8, by kernel_rfl⟩, ⟨Tryd.func21, by kernel_rfl⟩, ⟨Tryd.func22, by kernel_rfl⟩, ⟨Tryd.func23, by kernel_rfl⟩, ⟨Tryd.func24, by kernel_rfl⟩, ⟨Tryd.func25, by kernel_rfl⟩, ⟨Tryd.func42, by kernel_rfl⟩, ⟨Tryd.func44, by kernel_rfl⟩, ⟨Tryd.func43, by kernel_rfl⟩, trivial⟩
theorem mixed : Tryd.prog.follows .mixedOrders = true := by kernel_rfl
theorem exts_ok (W0 : World) : ExtsOK Tryd.prog E W0 E.ext := ⟨extNone, extNone, extNone, extNone, extNone, trivial⟩
theorem env (W0 : World) : EnvOK Tryd.prog E W0 := ⟨mixed, (tt_ok tt_all).1, fun f fn h => fns_of fns_ok f fn h, fun f g h => exts_of (exts_ok W0) f g h⟩
end Go.Proofs.YthbncndefigidaaDoor.sl
