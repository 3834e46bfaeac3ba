import Derived.Test.YtbinmfenhbpdnaaDtO
import Derived.Test.YtbinmfenhbpdnaaChecked
import Derived.Test.YtbinmfenhbpdnaaRows
import Derived.WalkKit
import Derived.ProofKit
set_option linter.unusedVariables false
set_option linter.unusedSimpArgs false
namespace Go.Proofs.Ytbinmfenhbpdnaa.sw
open Go.Proofs.Ytbinmfenhbpdnaa.DS

def tt : TT := [(3, ⟨.int .i64, [.int .i64], [], 8⟩),
  (4, ⟨.bool, [.bool], [], 1⟩),
  (5, ⟨.int .u8, [.int .u8], [], 1⟩),
  (9, ⟨.str, [.str], [], 16⟩),
  (23, ⟨.slice 9, [.slice 9], [], 24⟩),
  (42, ⟨.agg 42, [.str, .int .i64, .int .i64], [(0, 9), (1, 3), (2, 3)], 32⟩),
  (43, ⟨.slice 42, [.slice 42], [], 24⟩),
  (45, ⟨.slice 5, [.slice 5], [], 24⟩)]
/-- masthead/mastlaw1.ShipWords -/
def sig3 : Sig := ⟨[.val (.str), .val (.str)], [.val (.bool)]⟩
def ann3 : List (Nat × Norm) := []
/-- masthead/ship.Words -/
def sig8 : Sig := ⟨[.val (.str)], [.val (.slice 9)]⟩
def ann8 : List (Nat × Norm) := [(3, { keep := some [(0, .asis), (3, .own 9), (4, .asis)] }), (5, { keep := some [(0, .asis), (3, .own 9), (4, .asis), (5, .asis)] })]
/-- masthead/mastref1.WordsIn -/
def sig9 : Sig := ⟨[.val (.str)], [.val (.slice 9)]⟩
def ann9 : List (Nat × Norm) := [(4, { keep := some [(0, .asis), (3, .own 9), (4, .asis), (5, .asis)] })]
/-- slices.Equal[[]string,string] -/
def sig7 : Sig := ⟨[.val (.slice 9), .val (.slice 9)], [.val (.bool)]⟩
def ann7 : List (Nat × Norm) := [(4, { keep := some [(0, .dat 9), (1, .dat 9), (12, .asis), (13, .asis)] })]
/-- masthead/ship.Stem -/
def sig10 : Sig := ⟨[.val (.str)], [.val (.str)]⟩
def ann10 : List (Nat × Norm) := [(2, { keep := some [(0, .asis), (3, .asis)] }), (11, { keep := some [(0, .asis), (4, .asis), (38, .dat 42), (39, .asis), (40, .asis)] })]
/-- masthead/mastref1.StemOf -/
def sig11 : Sig := ⟨[.val (.str)], [.val (.str)]⟩
def ann11 : List (Nat × Norm) := [(4, { keep := some [(0, .asis), (3, .asis)] })]
/-- masthead/ship.isLetter -/
def sig21 : Sig := ⟨[.val (.int .u8)], [.val (.bool)]⟩
def ann21 : List (Nat × Norm) := []
/-- masthead/ship.isDigit -/
def sig22 : Sig := ⟨[.val (.int .u8)], [.val (.bool)]⟩
def ann22 : List (Nat × Norm) := []
/-- masthead/ship.lower -/
def sig23 : Sig := ⟨[.val (.str)], [.val (.str)]⟩
def ann23 : List (Nat × Norm) := [(3, { keep := some [(3, .asis), (8, .asis), (9, .asis), (10, .asis)] })]
/-- masthead/mastref1.isLetter -/
def sig24 : Sig := ⟨[.val (.int .u8)], [.val (.bool)]⟩
def ann24 : List (Nat × Norm) := []
/-- masthead/mastref1.isDigit -/
def sig25 : Sig := ⟨[.val (.int .u8)], [.val (.bool)]⟩
def ann25 : List (Nat × Norm) := []
/-- masthead/mastref1.lower -/
def sig26 : Sig := ⟨[.val (.str)], [.val (.str)]⟩
def ann26 : List (Nat × Norm) := [(3, { keep := some [(3, .asis), (8, .asis), (9, .asis), (10, .asis)] })]
/-- strings.HasSuffix -/
def sig27 : Sig := ⟨[.val (.str), .val (.str)], [.val (.bool)]⟩
def ann27 : List (Nat × Norm) := []
/-- internal/stringslite.HasSuffix -/
def sig49 : Sig := ⟨[.val (.str), .val (.str)], [.val (.bool)]⟩
def ann49 : List (Nat × Norm) := []
noncomputable def E : Env := { tt := tt, fns := [(3, Try.f3), (8, Try.f8), (9, Try.f9), (7, Try.f7), (10, Try.f10), (11, Try.f11), (21, Try.f21), (22, Try.f22), (23, Try.f23), (24, Try.f24), (25, Try.f25), (26, Try.f26), (27, Try.f27), (49, Try.f49)], sigs := [(3, sig3), (8, sig8), (9, sig9), (7, sig7), (10, sig10), (11, sig11), (21, sig21), (22, sig22), (23, sig23), (24, sig24), (25, sig25), (26, sig26), (27, sig27), (49, sig49)], ext := [], ann := [(3, ann3), (8, ann8), (9, ann9), (7, ann7), (10, ann10), (11, ann11), (21, ann21), (22, ann22), (23, ann23), (24, ann24), (25, ann25), (26, ann26), (27, ann27), (49, ann49)] }
theorem tt_all : ttB Try.prog tt tt = true := by kernel_rfl
theorem fns_ok : FnsOK Try.prog E E.fns := ⟨⟨Try.func3, by kernel_rfl⟩, ⟨Try.func8, by kernel_rfl⟩, ⟨Try.func9, by kernel_rfl⟩, ⟨Try.func7, by kernel_rfl⟩, ⟨Try.func10, by kernel_rfl⟩, ⟨Try.func11, by kernel_rfl⟩, ⟨Try.func21, by kernel_rfl⟩, ⟨Try.func22, by kernel_rfl⟩, ⟨Try.func23, by kernel_rfl⟩, ⟨Try.func24, by kernel_rfl⟩, ⟨Try.func25, by kernel_rfl⟩, ⟨Try.func26, by kernel_rfl⟩, ⟨Try.func27, by kernel_rfl⟩, ⟨Try.func49, by kernel_rfl⟩, trivial⟩
theorem mixed : Try.prog.follows .mixedOrders = true := by kernel_rfl
theorem exts_ok (W0 : World) : ExtsOK Try.prog E W0 E.ext := trivial
theorem env (W0 : World) : EnvOK Try.prog E W0 := ⟨mixed, (tt_ok tt_all).1, fun f fn h => fns_of fns_ok f fn h, fun f g h => exts_of (exts_ok W0) f g h⟩
end Go.Proofs.Ytbinmfenhbpdnaa.sw
