/- A part of the proof. -/
import Derived.Test.YtcmeincdmphaoaaF8
import Derived.Test.YtcmeincdmphaoaaChecked
import Derived.Test.YtcmeincdmphaoaaRows
import Derived.WalkKit
import Derived.ProofKit
import Derived.Test.YtcmeincdmphaoaaDxEsS
set_option linter.unusedVariables false
set_option linter.unusedSimpArgs false
namespace Go.Proofs.Ytcmeincdmphaoaa.es
open Go.Proofs.Ytcmeincdmphaoaa.DS

def tt : TT := [(3, ⟨.int .i64, [.int .i64], [], 8⟩),
  (4, ⟨.bool, [.bool], [], 1⟩),
  (5, ⟨.int .u8, [.int .u8], [], 1⟩),
  (9, ⟨.str, [.str], [], 16⟩),
  (25, ⟨.slice 5, [.slice 5], [], 24⟩)]
/-- masthead/mastlaw1.TmplEscapes -/
def sig3 : Sig := ⟨[.val (.str), .val (.bool)], [.val (.bool)], false⟩
def ann3 : List (Nat × Norm) := []
/-- masthead/tmpl.EscapeAddr -/
def sig4 : Sig := ⟨[.val (.str), .val (.bool)], [.val (.str)], false⟩
def ann4 : List (Nat × Norm) := [(5, { keep := some [(0, .asis), (1, .asis), (5, .own 5), (6, .asis)] })]
/-- masthead/mastref1.AddrEscaped -/
def sig5 : Sig := ⟨[.val (.str), .val (.bool)], [.val (.str)], false⟩
def ann5 : List (Nat × Norm) := [(5, { keep := some [(0, .asis), (1, .asis), (5, .asis), (6, .asis)] })]
/-- masthead/tmpl.badScheme -/
def sig6 : Sig := ⟨[.val (.str)], [.val (.bool)], false⟩
def ann6 : List (Nat × Norm) := []
/-- masthead/tmpl.isLetter -/
def sig7 : Sig := ⟨[.val (.int .u8)], [.val (.bool)], false⟩
def ann7 : List (Nat × Norm) := []
/-- masthead/tmpl.isDigit -/
def sig8 : Sig := ⟨[.val (.int .u8)], [.val (.bool)], false⟩
def ann8 : List (Nat × Norm) := []
/-- masthead/mastref1.SafeScheme -/
def sig11 : Sig := ⟨[.val (.str)], [.val (.bool)], false⟩
def ann11 : List (Nat × Norm) := []
/-- masthead/mastref1.isLetter -/
def sig12 : Sig := ⟨[.val (.int .u8)], [.val (.bool)], false⟩
def ann12 : List (Nat × Norm) := []
/-- masthead/mastref1.isDigit -/
def sig13 : Sig := ⟨[.val (.int .u8)], [.val (.bool)], false⟩
def ann13 : List (Nat × Norm) := []
/-- masthead/mastref1.Escaped -/
def sig14 : Sig := ⟨[.val (.str)], [.val (.str)], false⟩
def ann14 : List (Nat × Norm) := [(3, { keep := some [(0, .asis), (3, .asis), (4, .asis)] })]
/-- masthead/tmpl.small -/
def sig16 : Sig := ⟨[.val (.str)], [.val (.str)], false⟩
def ann16 : List (Nat × Norm) := [(3, { keep := some [(3, .asis), (8, .asis), (9, .asis), (10, .asis)] })]
/-- masthead/tmpl.isSmall -/
def sig17 : Sig := ⟨[.val (.int .u8)], [.val (.bool)], false⟩
def ann17 : List (Nat × Norm) := []
/-- masthead/mastref1.lower -/
def sig21 : Sig := ⟨[.val (.str)], [.val (.str)], false⟩
def ann21 : List (Nat × Norm) := [(3, { keep := some [(3, .asis), (8, .asis), (9, .asis), (10, .asis)] })]
def sig9 : Sig := ⟨[.val .str, .val (.int .u8)], [.val (.int .i64)], false⟩
def sig15 : Sig := ⟨[.val .str, .val .str], [.val (.int .i64)], false⟩
def sig10 : Sig := ⟨[.val .str], [.val .str], false⟩
noncomputable def E : Env := { tt := tt, fns := [(3, Try.f3), (4, Try.f4), (5, Try.f5), (6, Try.f6), (7, Try.f7), (8, Try.f8), (11, Try.f11), (12, Try.f12), (13, Try.f13), (14, Try.f14), (16, Try.f16), (17, Try.f17), (21, Try.f21)], sigs := [(3, sig3), (4, sig4), (5, sig5), (6, sig6), (7, sig7), (8, sig8), (11, sig11), (12, sig12), (13, sig13), (14, sig14), (16, sig16), (17, sig17), (21, sig21), (9, sig9), (15, sig15), (10, sig10)], ext := [(9, xIndexByte), (15, xIndexAny), (10, xEscape)], ann := [(3, ann3), (4, ann4), (5, ann5), (6, ann6), (7, ann7), (8, ann8), (11, ann11), (12, ann12), (13, ann13), (14, ann14), (16, ann16), (17, ann17), (21, ann21)] }
theorem tt_all : ttB Try.prog tt tt = true := by kernel_rfl
theorem fns_ok : FnsOK Try.prog E E.fns := ⟨⟨Try.func3, by kernel_rfl⟩, ⟨Try.func4, by kernel_rfl⟩, ⟨Try.func5, by kernel_rfl⟩, ⟨Try.func6, by kernel_rfl⟩, ⟨Try.func7, by kernel_rfl⟩, ⟨Try.func8, by kernel_rfl⟩, ⟨Try.func11, by kernel_rfl⟩, ⟨Try.func12, by kernel_rfl⟩, ⟨Try.func13, by kernel_rfl⟩, ⟨Try.func14, by kernel_rfl⟩, ⟨Try.func16, by kernel_rfl⟩, ⟨Try.func17, by kernel_rfl⟩, ⟨Try.func21, by kernel_rfl⟩, trivial⟩
theorem mixed : Try.prog.follows .mixedOrders = true := by kernel_rfl
theorem exts_ok (W0 : World) : ExtsOK Try.prog E W0 E.ext := ⟨
  extIndexByte (c := (Try.f9.body).getD .skip) Try.func9 (by kernel_rfl) (by kernel_rfl) (by kernel_rfl) Try.strings_IndexByte,
  extIndexAny (c := (Try.f15.body).getD .skip) Try.func15 (by kernel_rfl) (by kernel_rfl) (by kernel_rfl) Try.strings_IndexAny_all,
  extEscape (c := (Try.f10.body).getD .skip) Try.func10 (by kernel_rfl) (by kernel_rfl) (by kernel_rfl) Try.mark_Escape, trivial⟩
theorem env (W0 : World) : EnvOK Try.prog E W0 := ⟨mixed, (tt_ok tt_all).1, fun f fn h => fns_of fns_ok f fn h, fun f g h => exts_of (exts_ok W0) f g h⟩
end Go.Proofs.Ytcmeincdmphaoaa.es
