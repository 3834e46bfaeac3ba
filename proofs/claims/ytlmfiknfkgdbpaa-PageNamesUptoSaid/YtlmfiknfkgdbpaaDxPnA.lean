/- A part of the proof. -/
import Derived.Test.YtlmfiknfkgdbpaaF8
import Derived.Test.YtlmfiknfkgdbpaaChecked
import Derived.Test.YtlmfiknfkgdbpaaRows
import Derived.WalkKit
import Derived.ProofKit
import Derived.Test.YtlmfiknfkgdbpaaDxPnS
import Derived.Test.YtlmfiknfkgdbpaaF9
set_option linter.unusedVariables false
set_option linter.unusedSimpArgs false
namespace Go.Proofs.Ytlmfiknfkgdbpaa.pn
open Go.Proofs.Ytlmfiknfkgdbpaa.DS

def tt : TT := [(3, ⟨.int .i64, [.int .i64], [], 8⟩),
  (4, ⟨.bool, [.bool], [], 1⟩),
  (9, ⟨.str, [.str], [], 16⟩),
  (22, ⟨.slice 31, [.slice 31], [], 24⟩),
  (23, ⟨.slice 37, [.slice 37], [], 24⟩),
  (25, ⟨.slice 9, [.slice 9], [], 24⟩),
  (29, ⟨.slice 80, [.slice 80], [], 24⟩),
  (31, ⟨.agg 31, [.str, .str, .slice 80, .bool, .slice 31], [(0, 9), (1, 9), (2, 29), (3, 4), (4, 22)], 88⟩),
  (37, ⟨.agg 37, [.str, .str], [(0, 9), (1, 9)], 32⟩),
  (80, ⟨.agg 80, [.str, .str], [(0, 9), (1, 9)], 32⟩)]
/-- masthead/mastlaw1.PageNames -/
def sig3 : Sig := ⟨[.val (.slice 31), .val (.slice 37)], [.val (.bool)], false⟩
def ann3 : List (Nat × Norm) := [(1, { frz := [1, 0] })]
/-- masthead/page.Shortcodes -/
def sig5 : Sig := ⟨[.val (.slice 31)], [.val (.slice 9)], false⟩
def ann5 : List (Nat × Norm) := [(3, { keep := some [(3, .own 9), (8, .dat 31), (9, .asis), (10, .asis)] }), (7, { keep := some [(3, .own 9), (5, .asis), (8, .dat 31), (9, .asis), (10, .asis)], cut := true }), (8, { keep := some [(3, .own 9), (8, .dat 31), (9, .asis), (10, .asis), (23, .dat 9), (24, .asis), (25, .asis)] })]
/-- masthead/mastref1.NamesOf -/
def sig6 : Sig := ⟨[.val (.slice 31)], [.val (.slice 9)], false⟩
def ann6 : List (Nat × Norm) := [(3, { keep := some [(3, .own 9), (6, .dat 31), (7, .asis), (8, .asis)] })]
/-- slices.Equal[[]string,string] -/
def sig4 : Sig := ⟨[.val (.slice 9), .val (.slice 9)], [.val (.bool)], false⟩
def ann4 : List (Nat × Norm) := [(4, { keep := some [(0, .dat 9), (1, .dat 9), (12, .asis), (13, .asis)] })]
/-- masthead/page.Missing -/
def sig7 : Sig := ⟨[.val (.slice 31), .val (.slice 37)], [.val (.slice 9)], false⟩
def ann7 : List (Nat × Norm) := [(3, { keep := some [(1, .dat 37), (5, .own 9), (9, .dat 9), (10, .asis), (11, .asis)] }), (2, { frz := [0] })]
/-- masthead/mastref1.MissingOf -/
def sig8 : Sig := ⟨[.val (.slice 31), .val (.slice 37)], [.val (.slice 9)], false⟩
def ann8 : List (Nat × Norm) := [(3, { keep := some [(1, .dat 37), (5, .own 9), (9, .dat 9), (10, .asis), (11, .asis)] }), (2, { frz := [0] })]
/-- masthead/page.insert -/
def sig9 : Sig := ⟨[.own 9, .val (.str)], [.own 9], false⟩
def ann9 : List (Nat × Norm) := [(2, { keep := some [(0, .own 9), (1, .asis), (5, .asis)] })]
/-- masthead/mastref1.Sorted -/
def sig10 : Sig := ⟨[.own 9], [.val (.slice 9)], false⟩
def ann10 : List (Nat × Norm) := [(4, { keep := some [(0, .asis), (3, .own 9), (8, .asis), (9, .asis), (10, .asis)] })]
/-- masthead/page.has -/
def sig11 : Sig := ⟨[.val (.slice 37), .val (.str)], [.val (.bool)], false⟩
def ann11 : List (Nat × Norm) := [(2, { keep := some [(1, .asis), (7, .dat 37), (8, .asis), (9, .asis)] })]
/-- masthead/mastref1.inSet -/
def sig12 : Sig := ⟨[.val (.slice 37), .val (.str)], [.val (.bool)], false⟩
def ann12 : List (Nat × Norm) := [(2, { keep := some [(1, .asis), (7, .dat 37), (8, .asis), (9, .asis)] })]
def sig13 : Sig := ⟨[.box 9 [.lent]], [], false⟩
noncomputable def E : Env := { tt := tt, fns := [(3, Try.f3), (5, Try.f5), (6, Try.f6), (4, Try.f4), (7, Try.f7), (8, Try.f8), (9, Try.f9), (10, Try.f10), (11, Try.f11), (12, Try.f12)], sigs := [(3, sig3), (5, sig5), (6, sig6), (4, sig4), (7, sig7), (8, sig8), (9, sig9), (10, sig10), (11, sig11), (12, sig12), (13, sig13)], ext := [(13, xSort)], ann := [(3, ann3), (5, ann5), (6, ann6), (4, ann4), (7, ann7), (8, ann8), (9, ann9), (10, ann10), (11, ann11), (12, ann12)] }
theorem tt_all : ttB Try.prog tt tt = true := by kernel_rfl
theorem fns_ok : FnsOK Try.prog E E.fns := ⟨⟨Try.func3, by kernel_rfl⟩, ⟨Try.func5, by kernel_rfl⟩, ⟨Try.func6, by kernel_rfl⟩, ⟨Try.func4, by kernel_rfl⟩, ⟨Try.func7, by kernel_rfl⟩, ⟨Try.func8, by kernel_rfl⟩, ⟨Try.func9, by kernel_rfl⟩, ⟨Try.func10, by kernel_rfl⟩, ⟨Try.func11, by kernel_rfl⟩, ⟨Try.func12, by kernel_rfl⟩, trivial⟩
theorem mixed : Try.prog.follows .mixedOrders = true := by kernel_rfl
theorem exts_ok (W0 : World) : ExtsOK Try.prog E W0 E.ext := ⟨
  extSort (c := (Try.f13.body).getD .skip) (e := 9) (ei := ⟨.str, [.str], [], 16⟩) Try.lays192 (by kernel_rfl) Try.func13 (by kernel_rfl) (by kernel_rfl) (by kernel_rfl) rfl rfl (by kernel_rfl), trivial⟩
theorem env (W0 : World) : EnvOK Try.prog E W0 := ⟨mixed, (tt_ok tt_all).1, fun f fn h => fns_of fns_ok f fn h, fun f g h => exts_of (exts_ok W0) f g h⟩
end Go.Proofs.Ytlmfiknfkgdbpaa.pn
