/- A part of the proof. -/
import Derived.Test.YtbinmfenhbpdnaaF7
import Derived.Test.YtbinmfenhbpdnaaChecked
import Derived.Test.YtbinmfenhbpdnaaRows
import Derived.WalkKit
import Derived.ProofKit
import Derived.Test.YtbinmfenhbpdnaaDxLnS
set_option linter.unusedVariables false
set_option linter.unusedSimpArgs false
namespace Go.Proofs.Ytbinmfenhbpdnaa.pl
open Go.Proofs.Ytbinmfenhbpdnaa.DS

def tt : TT := [(3, ⟨.int .i64, [.int .i64], [], 8⟩),
  (4, ⟨.bool, [.bool], [], 1⟩),
  (5, ⟨.int .u8, [.int .u8], [], 1⟩),
  (9, ⟨.str, [.str], [], 16⟩),
  (23, ⟨.slice 9, [.slice 9], [], 24⟩),
  (30, ⟨.slice 61, [.slice 61], [], 24⟩),
  (31, ⟨.slice 33, [.slice 33], [], 24⟩),
  (33, ⟨.agg 33, [.str, .str, .slice 61, .bool, .slice 33], [(0, 9), (1, 9), (2, 30), (3, 4), (4, 31)], 88⟩),
  (34, ⟨.int .i64, [.int .i64], [], 8⟩),
  (45, ⟨.slice 5, [.slice 5], [], 24⟩),
  (57, ⟨.ptr, [.ptr], [], 8⟩),
  (59, ⟨.agg 59, [.str, .bool], [(0, 9), (1, 4)], 24⟩),
  (61, ⟨.agg 61, [.str, .str], [(0, 9), (1, 9)], 32⟩)]
/-- masthead/mastlaw1.PageLines -/
def sig5 : Sig := ⟨[.val (.str)], [.val (.bool)], false⟩
def ann5 : List (Nat × Norm) := [(5, { frz := [5, 3] })]
/-- masthead/page.Line -/
def sig16 : Sig := ⟨[.val (.str)], [.val (.agg 33), .val (.int .i64)], false⟩
def ann16 : List (Nat × Norm) := [(5, { keep := some [(2, .asis), (4, .asis), (5, .asis)], rows := [(2, 2, 61), (5, 2, 61)] }), (9, { keep := some [(2, .asis), (4, .asis), (5, .asis)], rows := [(2, 2, 61), (5, 2, 61)], cut := true }), (17, { frz := [5] })]
/-- masthead/mastref1.CodeOf -/
def sig17 : Sig := ⟨[.val (.str)], [.val (.agg 33), .val (.int .i64)], false⟩
def ann17 : List (Nat × Norm) := [(9, { keep := some [(0, .asis), (2, .asis), (4, .asis)], rows := [(2, 2, 61), (4, 2, 61)], cut := true }), (16, { keep := some [(2, .asis), (4, .asis), (56, .dat 9), (57, .asis), (58, .asis)], rows := [(2, 2, 61), (4, 2, 61)] }), (32, { frz := [4] })]
/-- masthead/mastref1.SameParts -/
def sig18 : Sig := ⟨[.val (.slice 33), .val (.slice 33)], [.val (.bool)], false⟩
def ann18 : List (Nat × Norm) := [(4, { keep := some [(0, .dat 33), (1, .dat 33), (15, .asis), (16, .asis)] }), (10, { keep := some [(0, .dat 33), (1, .dat 33), (6, .asis), (7, .asis), (15, .asis), (16, .asis), (65, .asis), (66, .asis)], rows := [(6, 2, 61), (7, 2, 61)] })]
/-- strings.HasPrefix -/
def sig32 : Sig := ⟨[.val (.str), .val (.str)], [.val (.bool)], false⟩
def ann32 : List (Nat × Norm) := []
/-- (*masthead/page.reader).name -/
def sig33 : Sig := ⟨[.box 59 [.val (.str), .val (.bool)]], [.val (.str)], false⟩
def ann33 : List (Nat × Norm) := [(2, { keep := some [(0, .asis), (3, .asis)] })]
/-- (*masthead/page.reader).take -/
def sig34 : Sig := ⟨[.box 59 [.val (.str), .val (.bool)], .val (.str)], [.val (.bool)], false⟩
def ann34 : List (Nat × Norm) := []
/-- (*masthead/page.reader).arg -/
def sig35 : Sig := ⟨[.box 59 [.val (.str), .val (.bool)]], [.val (.agg 61)], false⟩
def ann35 : List (Nat × Norm) := [(13, { keep := some [(0, .asis), (2, .asis), (3, .asis)], cut := true }), (14, { keep := some [(0, .asis), (2, .asis), (3, .asis), (4, .own 5)] })]
/-- masthead/page.argsFault -/
def sig36 : Sig := ⟨[.val (.slice 61)], [.val (.int .i64)], false⟩
def ann36 : List (Nat × Norm) := [(2, { keep := some [(0, .dat 61), (9, .dat 61), (10, .asis), (11, .asis)] }), (5, { keep := some [(0, .dat 61), (4, .asis), (9, .dat 61), (10, .asis), (11, .asis), (18, .dat 61), (19, .asis), (20, .asis)] }), (12, { keep := some [(0, .dat 61), (36, .dat 61), (37, .asis), (38, .asis)] })]
/-- strings.HasSuffix -/
def sig27 : Sig := ⟨[.val (.str), .val (.str)], [.val (.bool)], false⟩
def ann27 : List (Nat × Norm) := []
/-- masthead/mastref1.words -/
def sig37 : Sig := ⟨[.val (.str)], [.val (.slice 9)], false⟩
def ann37 : List (Nat × Norm) := [(4, { keep := some [(0, .asis), (3, .own 9), (4, .asis), (5, .asis), (6, .asis)] })]
/-- masthead/mastref1.codeName -/
def sig38 : Sig := ⟨[.val (.str)], [.val (.bool)], false⟩
def ann38 : List (Nat × Norm) := [(4, { keep := some [(0, .asis), (3, .asis)] })]
/-- masthead/mastref1.argName -/
def sig40 : Sig := ⟨[.val (.str)], [.val (.bool)], false⟩
def ann40 : List (Nat × Norm) := [(4, { keep := some [(0, .asis), (3, .asis)] })]
/-- masthead/mastref1.valueOf -/
def sig41 : Sig := ⟨[.val (.str)], [.val (.str), .val (.bool)], false⟩
def ann41 : List (Nat × Norm) := [(7, { keep := some [(0, .asis), (4, .asis), (5, .asis)] })]
/-- masthead/mastref1.argsError -/
def sig42 : Sig := ⟨[.val (.slice 61)], [.val (.int .i64)], false⟩
def ann42 : List (Nat × Norm) := [(4, { keep := some [(0, .dat 61), (12, .dat 61), (13, .asis), (14, .asis)] }), (7, { keep := some [(0, .dat 61), (4, .asis), (12, .dat 61), (13, .asis), (14, .asis), (21, .dat 61), (22, .asis), (23, .asis)] }), (14, { keep := some [(0, .dat 61), (39, .dat 61), (40, .asis), (41, .asis)] })]
/-- internal/stringslite.HasPrefix -/
def sig52 : Sig := ⟨[.val (.str), .val (.str)], [.val (.bool)], false⟩
def ann52 : List (Nat × Norm) := []
/-- masthead/page.isSmall -/
def sig53 : Sig := ⟨[.val (.int .u8)], [.val (.bool)], false⟩
def ann53 : List (Nat × Norm) := []
/-- masthead/page.isDigit -/
def sig54 : Sig := ⟨[.val (.int .u8)], [.val (.bool)], false⟩
def ann54 : List (Nat × Norm) := []
/-- (*masthead/page.reader).plain -/
def sig55 : Sig := ⟨[.box 59 [.val (.str), .val (.bool)]], [.val (.str)], false⟩
def ann55 : List (Nat × Norm) := [(2, { keep := some [(0, .asis), (3, .asis)] })]
/-- masthead/page.isArg -/
def sig56 : Sig := ⟨[.val (.str)], [.val (.bool)], false⟩
def ann56 : List (Nat × Norm) := [(4, { keep := some [(0, .asis), (3, .asis)] })]
/-- internal/stringslite.HasSuffix -/
def sig49 : Sig := ⟨[.val (.str), .val (.str)], [.val (.bool)], false⟩
def ann49 : List (Nat × Norm) := []
/-- masthead/mastref1.isDigit -/
def sig25 : Sig := ⟨[.val (.int .u8)], [.val (.bool)], false⟩
def ann25 : List (Nat × Norm) := []
/-- masthead/mastref1.wordByte -/
def sig58 : Sig := ⟨[.val (.int .u8)], [.val (.bool)], false⟩
def ann58 : List (Nat × Norm) := []
/-- masthead/mastref1.bare -/
def sig59 : Sig := ⟨[.val (.str)], [.val (.bool)], false⟩
def ann59 : List (Nat × Norm) := [(2, { keep := some [(0, .asis), (3, .asis)] })]
/-- masthead/page.isPlain -/
def sig67 : Sig := ⟨[.val (.int .u8)], [.val (.bool)], false⟩
def ann67 : List (Nat × Norm) := []
/-- masthead/mastref1.bareByte -/
def sig69 : Sig := ⟨[.val (.int .u8)], [.val (.bool)], false⟩
def ann69 : List (Nat × Norm) := []
/-- masthead/mastref1.isLetter -/
def sig24 : Sig := ⟨[.val (.int .u8)], [.val (.bool)], false⟩
def ann24 : List (Nat × Norm) := []
def sig39 : Sig := ⟨[.val .str, .val (.int .u8)], [.val (.int .i64)], false⟩
noncomputable def E : Env := { tt := tt, fns := [(5, Try.f5), (16, Try.f16), (17, Try.f17), (18, Try.f18), (32, Try.f32), (33, Try.f33), (34, Try.f34), (35, Try.f35), (36, Try.f36), (27, Try.f27), (37, Try.f37), (38, Try.f38), (40, Try.f40), (41, Try.f41), (42, Try.f42), (52, Try.f52), (53, Try.f53), (54, Try.f54), (55, Try.f55), (56, Try.f56), (49, Try.f49), (25, Try.f25), (58, Try.f58), (59, Try.f59), (67, Try.f67), (69, Try.f69), (24, Try.f24)], sigs := [(5, sig5), (16, sig16), (17, sig17), (18, sig18), (32, sig32), (33, sig33), (34, sig34), (35, sig35), (36, sig36), (27, sig27), (37, sig37), (38, sig38), (40, sig40), (41, sig41), (42, sig42), (52, sig52), (53, sig53), (54, sig54), (55, sig55), (56, sig56), (49, sig49), (25, sig25), (58, sig58), (59, sig59), (67, sig67), (69, sig69), (24, sig24), (39, sig39)], ext := [(39, xIndexByte)], ann := [(5, ann5), (16, ann16), (17, ann17), (18, ann18), (32, ann32), (33, ann33), (34, ann34), (35, ann35), (36, ann36), (27, ann27), (37, ann37), (38, ann38), (40, ann40), (41, ann41), (42, ann42), (52, ann52), (53, ann53), (54, ann54), (55, ann55), (56, ann56), (49, ann49), (25, ann25), (58, ann58), (59, ann59), (67, ann67), (69, ann69), (24, ann24)] }
theorem tt_all : ttB Try.prog tt tt = true := by kernel_rfl
theorem fns_ok : FnsOK Try.prog E E.fns := ⟨⟨Try.func5, by kernel_rfl⟩, ⟨Try.func16, by kernel_rfl⟩, ⟨Try.func17, by kernel_rfl⟩, ⟨Try.func18, by kernel_rfl⟩, ⟨Try.func32, by kernel_rfl⟩, ⟨Try.func33, by kernel_rfl⟩, ⟨Try.func34, by kernel_rfl⟩, ⟨Try.func35, by kernel_rfl⟩, ⟨Try.func36, by kernel_rfl⟩, ⟨Try.func27, by kernel_rfl⟩, ⟨Try.func37, by kernel_rfl⟩, ⟨Try.func38, by kernel_rfl⟩, ⟨Try.func40, by kernel_rfl⟩, ⟨Try.func41, by kernel_rfl⟩, ⟨Try.func42, by kernel_rfl⟩, ⟨Try.func52, by kernel_rfl⟩, ⟨Try.func53, by kernel_rfl⟩, ⟨Try.func54, by kernel_rfl⟩, ⟨Try.func55, by kernel_rfl⟩, ⟨Try.func56, by kernel_rfl⟩, ⟨Try.func49, by kernel_rfl⟩, ⟨Try.func25, by kernel_rfl⟩, ⟨Try.func58, by kernel_rfl⟩, ⟨Try.func59, by kernel_rfl⟩, ⟨Try.func67, by kernel_rfl⟩, ⟨Try.func69, by kernel_rfl⟩, ⟨Try.func24, by kernel_rfl⟩, trivial⟩
theorem mixed : Try.prog.follows .mixedOrders = true := by kernel_rfl
theorem exts_ok (W0 : World) : ExtsOK Try.prog E W0 E.ext := ⟨extIndexByte (c := (Try.f39.body).getD .skip) Try.func39 (by kernel_rfl) (by kernel_rfl) (by kernel_rfl) Try.strings_IndexByte, trivial⟩
theorem env (W0 : World) : EnvOK Try.prog E W0 := ⟨mixed, (tt_ok tt_all).1, fun f fn h => fns_of fns_ok f fn h, fun f g h => exts_of (exts_ok W0) f g h⟩
end Go.Proofs.Ytbinmfenhbpdnaa.pl
