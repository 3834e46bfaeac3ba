import Derived.Test.YthbncndefigidaaDtN
import Derived.Test.YthbncndefigidaaChecked
import Derived.Test.YthbncndefigidaaRows
import Derived.WalkKit
import Derived.ProofKit
import Derived.Test.YthbncndefigidaaDxMkS
set_option linter.unusedVariables false
set_option linter.unusedSimpArgs false
namespace Go.Proofs.Ythbncndefigidaa.ms
open Go.Proofs.Ythbncndefigidaa.DS

def tt : TT := [(3, ⟨.int .i64, [.int .i64], [], 8⟩),
  (4, ⟨.bool, [.bool], [], 1⟩),
  (5, ⟨.int .u8, [.int .u8], [], 1⟩),
  (9, ⟨.str, [.str], [], 16⟩),
  (22, ⟨.slice 60, [.slice 60], [], 24⟩),
  (26, ⟨.int .i64, [.int .i64], [], 8⟩),
  (60, ⟨.agg 60, [.int .i64, .int .i64, .str, .str, .str, .slice 60], [(0, 3), (1, 3), (2, 9), (3, 9), (4, 9), (5, 22)], 88⟩),
  (66, ⟨.slice 5, [.slice 5], [], 24⟩)]
/-- masthead/mastlaw1.MarkPlains -/
def sig6 : Sig := ⟨[.val (.slice 60)], [.val (.bool)]⟩
def ann6 : List (Nat × Norm) := [(1, { frz := [0] }), (2, { frz := [0] }), (3, { frz := [0] }), (6, { frz := [0] })]
/-- masthead/mastlaw1.MarkSummaries -/
def sig7 : Sig := ⟨[.val (.slice 60), .val (.int .i64)], [.val (.bool)]⟩
def ann7 : List (Nat × Norm) := [(5, { keep := some [(0, .dat 60), (1, .asis), (5, .dat 60), (6, .asis), (7, .asis), (8, .asis)], cut := true }), (8, { keep := some [(0, .dat 60), (1, .asis), (5, .dat 60), (6, .asis), (7, .asis), (9, .asis), (10, .asis)] }), (1, { frz := [0] }), (2, { frz := [0] }), (11, { frz := [5] })]
/-- masthead/mark.Plain -/
def sig18 : Sig := ⟨[.val (.slice 60)], [.val (.str), .val (.int .i64)]⟩
def ann18 : List (Nat × Norm) := [(1, { frz := [0] }), (4, { frz := [0] })]
/-- masthead/mark.Words -/
def sig19 : Sig := ⟨[.val (.slice 60)], [.val (.int .i64), .val (.int .i64)]⟩
def ann19 : List (Nat × Norm) := [(1, { frz := [0] }), (4, { frz := [0] })]
/-- masthead/mastref1.DocError -/
def sig16 : Sig := ⟨[.val (.slice 60)], [.val (.int .i64)]⟩
def ann16 : List (Nat × Norm) := [(1, { frz := [0] }), (3, { frz := [0] }), (5, { frz := [0] })]
/-- masthead/mastref1.PlainOf -/
def sig20 : Sig := ⟨[.val (.slice 60)], [.val (.str)]⟩
def ann20 : List (Nat × Norm) := [(3, { keep := some [(3, .asis), (6, .dat 60), (7, .asis), (8, .asis)] })]
/-- masthead/mastref1.WordsOf -/
def sig21 : Sig := ⟨[.val (.str)], [.val (.int .i64)]⟩
def ann21 : List (Nat × Norm) := [(3, { keep := some [(0, .asis), (3, .asis), (4, .asis), (5, .asis)] })]
/-- masthead/mark.Summary -/
def sig22 : Sig := ⟨[.val (.slice 60), .val (.int .i64)], [.val (.slice 60), .val (.bool), .val (.int .i64)]⟩
def ann22 : List (Nat × Norm) := [(7, { keep := some [(0, .dat 60), (1, .asis), (8, .asis), (9, .asis)] }), (1, { frz := [0] })]
/-- masthead/mastref1.SameDoc -/
def sig12 : Sig := ⟨[.val (.slice 60), .val (.slice 60)], [.val (.bool)]⟩
def ann12 : List (Nat × Norm) := [(4, { keep := some [(0, .dat 60), (1, .dat 60), (14, .asis), (15, .asis)] })]
/-- masthead/mark.Check -/
def sig34 : Sig := ⟨[.val (.slice 60)], [.val (.int .i64)]⟩
def ann34 : List (Nat × Norm) := [(1, { frz := [0] }), (3, { frz := [0] }), (5, { frz := [0] })]
/-- masthead/mark.plainInto -/
def sig40 : Sig := ⟨[.own 5, .val (.slice 60)], [.own 5]⟩
def ann40 : List (Nat × Norm) := [(2, { keep := some [(0, .own 5), (7, .dat 60), (8, .asis), (9, .asis)] }), (16, { keep := some [(0, .own 5), (6, .asis), (7, .dat 60), (8, .asis), (9, .asis)], cut := true })]
/-- masthead/mark.words -/
def sig41 : Sig := ⟨[.val (.slice 60)], [.val (.int .i64)]⟩
def ann41 : List (Nat × Norm) := [(4, { keep := some [(3, .asis), (4, .asis), (9, .dat 5), (10, .asis), (11, .asis)] }), (3, { frz := [0] })]
/-- masthead/mastref1.Nodes -/
def sig37 : Sig := ⟨[.val (.slice 60)], [.val (.int .i64)]⟩
def ann37 : List (Nat × Norm) := [(3, { keep := some [(3, .asis), (8, .dat 60), (9, .asis), (10, .asis)] })]
/-- masthead/mastref1.deep -/
def sig38 : Sig := ⟨[.val (.slice 60), .val (.int .i64), .val (.int .i64)], [.val (.bool)]⟩
def ann38 : List (Nat × Norm) := [(2, { keep := some [(1, .asis), (2, .asis), (11, .dat 60), (12, .asis), (13, .asis)] })]
/-- masthead/mastref1.nodesError -/
def sig39 : Sig := ⟨[.val (.slice 60), .val (.int .i64)], [.val (.int .i64)]⟩
def ann39 : List (Nat × Norm) := [(2, { keep := some [(1, .asis), (9, .dat 60), (10, .asis), (11, .asis)] })]
/-- masthead/mark.clone -/
def sig35 : Sig := ⟨[.val (.slice 60)], [.val (.slice 60)]⟩
def ann35 : List (Nat × Norm) := [(3, { keep := some [(3, .own 60), (6, .dat 60), (7, .asis), (8, .asis)] })]
/-- masthead/mark.count -/
def sig50 : Sig := ⟨[.val (.slice 60)], [.val (.int .i64)]⟩
def ann50 : List (Nat × Norm) := [(3, { keep := some [(0, .dat 60), (3, .asis), (6, .asis), (7, .asis)] })]
/-- masthead/mark.tooDeep -/
def sig53 : Sig := ⟨[.val (.slice 60), .val (.int .i64), .val (.int .i64)], [.val (.bool)]⟩
def ann53 : List (Nat × Norm) := [(2, { keep := some [(0, .dat 60), (1, .asis), (2, .asis), (11, .asis), (12, .asis)] })]
/-- masthead/mark.nodesFault -/
def sig54 : Sig := ⟨[.val (.slice 60), .val (.int .i64)], [.val (.int .i64)]⟩
def ann54 : List (Nat × Norm) := [(2, { keep := some [(1, .asis), (9, .dat 60), (10, .asis), (11, .asis)] })]
/-- masthead/mastref1.isInline -/
def sig55 : Sig := ⟨[.val (.int .i64)], [.val (.bool)]⟩
def ann55 : List (Nat × Norm) := []
/-- masthead/mastref1.nodeError -/
def sig56 : Sig := ⟨[.val (.agg 60), .val (.int .i64)], [.val (.int .i64)]⟩
def ann56 : List (Nat × Norm) := []
/-- masthead/mark.isInline -/
def sig64 : Sig := ⟨[.val (.int .i64)], [.val (.bool)]⟩
def ann64 : List (Nat × Norm) := []
/-- masthead/mark.nodeFault -/
def sig65 : Sig := ⟨[.val (.agg 60), .val (.int .i64)], [.val (.int .i64)]⟩
def ann65 : List (Nat × Norm) := []
/-- masthead/mastref1.permitted -/
def sig66 : Sig := ⟨[.val (.int .i64), .val (.int .i64)], [.val (.bool)]⟩
def ann66 : List (Nat × Norm) := []
/-- masthead/mastref1.badBytes -/
def sig67 : Sig := ⟨[.val (.str), .val (.bool), .val (.bool)], [.val (.bool)]⟩
def ann67 : List (Nat × Norm) := [(2, { keep := some [(0, .asis), (1, .asis), (2, .asis), (7, .asis)] })]
/-- masthead/mark.permitted -/
def sig85 : Sig := ⟨[.val (.int .i64), .val (.int .i64)], [.val (.bool)]⟩
def ann85 : List (Nat × Norm) := []
/-- masthead/mark.uses -/
def sig86 : Sig := ⟨[.val (.int .i64)], [.val (.str)]⟩
def ann86 : List (Nat × Norm) := []
/-- masthead/mark.nodeFault$1 -/
def sig87 : Sig := ⟨[.val (.str), .val (.bool), .ref (.str)], [.val (.bool)]⟩
def ann87 : List (Nat × Norm) := []
/-- masthead/mark.byteFault -/
def sig89 : Sig := ⟨[.val (.agg 60)], [.val (.bool)]⟩
def ann89 : List (Nat × Norm) := []
/-- masthead/mastref1.isBlock -/
def sig90 : Sig := ⟨[.val (.int .i64)], [.val (.bool)]⟩
def ann90 : List (Nat × Norm) := []
/-- masthead/mark.isBlock -/
def sig104 : Sig := ⟨[.val (.int .i64)], [.val (.bool)]⟩
def ann104 : List (Nat × Norm) := []
/-- masthead/mark.control -/
def sig43 : Sig := ⟨[.val (.str), .val (.str)], [.val (.bool)]⟩
def ann43 : List (Nat × Norm) := [(2, { keep := some [(0, .asis), (1, .asis), (5, .asis)] })]
def sig57 : Sig := ⟨[.val .str, .val (.int .u8)], [.val (.int .i64)]⟩
def sig88 : Sig := ⟨[.val .str, .val .str], [.val .bool]⟩
noncomputable def E : Env := { tt := tt, fns := [(6, Try.f6), (7, Try.f7), (18, Try.f18), (19, Try.f19), (16, Try.f16), (20, Try.f20), (21, Try.f21), (22, Try.f22), (12, Try.f12), (34, Try.f34), (40, Try.f40), (41, Try.f41), (37, Try.f37), (38, Try.f38), (39, Try.f39), (35, Try.f35), (50, Try.f50), (53, Try.f53), (54, Try.f54), (55, Try.f55), (56, Try.f56), (64, Try.f64), (65, Try.f65), (66, Try.f66), (67, Try.f67), (85, Try.f85), (86, Try.f86), (87, Try.f87), (89, Try.f89), (90, Try.f90), (104, Try.f104), (43, Try.f43)], sigs := [(6, sig6), (7, sig7), (18, sig18), (19, sig19), (16, sig16), (20, sig20), (21, sig21), (22, sig22), (12, sig12), (34, sig34), (40, sig40), (41, sig41), (37, sig37), (38, sig38), (39, sig39), (35, sig35), (50, sig50), (53, sig53), (54, sig54), (55, sig55), (56, sig56), (64, sig64), (65, sig65), (66, sig66), (67, sig67), (85, sig85), (86, sig86), (87, sig87), (89, sig89), (90, sig90), (104, sig104), (43, sig43), (57, sig57), (88, sig88)], ext := [(57, xIndexByte), (88, xContains1)], ann := [(6, ann6), (7, ann7), (18, ann18), (19, ann19), (16, ann16), (20, ann20), (21, ann21), (22, ann22), (12, ann12), (34, ann34), (40, ann40), (41, ann41), (37, ann37), (38, ann38), (39, ann39), (35, ann35), (50, ann50), (53, ann53), (54, ann54), (55, ann55), (56, ann56), (64, ann64), (65, ann65), (66, ann66), (67, ann67), (85, ann85), (86, ann86), (87, ann87), (89, ann89), (90, ann90), (104, ann104), (43, ann43)] }
theorem tt_all : ttB Try.prog tt tt = true := by kernel_rfl
theorem fns_ok : FnsOK Try.prog E E.fns := ⟨⟨Try.func6, by kernel_rfl⟩, ⟨Try.func7, by kernel_rfl⟩, ⟨Try.func18, by kernel_rfl⟩, ⟨Try.func19, by kernel_rfl⟩, ⟨Try.func16, by kernel_rfl⟩, ⟨Try.func20, by kernel_rfl⟩, ⟨Try.func21, by kernel_rfl⟩, ⟨Try.func22, by kernel_rfl⟩, ⟨Try.func12, by kernel_rfl⟩, ⟨Try.func34, by kernel_rfl⟩, ⟨Try.func40, by kernel_rfl⟩, ⟨Try.func41, by kernel_rfl⟩, ⟨Try.func37, by kernel_rfl⟩, ⟨Try.func38, by kernel_rfl⟩, ⟨Try.func39, by kernel_rfl⟩, ⟨Try.func35, by kernel_rfl⟩, ⟨Try.func50, by kernel_rfl⟩, ⟨Try.func53, by kernel_rfl⟩, ⟨Try.func54, by kernel_rfl⟩, ⟨Try.func55, by kernel_rfl⟩, ⟨Try.func56, by kernel_rfl⟩, ⟨Try.func64, by kernel_rfl⟩, ⟨Try.func65, by kernel_rfl⟩, ⟨Try.func66, by kernel_rfl⟩, ⟨Try.func67, by kernel_rfl⟩, ⟨Try.func85, by kernel_rfl⟩, ⟨Try.func86, by kernel_rfl⟩, ⟨Try.func87, by kernel_rfl⟩, ⟨Try.func89, by kernel_rfl⟩, ⟨Try.func90, by kernel_rfl⟩, ⟨Try.func104, by kernel_rfl⟩, ⟨Try.func43, by kernel_rfl⟩, trivial⟩
theorem mixed : Try.prog.follows .mixedOrders = true := by kernel_rfl
theorem exts_ok (W0 : World) : ExtsOK Try.prog E W0 E.ext := ⟨extIndexByte (c := (Try.f57.body).getD .skip) Try.func57 (by kernel_rfl) (by kernel_rfl) (by kernel_rfl) Try.strings_IndexByte,
  extContains1 (c := (Try.f88.body).getD .skip) Try.func88 (by kernel_rfl) (by kernel_rfl) (by kernel_rfl) Try.strings_Contains_one, trivial⟩
theorem env (W0 : World) : EnvOK Try.prog E W0 := ⟨mixed, (tt_ok tt_all).1, fun f fn h => fns_of fns_ok f fn h, fun f g h => exts_of (exts_ok W0) f g h⟩
end Go.Proofs.Ythbncndefigidaa.ms
