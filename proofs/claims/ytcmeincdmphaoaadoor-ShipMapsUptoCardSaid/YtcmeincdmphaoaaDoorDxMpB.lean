/- A part of the proof. -/
import Derived.Test.YtcmeincdmphaoaaDoorDxMpA
set_option linter.unusedVariables false
set_option linter.unusedSimpArgs false
namespace Go.Proofs.YtcmeincdmphaoaaDoor.mp
open Go.Proofs.YtcmeincdmphaoaaDoor.DS

/-! masthead/mastlaw1.ShipMaps -/
def h3a (base0 : List UInt8) (l1 : List D) (s5 : List UInt8) (e6 : Int) (want7 : Int) (i8 : Int) : St := mkSt 49 [(0, SV.val KT.str (D.str base0)), (1, SV.val (KT.slice 39) (D.list l1)), (5, SV.val KT.str (D.str s5)), (6, SV.val (KT.int IntKind.i64) (D.int e6)), (7, SV.val (KT.int IntKind.i64) (D.int want7)), (8, SV.val (KT.int IntKind.i64) (D.int i8))] []
noncomputable def L3a (base0 : List UInt8) (l1 : List D) (s5 : List UInt8) (e6 : Int) (want7 : Int) (i8 : Int) : R := LOOP E (RUN E) 3 Tryd.f3 [1, 1, 1, 0, 1, 0] (h3a base0 l1 s5 e6 want7 i8)
theorem enter3 (base0 : List UInt8) (l1 : List D) : RUN E 3 [D.str base0, D.list l1] =
 opt (RUN E 4 [D.str base0, D.list l1]) fun ρ0 =>
 opt (RUN E 5 [D.list l1]) fun ρ1 =>
 L3a base0 l1 (D.toStr (List.getD ρ0 0 D.no)) (D.toInt (List.getD ρ0 1 D.no)) (D.toInt (List.getD ρ1 0 D.no)) 0 := (RUN_eq _ _ _).trans (by kernel_rfl)
theorem round3a (base0 : List UInt8) (l1 : List D) (s5 : List UInt8) (e6 : Int) (want7 : Int) (i8 : Int) : L3a base0 l1 s5 e6 want7 i8 =
 cond (bif decide (i8 < (↑(List.length base0) : Int)) then decide (want7 = 0) else false)
 (cond (inb i8 (List.length base0))
 (cond (decide ((↑(UInt8.toNat (List.getD base0 (Int.toNat i8) 0)) : Int) < 32))
 (L3a base0 l1 s5 e6 9 (IntKind.wrap IntKind.i64 (i8 + 1)))
 (L3a base0 l1 s5 e6 want7 (IntKind.wrap IntKind.i64 (i8 + 1))))
 (none))
 (cond (bif decide (want7 = 0) then false else true)
 (some [D.bool (bif decide (s5 = ([] : List UInt8)) then decide (e6 = want7) else false)])
 (opt (RUN E 6 [D.str base0, D.list l1]) fun ρ2 =>
 some [D.bool (bif decide (s5 = D.toStr (List.getD ρ2 0 D.no)) then decide (e6 = 0) else false)])) := (LOOP_eq _ _ _ _ _ _).trans (by kernel_rfl)
/-! masthead/ship.SiteMap -/
def h4a (base0 : List UInt8) (v20 : List D) (v21 : Int) (v22 : Int) (x700449s : List D) : St := mkSt 45 [(0, SV.val KT.str (D.str base0)), (7, SV.bptr 7 33 0 (KT.agg 33)), (20, SV.val (KT.slice 39) (D.list v20)), (21, SV.val (KT.int IntKind.i64) (D.int v21)), (22, SV.val (KT.int IntKind.i64) (D.int v22))] [(7, Obj.box 33 (BC.cells [SV.selfn 7, SV.own 700449])), (700449, Obj.arr 5 x700449s)]
noncomputable def L4a (base0 : List UInt8) (v20 : List D) (v21 : Int) (v22 : Int) (x700449s : List D) : R := LOOP E (RUN E) 4 Tryd.f4 [1, 1, 1, 1, 1, 0, 1, 0] (h4a base0 v20 v21 v22 x700449s)
theorem enter4 (base0 : List UInt8) (l1 : List D) : RUN E 4 [D.str base0, D.list l1] =
 opt (RUN E 7 [D.list l1]) fun ρ0 =>
 cond (bif decide (D.toInt (List.getD ρ0 0 D.no) = 0) then false else true)
 (some [D.str (([] : List UInt8)), D.int (D.toInt (List.getD ρ0 0 D.no))])
 (opt (RUN E 8 [D.str base0]) fun ρ2 =>
 cond (D.toBool (List.getD ρ2 0 D.no))
 (some [D.str (([] : List UInt8)), D.int 9])
 (opt (RUN E 9 [D.agg [D.no, D.list []], D.str (([60, 63, 120, 109, 108, 32, 118, 101, 114, 115, 105, 111, 110, 61, 34, 49, 46, 48, 34, 32, 101, 110, 99, 111, 100, 105, 110, 103, 61, 34, 117, 116, 102, 45, 56, 34, 63, 62, 10, 60, 117, 114, 108, 115, 101, 116, 62, 10] : List UInt8))]) fun ρ4 =>
 L4a base0 l1 ((↑(List.length l1) : Int)) 0 (D.toList (D.cell (List.getD ρ4 2 D.no) 1)))) := (RUN_eq _ _ _).trans (by kernel_rfl)
theorem round4a (base0 : List UInt8) (v20 : List D) (v21 : Int) (v22 : Int) (x700449s : List D) : L4a base0 v20 v21 v22 x700449s =
 cond (decide (v22 < v21))
 (cond (inb v22 (List.length v20))
 (opt (RUN E 10 [D.str (D.toStr (D.cell (List.getD v20 (Int.toNat v22) D.no) 0))]) fun ρ2 =>
 cond (D.toBool (List.getD ρ2 0 D.no))
 (opt (RUN E 11 [D.str (D.toStr (D.cell (List.getD v20 (Int.toNat v22) D.no) 0))]) fun ρ4 =>
 cond (decide (List.length base0 + List.length (D.toStr (List.getD ρ4 0 D.no)) ≤ lim))
 (opt (RUN E 12 [D.str (base0 ++ D.toStr (List.getD ρ4 0 D.no))]) fun ρ6 =>
 cond (decide (List.length (([60, 117, 114, 108, 62, 60, 108, 111, 99, 62] : List UInt8)) + List.length (D.toStr (List.getD ρ6 0 D.no)) ≤ lim))
 (cond (decide (List.length (([60, 117, 114, 108, 62, 60, 108, 111, 99, 62] : List UInt8) ++ D.toStr (List.getD ρ6 0 D.no)) + List.length (([60, 47, 108, 111, 99, 62, 60, 47, 117, 114, 108, 62, 10] : List UInt8)) ≤ lim))
 (opt (RUN E 9 [D.agg [D.no, D.list x700449s], D.str (([60, 117, 114, 108, 62, 60, 108, 111, 99, 62] : List UInt8) ++ D.toStr (List.getD ρ6 0 D.no) ++ ([60, 47, 108, 111, 99, 62, 60, 47, 117, 114, 108, 62, 10] : List UInt8))]) fun ρ9 =>
 L4a base0 v20 v21 (IntKind.wrap IntKind.i64 (v22 + 1)) (D.toList (D.cell (List.getD ρ9 2 D.no) 1)))
 (none))
 (none))
 (none))
 (L4a base0 v20 v21 (IntKind.wrap IntKind.i64 (v22 + 1)) x700449s))
 (none))
 (opt (RUN E 9 [D.agg [D.no, D.list x700449s], D.str (([60, 47, 117, 114, 108, 115, 101, 116, 62, 10] : List UInt8))]) fun ρ1 =>
 opt (RUN E 13 [D.agg [D.no, D.list (D.toList (D.cell (List.getD ρ1 2 D.no) 1))]]) fun ρ2 =>
 some [D.str (D.toStr (List.getD ρ2 0 D.no)), D.int 0]) := (LOOP_eq _ _ _ _ _ _).trans (by kernel_rfl)
/-! masthead/mastref1.OutsError -/
def h5a (l0 : List D) (v10 : List D) (v11 : Int) (v12 : Int) : St := mkSt 55 [(0, SV.val (KT.slice 39) (D.list l0)), (10, SV.val (KT.slice 39) (D.list v10)), (11, SV.val (KT.int IntKind.i64) (D.int v11)), (12, SV.val (KT.int IntKind.i64) (D.int v12))] []
noncomputable def L5a (l0 : List D) (v10 : List D) (v11 : Int) (v12 : Int) : R := LOOP E (RUN E) 5 Tryd.f5 [1, 1, 0, 1, 0] (h5a l0 v10 v11 v12)
def h5b (l0 : List D) (v10 : List D) (v11 : Int) (v12 : Int) (v37 : List D) (v38 : Int) (v39 : Int) (x4 : D) : St := mkSt 55 [(0, SV.val (KT.slice 39) (D.list l0)), (4, SV.bptr 4 39 0 (KT.agg 39)), (10, SV.val (KT.slice 39) (D.list v10)), (11, SV.val (KT.int IntKind.i64) (D.int v11)), (12, SV.val (KT.int IntKind.i64) (D.int v12)), (37, SV.val (KT.slice 39) (D.list v37)), (38, SV.val (KT.int IntKind.i64) (D.int v38)), (39, SV.val (KT.int IntKind.i64) (D.int v39))] [(4, Obj.box 39 (BC.whole x4))]
noncomputable def L5b (l0 : List D) (v10 : List D) (v11 : Int) (v12 : Int) (v37 : List D) (v38 : Int) (v39 : Int) (x4 : D) : R := LOOP E (RUN E) 5 Tryd.f5 [1, 1, 0, 1, 0, 0, 1, 1, 0, 0, 1, 1, 1, 0, 1, 0] (h5b l0 v10 v11 v12 v37 v38 v39 x4)
theorem enter5 (l0 : List D) : RUN E 5 [D.list l0] =
 cond (decide (480 < (↑(List.length l0) : Int)))
 (some [D.int 4])
 (L5a l0 l0 ((↑(List.length l0) : Int)) 0) := (RUN_eq _ _ _).trans (by kernel_rfl)
theorem round5a (l0 : List D) (v10 : List D) (v11 : Int) (v12 : Int) : L5a l0 v10 v11 v12 =
 cond (decide (v12 < v11))
 (cond (inb v12 (List.length v10))
 (opt (RUN E 14 [D.str (D.toStr (D.cell (List.getD v10 (Int.toNat v12) D.no) 0))]) fun ρ2 =>
 cond (bif D.toBool (List.getD ρ2 0 D.no) then false else true)
 (some [D.int 3])
 (cond (bif inb (IntKind.wrap IntKind.i64 (v12 - 1)) (List.length l0) then true else bif bif decide (0 < v12) then true else false then false else true)
 (cond (bif decide (0 < v12) then bif Op.bytesLess (D.toStr (D.cell (List.getD v10 (Int.toNat v12) D.no) 0)) (D.toStr (D.cell (List.getD l0 (Int.toNat (IntKind.wrap IntKind.i64 (v12 - 1))) D.no) 0)) then true else (fun (_ : Unit) => decide (D.toStr (D.cell (List.getD v10 (Int.toNat v12) D.no) 0) = D.toStr (D.cell (List.getD l0 (Int.toNat (IntKind.wrap IntKind.i64 (v12 - 1))) D.no) 0))) () else false)
 (some [D.int 5])
 (cond (cutOk (List.length l0) (some (IntKind.wrap IntKind.i64 (v12 + 1))) none)
 (L5b l0 v10 v11 v12 (cutL l0 (some (IntKind.wrap IntKind.i64 (v12 + 1))) none) ((↑(List.length (cutL l0 (some (IntKind.wrap IntKind.i64 (v12 + 1))) none)) : Int)) 0 (List.getD v10 (Int.toNat v12) D.no))
 (none)))
 (none)))
 (none))
 (some [D.int 0]) := (LOOP_eq _ _ _ _ _ _).trans (by kernel_rfl)
theorem round5b (l0 : List D) (v10 : List D) (v11 : Int) (v12 : Int) (v37 : List D) (v38 : Int) (v39 : Int) (x4 : D) : L5b l0 v10 v11 v12 v37 v38 v39 x4 =
 cond (decide (v39 < v38))
 (cond (inb v39 (List.length v37))
 (cond (decide (List.length (D.toStr (D.cell x4 0)) + List.length (([47] : List UInt8)) ≤ lim))
 (opt (RUN E 15 [D.str (D.toStr (D.cell (List.getD v37 (Int.toNat v39) D.no) 0)), D.str (D.toStr (D.cell x4 0) ++ ([47] : List UInt8))]) fun ρ3 =>
 cond (D.toBool (List.getD ρ3 0 D.no))
 (some [D.int 6])
 (L5b l0 v10 v11 v12 v37 v38 (IntKind.wrap IntKind.i64 (v39 + 1)) x4))
 (none))
 (none))
 (cond (decide (200000 < (↑(List.length (D.toStr (D.cell x4 1))) : Int)))
 (some [D.int 4])
 (L5a l0 v10 v11 (IntKind.wrap IntKind.i64 (v12 + 1)))) := (LOOP_eq _ _ _ _ _ _).trans (by kernel_rfl)
/-! masthead/mastref1.MapText -/
def h6a (base0 : List UInt8) (out5 : List UInt8) (v10 : List D) (v11 : Int) (v12 : Int) : St := mkSt 35 [(0, SV.val KT.str (D.str base0)), (5, SV.val KT.str (D.str out5)), (10, SV.val (KT.slice 39) (D.list v10)), (11, SV.val (KT.int IntKind.i64) (D.int v11)), (12, SV.val (KT.int IntKind.i64) (D.int v12))] []
noncomputable def L6a (base0 : List UInt8) (out5 : List UInt8) (v10 : List D) (v11 : Int) (v12 : Int) : R := LOOP E (RUN E) 6 Tryd.f6 [1, 1, 0, 1, 0] (h6a base0 out5 v10 v11 v12)
theorem enter6 (base0 : List UInt8) (l1 : List D) : RUN E 6 [D.str base0, D.list l1] =
 L6a base0 (([60, 63, 120, 109, 108, 32, 118, 101, 114, 115, 105, 111, 110, 61, 34, 49, 46, 48, 34, 32, 101, 110, 99, 111, 100, 105, 110, 103, 61, 34, 117, 116, 102, 45, 56, 34, 63, 62, 10, 60, 117, 114, 108, 115, 101, 116, 62, 10] : List UInt8)) l1 ((↑(List.length l1) : Int)) 0 := (RUN_eq _ _ _).trans (by kernel_rfl)
theorem round6a (base0 : List UInt8) (out5 : List UInt8) (v10 : List D) (v11 : Int) (v12 : Int) : L6a base0 out5 v10 v11 v12 =
 cond (decide (v12 < v11))
 (cond (inb v12 (List.length v10))
 (opt (RUN E 16 [List.getD v10 (Int.toNat v12) D.no]) fun ρ2 =>
 cond (D.toBool (List.getD ρ2 0 D.no))
 (opt (RUN E 17 [D.str (D.toStr (D.cell (List.getD v10 (Int.toNat v12) D.no) 0))]) fun ρ4 =>
 cond (decide (List.length base0 + List.length (D.toStr (List.getD ρ4 0 D.no)) ≤ lim))
 (opt (RUN E 18 [D.str (base0 ++ D.toStr (List.getD ρ4 0 D.no))]) fun ρ6 =>
 cond (decide (List.length (([60, 117, 114, 108, 62, 60, 108, 111, 99, 62] : List UInt8)) + List.length (D.toStr (List.getD ρ6 0 D.no)) ≤ lim))
 (cond (decide (List.length (([60, 117, 114, 108, 62, 60, 108, 111, 99, 62] : List UInt8) ++ D.toStr (List.getD ρ6 0 D.no)) + List.length (([60, 47, 108, 111, 99, 62, 60, 47, 117, 114, 108, 62, 10] : List UInt8)) ≤ lim))
 (cond (decide (List.length out5 + List.length (([60, 117, 114, 108, 62, 60, 108, 111, 99, 62] : List UInt8) ++ D.toStr (List.getD ρ6 0 D.no) ++ ([60, 47, 108, 111, 99, 62, 60, 47, 117, 114, 108, 62, 10] : List UInt8)) ≤ lim))
 (L6a base0 (out5 ++ (([60, 117, 114, 108, 62, 60, 108, 111, 99, 62] : List UInt8) ++ D.toStr (List.getD ρ6 0 D.no) ++ ([60, 47, 108, 111, 99, 62, 60, 47, 117, 114, 108, 62, 10] : List UInt8))) v10 v11 (IntKind.wrap IntKind.i64 (v12 + 1)))
 (none))
 (none))
 (none))
 (none))
 (L6a base0 out5 v10 v11 (IntKind.wrap IntKind.i64 (v12 + 1))))
 (none))
 (cond (decide (List.length out5 + List.length (([60, 47, 117, 114, 108, 115, 101, 116, 62, 10] : List UInt8)) ≤ lim))
 (some [D.str (out5 ++ ([60, 47, 117, 114, 108, 115, 101, 116, 62, 10] : List UInt8))])
 (none)) := (LOOP_eq _ _ _ _ _ _).trans (by kernel_rfl)
/-! masthead/ship.CheckOuts -/
def h7a (l0 : List D) (v10 : List D) (v11 : Int) (v12 : Int) : St := mkSt 57 [(0, SV.val (KT.slice 39) (D.list l0)), (10, SV.val (KT.slice 39) (D.list v10)), (11, SV.val (KT.int IntKind.i64) (D.int v11)), (12, SV.val (KT.int IntKind.i64) (D.int v12))] []
noncomputable def L7a (l0 : List D) (v10 : List D) (v11 : Int) (v12 : Int) : R := LOOP E (RUN E) 7 Tryd.f7 [1, 1, 0, 1, 0] (h7a l0 v10 v11 v12)
def h7b (l0 : List D) (v10 : List D) (v11 : Int) (v12 : Int) (v39 : List D) (v40 : Int) (v41 : Int) (o4 : D) : St := mkSt 57 [(0, SV.val (KT.slice 39) (D.list l0)), (4, SV.bptr 4 39 0 (KT.agg 39)), (10, SV.val (KT.slice 39) (D.list v10)), (11, SV.val (KT.int IntKind.i64) (D.int v11)), (12, SV.val (KT.int IntKind.i64) (D.int v12)), (39, SV.val (KT.slice 39) (D.list v39)), (40, SV.val (KT.int IntKind.i64) (D.int v40)), (41, SV.val (KT.int IntKind.i64) (D.int v41))] [(4, Obj.box 39 (BC.whole o4))]
noncomputable def L7b (l0 : List D) (v10 : List D) (v11 : Int) (v12 : Int) (v39 : List D) (v40 : Int) (v41 : Int) (o4 : D) : R := LOOP E (RUN E) 7 Tryd.f7 [1, 1, 0, 1, 0, 0, 1, 1, 0, 0, 1, 1, 0, 1, 0] (h7b l0 v10 v11 v12 v39 v40 v41 o4)
theorem enter7 (l0 : List D) : RUN E 7 [D.list l0] =
 cond (decide (480 < (↑(List.length l0) : Int)))
 (some [D.int 4])
 (L7a l0 l0 ((↑(List.length l0) : Int)) 0) := (RUN_eq _ _ _).trans (by kernel_rfl)
theorem round7a (l0 : List D) (v10 : List D) (v11 : Int) (v12 : Int) : L7a l0 v10 v11 v12 =
 cond (decide (v12 < v11))
 (cond (inb v12 (List.length v10))
 (opt (RUN E 19 [D.str (D.toStr (D.cell (List.getD v10 (Int.toNat v12) D.no) 0))]) fun ρ2 =>
 cond (bif D.toBool (List.getD ρ2 0 D.no) then false else true)
 (some [D.int 3])
 (cond (bif inb (IntKind.wrap IntKind.i64 (v12 - 1)) (List.length l0) then true else bif bif decide (0 < v12) then true else false then false else true)
 (cond (bif decide (0 < v12) then bif Op.bytesLess (D.toStr (D.cell (List.getD v10 (Int.toNat v12) D.no) 0)) (D.toStr (D.cell (List.getD l0 (Int.toNat (IntKind.wrap IntKind.i64 (v12 - 1))) D.no) 0)) then true else (fun (_ : Unit) => decide (D.toStr (D.cell (List.getD v10 (Int.toNat v12) D.no) 0) = D.toStr (D.cell (List.getD l0 (Int.toNat (IntKind.wrap IntKind.i64 (v12 - 1))) D.no) 0))) () else false)
 (some [D.int 5])
 (cond (cutOk (List.length l0) (some (IntKind.wrap IntKind.i64 (v12 + 1))) none)
 (L7b l0 v10 v11 v12 (cutL l0 (some (IntKind.wrap IntKind.i64 (v12 + 1))) none) ((↑(List.length (cutL l0 (some (IntKind.wrap IntKind.i64 (v12 + 1))) none)) : Int)) 0 (List.getD v10 (Int.toNat v12) D.no))
 (none)))
 (none)))
 (none))
 (some [D.int 0]) := (LOOP_eq _ _ _ _ _ _).trans (by kernel_rfl)
theorem round7b (l0 : List D) (v10 : List D) (v11 : Int) (v12 : Int) (v39 : List D) (v40 : Int) (v41 : Int) (o4 : D) : L7b l0 v10 v11 v12 v39 v40 v41 o4 =
 cond (decide (v41 < v40))
 (cond (inb v41 (List.length v39))
 (cond (decide (List.length (D.toStr (D.cell o4 0)) + List.length (([47] : List UInt8)) ≤ lim))
 (opt (RUN E 15 [D.str (D.toStr (D.cell (List.getD v39 (Int.toNat v41) D.no) 0)), D.str (D.toStr (D.cell o4 0) ++ ([47] : List UInt8))]) fun ρ3 =>
 cond (D.toBool (List.getD ρ3 0 D.no))
 (some [D.int 6])
 (L7b l0 v10 v11 v12 v39 v40 (IntKind.wrap IntKind.i64 (v41 + 1)) o4))
 (none))
 (none))
 (cond (decide (200000 < (↑(List.length (D.toStr (D.cell o4 1))) : Int)))
 (some [D.int 4])
 (L7a l0 v10 v11 (IntKind.wrap IntKind.i64 (v12 + 1)))) := (LOOP_eq _ _ _ _ _ _).trans (by kernel_rfl)
/-! masthead/ship.control -/
def h8a (s0 : List UInt8) (i3 : Int) : St := mkSt 14 [(0, SV.val KT.str (D.str s0)), (3, SV.val (KT.int IntKind.i64) (D.int i3))] []
noncomputable def L8a (s0 : List UInt8) (i3 : Int) : R := LOOP E (RUN E) 8 Tryd.f8 [1, 0, 1, 0] (h8a s0 i3)
theorem enter8 (s0 : List UInt8) : RUN E 8 [D.str s0] =
 L8a s0 0 := (RUN_eq _ _ _).trans (by kernel_rfl)
theorem round8a (s0 : List UInt8) (i3 : Int) : L8a s0 i3 =
 cond (decide (i3 < (↑(List.length s0) : Int)))
 (cond (inb i3 (List.length s0))
 (cond (decide ((↑(UInt8.toNat (List.getD s0 (Int.toNat i3) 0)) : Int) < 32))
 (some [D.bool true])
 (L8a s0 (IntKind.wrap IntKind.i64 (i3 + 1))))
 (none))
 (some [D.bool false]) := (LOOP_eq _ _ _ _ _ _).trans (by kernel_rfl)
/-! (*strings.Builder).WriteString -/
theorem enter9 (b0c1 : List D) (s1 : List UInt8) : RUN E 9 [D.agg [D.no, D.list b0c1], D.str s1] =
 opt (RUN E 20 [D.agg [D.no, D.list b0c1]]) fun ρ0 =>
 cond (fitL (List.length (D.toList (D.cell (List.getD ρ0 0 D.no) 1))) (List.length (bytesD s1)))
 (some [D.int (↑(List.length s1) : Int), D.no, D.agg [D.no, D.list (D.toList (D.cell (List.getD ρ0 0 D.no) 1) ++ bytesD s1)]])
 (none) := (RUN_eq _ _ _).trans (by kernel_rfl)
/-! masthead/ship.isPage -/
theorem enter10 (path0 : List UInt8) : RUN E 10 [D.str path0] =
 opt (RUN E 21 [D.str path0, D.str (([46, 104, 116, 109, 108] : List UInt8))]) fun ρ0 =>
 some [D.bool (D.toBool (List.getD ρ0 0 D.no))] := (RUN_eq _ _ _).trans (by kernel_rfl)
/-! masthead/ship.Address -/
theorem enter11 (path0 : List UInt8) : RUN E 11 [D.str path0] =
 opt (RUN E 19 [D.str path0]) fun ρ0 =>
 cond (bif D.toBool (List.getD ρ0 0 D.no) then false else true)
 (some [D.str (([] : List UInt8)), D.int 3])
 (cond (decide (List.length (([47] : List UInt8)) + List.length path0 ≤ lim))
 (opt (RUN E 21 [D.str (([47] : List UInt8) ++ path0), D.str (([47, 105, 110, 100, 101, 120, 46, 104, 116, 109, 108] : List UInt8))]) fun ρ3 =>
 cond (D.toBool (List.getD ρ3 0 D.no))
 (opt (RUN E 22 [D.str (([47] : List UInt8) ++ path0), D.str (([105, 110, 100, 101, 120, 46, 104, 116, 109, 108] : List UInt8))]) fun ρ5 =>
 some [D.str (D.toStr (List.getD ρ5 0 D.no)), D.int 0])
 (some [D.str (([47] : List UInt8) ++ path0), D.int 0]))
 (none)) := (RUN_eq _ _ _).trans (by kernel_rfl)
/-! masthead/mastref1.IsPath -/
def h14a (v14 : List D) (v15 : Int) (v16 : Int) : St := mkSt 24 [(14, SV.val (KT.slice 9) (D.list v14)), (15, SV.val (KT.int IntKind.i64) (D.int v15)), (16, SV.val (KT.int IntKind.i64) (D.int v16))] []
noncomputable def L14a (v14 : List D) (v15 : Int) (v16 : Int) : R := LOOP E (RUN E) 14 Tryd.f14 [1, 1, 0, 1, 0] (h14a v14 v15 v16)
theorem enter14 (s0 : List UInt8) : RUN E 14 [D.str s0] =
 cond (bif decide ((↑(List.length s0) : Int) < 1) then true else decide (200 < (↑(List.length s0) : Int)))
 (some [D.bool false])
 (opt (RUN E 25 [D.str s0, D.str (([47] : List UInt8))]) fun ρ1 =>
 L14a (D.toList (List.getD ρ1 0 D.no)) ((↑(List.length (D.toList (List.getD ρ1 0 D.no))) : Int)) 0) := (RUN_eq _ _ _).trans (by kernel_rfl)
theorem round14a (v14 : List D) (v15 : Int) (v16 : Int) : L14a v14 v15 v16 =
 cond (decide (v16 < v15))
 (cond (inb v16 (List.length v14))
 (opt (RUN E 26 [D.str (D.toStr (List.getD v14 (Int.toNat v16) D.no))]) fun ρ2 =>
 cond (bif D.toBool (List.getD ρ2 0 D.no) then false else true)
 (some [D.bool false])
 (L14a v14 v15 (IntKind.wrap IntKind.i64 (v16 + 1))))
 (none))
 (some [D.bool true]) := (LOOP_eq _ _ _ _ _ _).trans (by kernel_rfl)
/-! strings.HasPrefix -/
theorem enter15 (s0 : List UInt8) (prefix1 : List UInt8) : RUN E 15 [D.str s0, D.str prefix1] =
 opt (RUN E 27 [D.str s0, D.str prefix1]) fun ρ0 =>
 some [D.bool (D.toBool (List.getD ρ0 0 D.no))] := (RUN_eq _ _ _).trans (by kernel_rfl)
/-! masthead/mastref1.isPage -/
theorem enter16 (x0 : D) : RUN E 16 [x0] =
 opt (RUN E 21 [D.str (D.toStr (D.cell x0 0)), D.str (([46, 104, 116, 109, 108] : List UInt8))]) fun ρ0 =>
 some [D.bool (D.toBool (List.getD ρ0 0 D.no))] := (RUN_eq _ _ _).trans (by kernel_rfl)
/-! masthead/mastref1.AddressOf -/
theorem enter17 (path0 : List UInt8) : RUN E 17 [D.str path0] =
 opt (RUN E 14 [D.str path0]) fun ρ0 =>
 cond (bif D.toBool (List.getD ρ0 0 D.no) then false else true)
 (some [D.str (([] : List UInt8)), D.int 3])
 (cond (decide (path0 = ([105, 110, 100, 101, 120, 46, 104, 116, 109, 108] : List UInt8)))
 (some [D.str (([47] : List UInt8)), D.int 0])
 (opt (RUN E 21 [D.str path0, D.str (([47, 105, 110, 100, 101, 120, 46, 104, 116, 109, 108] : List UInt8))]) fun ρ3 =>
 cond (D.toBool (List.getD ρ3 0 D.no))
 (cond (cutOk (List.length path0) none (some (IntKind.wrap IntKind.i64 ((↑(List.length path0) : Int) - 10))))
 (cond (decide (List.length (([47] : List UInt8)) + List.length (cutL path0 none (some (IntKind.wrap IntKind.i64 ((↑(List.length path0) : Int) - 10)))) ≤ lim))
 (some [D.str (([47] : List UInt8) ++ cutL path0 none (some (IntKind.wrap IntKind.i64 ((↑(List.length path0) : Int) - 10)))), D.int 0])
 (none))
 (none))
 (cond (decide (List.length (([47] : List UInt8)) + List.length path0 ≤ lim))
 (some [D.str (([47] : List UInt8) ++ path0), D.int 0])
 (none)))) := (RUN_eq _ _ _).trans (by kernel_rfl)
/-! masthead/mastref1.Escaped -/
def h18a (s0 : List UInt8) (out3 : List UInt8) (i4 : Int) : St := mkSt 38 [(0, SV.val KT.str (D.str s0)), (3, SV.val KT.str (D.str out3)), (4, SV.val (KT.int IntKind.i64) (D.int i4))] []
noncomputable def L18a (s0 : List UInt8) (out3 : List UInt8) (i4 : Int) : R := LOOP E (RUN E) 18 Tryd.f18 [1, 1, 0, 1, 0] (h18a s0 out3 i4)
theorem enter18 (s0 : List UInt8) : RUN E 18 [D.str s0] =
 L18a s0 (([] : List UInt8)) 0 := (RUN_eq _ _ _).trans (by kernel_rfl)
theorem round18a (s0 : List UInt8) (out3 : List UInt8) (i4 : Int) : L18a s0 out3 i4 =
 cond (decide (i4 < (↑(List.length s0) : Int)))
 (cond (inb i4 (List.length s0))
 (cond (decide ((↑(UInt8.toNat (List.getD s0 (Int.toNat i4) 0)) : Int) = 38))
 (cond (decide (List.length out3 + List.length (([38, 97, 109, 112, 59] : List UInt8)) ≤ lim))
 (L18a s0 (out3 ++ ([38, 97, 109, 112, 59] : List UInt8)) (IntKind.wrap IntKind.i64 (i4 + 1)))
 (none))
 (cond (decide ((↑(UInt8.toNat (List.getD s0 (Int.toNat i4) 0)) : Int) = 60))
 (cond (decide (List.length out3 + List.length (([38, 108, 116, 59] : List UInt8)) ≤ lim))
 (L18a s0 (out3 ++ ([38, 108, 116, 59] : List UInt8)) (IntKind.wrap IntKind.i64 (i4 + 1)))
 (none))
 (cond (decide ((↑(UInt8.toNat (List.getD s0 (Int.toNat i4) 0)) : Int) = 62))
 (cond (decide (List.length out3 + List.length (([38, 103, 116, 59] : List UInt8)) ≤ lim))
 (L18a s0 (out3 ++ ([38, 103, 116, 59] : List UInt8)) (IntKind.wrap IntKind.i64 (i4 + 1)))
 (none))
 (cond (decide ((↑(UInt8.toNat (List.getD s0 (Int.toNat i4) 0)) : Int) = 34))
 (cond (decide (List.length out3 + List.length (([38, 113, 117, 111, 116, 59] : List UInt8)) ≤ lim))
 (L18a s0 (out3 ++ ([38, 113, 117, 111, 116, 59] : List UInt8)) (IntKind.wrap IntKind.i64 (i4 + 1)))
 (none))
 (cond (cutOk (List.length s0) (some i4) (some (IntKind.wrap IntKind.i64 (i4 + 1))))
 (cond (decide (List.length out3 + List.length (cutL s0 (some i4) (some (IntKind.wrap IntKind.i64 (i4 + 1)))) ≤ lim))
 (L18a s0 (out3 ++ cutL s0 (some i4) (some (IntKind.wrap IntKind.i64 (i4 + 1)))) (IntKind.wrap IntKind.i64 (i4 + 1)))
 (none))
 (none))))))
 (none))
 (some [D.str out3]) := (LOOP_eq _ _ _ _ _ _).trans (by kernel_rfl)
/-! masthead/ship.isPath -/
def h19a (v9 : List D) (v10 : Int) (v11 : Int) : St := mkSt 19 [(9, SV.val (KT.slice 9) (D.list v9)), (10, SV.val (KT.int IntKind.i64) (D.int v10)), (11, SV.val (KT.int IntKind.i64) (D.int v11))] []
noncomputable def L19a (v9 : List D) (v10 : Int) (v11 : Int) : R := LOOP E (RUN E) 19 Tryd.f19 [1, 1, 0, 1, 0] (h19a v9 v10 v11)
theorem enter19 (s0 : List UInt8) : RUN E 19 [D.str s0] =
 cond (decide (200 < (↑(List.length s0) : Int)))
 (some [D.bool false])
 (opt (RUN E 25 [D.str s0, D.str (([47] : List UInt8))]) fun ρ1 =>
 L19a (D.toList (List.getD ρ1 0 D.no)) ((↑(List.length (D.toList (List.getD ρ1 0 D.no))) : Int)) 0) := (RUN_eq _ _ _).trans (by kernel_rfl)
theorem round19a (v9 : List D) (v10 : Int) (v11 : Int) : L19a v9 v10 v11 =
 cond (decide (v11 < v10))
 (cond (inb v11 (List.length v9))
 (opt (RUN E 28 [D.str (D.toStr (List.getD v9 (Int.toNat v11) D.no))]) fun ρ2 =>
 cond (bif D.toBool (List.getD ρ2 0 D.no) then false else true)
 (some [D.bool false])
 (L19a v9 v10 (IntKind.wrap IntKind.i64 (v11 + 1))))
 (none))
 (some [D.bool true]) := (LOOP_eq _ _ _ _ _ _).trans (by kernel_rfl)
/-! strings.HasSuffix -/
theorem enter21 (s0 : List UInt8) (suffix1 : List UInt8) : RUN E 21 [D.str s0, D.str suffix1] =
 opt (RUN E 30 [D.str s0, D.str suffix1]) fun ρ0 =>
 some [D.bool (D.toBool (List.getD ρ0 0 D.no))] := (RUN_eq _ _ _).trans (by kernel_rfl)
/-! strings.TrimSuffix -/
theorem enter22 (s0 : List UInt8) (suffix1 : List UInt8) : RUN E 22 [D.str s0, D.str suffix1] =
 opt (RUN E 31 [D.str s0, D.str suffix1]) fun ρ0 =>
 some [D.str (D.toStr (List.getD ρ0 0 D.no))] := (RUN_eq _ _ _).trans (by kernel_rfl)
/-! strings.Split -/
theorem enter25 (s0 : List UInt8) (sep1 : List UInt8) : RUN E 25 [D.str s0, D.str sep1] =
 opt (RUN E 34 [D.str s0, D.str sep1, D.int 0, D.int (-1)]) fun ρ0 =>
 some [D.list (D.toList (List.getD ρ0 0 D.no))] := (RUN_eq _ _ _).trans (by kernel_rfl)
/-! masthead/mastref1.pathPart -/
def h26a (s0 : List UInt8) (i3 : Int) : St := mkSt 43 [(0, SV.val KT.str (D.str s0)), (3, SV.val (KT.int IntKind.i64) (D.int i3))] []
noncomputable def L26a (s0 : List UInt8) (i3 : Int) : R := LOOP E (RUN E) 26 Tryd.f26 [1, 1, 0, 1, 0] (h26a s0 i3)
theorem enter26 (s0 : List UInt8) : RUN E 26 [D.str s0] =
 cond (bif bif bif decide ((↑(List.length s0) : Int) < 1) then true else decide (40 < (↑(List.length s0) : Int)) then true else decide (s0 = ([46] : List UInt8)) then true else decide (s0 = ([46, 46] : List UInt8)))
 (some [D.bool false])
 (L26a s0 0) := (RUN_eq _ _ _).trans (by kernel_rfl)
theorem round26a (s0 : List UInt8) (i3 : Int) : L26a s0 i3 =
 cond (decide (i3 < (↑(List.length s0) : Int)))
 (cond (inb i3 (List.length s0))
 (opt (RUN E 35 [D.int (↑(UInt8.toNat (List.getD s0 (Int.toNat i3) 0)) : Int)]) fun ρ2 =>
 cond (bif inb i3 (List.length s0) then true else bif bif D.toBool (List.getD ρ2 0 D.no) then false else true then false else true)
 (cond (bif inb i3 (List.length s0) then true else bif bif bif D.toBool (List.getD ρ2 0 D.no) then true else decide ((↑(UInt8.toNat (List.getD s0 (Int.toNat i3) 0)) : Int) = 45) then false else true then false else true)
 (cond (bif bif bif D.toBool (List.getD ρ2 0 D.no) then true else decide ((↑(UInt8.toNat (List.getD s0 (Int.toNat i3) 0)) : Int) = 45) then true else decide ((↑(UInt8.toNat (List.getD s0 (Int.toNat i3) 0)) : Int) = 46) then false else true)
 (some [D.bool false])
 (L26a s0 (IntKind.wrap IntKind.i64 (i3 + 1))))
 (none))
 (none))
 (none))
 (some [D.bool true]) := (LOOP_eq _ _ _ _ _ _).trans (by kernel_rfl)
/-! internal/stringslite.HasPrefix -/
theorem enter27 (s0 : List UInt8) (prefix1 : List UInt8) : RUN E 27 [D.str s0, D.str prefix1] =
 cond (bif cutOk (List.length s0) none (some (↑(List.length prefix1) : Int)) then true else bif bif decide ((↑(List.length prefix1) : Int) ≤ (↑(List.length s0) : Int)) then true else false then false else true)
 (some [D.bool (bif decide ((↑(List.length prefix1) : Int) ≤ (↑(List.length s0) : Int)) then decide (cutL s0 none (some (↑(List.length prefix1) : Int)) = prefix1) else false)])
 (none) := (RUN_eq _ _ _).trans (by kernel_rfl)
/-! masthead/ship.isPart -/
def h28a (s0 : List UInt8) (i3 : Int) : St := mkSt 53 [(0, SV.val KT.str (D.str s0)), (3, SV.val (KT.int IntKind.i64) (D.int i3))] []
noncomputable def L28a (s0 : List UInt8) (i3 : Int) : R := LOOP E (RUN E) 28 Tryd.f28 [1, 1, 0, 1, 0] (h28a s0 i3)
theorem enter28 (s0 : List UInt8) : RUN E 28 [D.str s0] =
 cond (bif bif bif decide (s0 = ([] : List UInt8)) then true else decide (40 < (↑(List.length s0) : Int)) then true else decide (s0 = ([46] : List UInt8)) then true else decide (s0 = ([46, 46] : List UInt8)))
 (some [D.bool false])
 (L28a s0 0) := (RUN_eq _ _ _).trans (by kernel_rfl)
theorem round28a (s0 : List UInt8) (i3 : Int) : L28a s0 i3 =
 cond (decide (i3 < (↑(List.length s0) : Int)))
 (cond (inb i3 (List.length s0))
 (opt (cond (bif bif bif decide (97 ≤ (↑(UInt8.toNat (List.getD s0 (Int.toNat i3) 0)) : Int)) then decide ((↑(UInt8.toNat (List.getD s0 (Int.toNat i3) 0)) : Int) ≤ 122) else false then false else true then true else false)
 (RUN E 36 [D.int (↑(UInt8.toNat (List.getD s0 (Int.toNat i3) 0)) : Int)])
 (some [])) fun ρ2 =>
 cond (bif bif bif bif bif bif decide (97 ≤ (↑(UInt8.toNat (List.getD s0 (Int.toNat i3) 0)) : Int)) then decide ((↑(UInt8.toNat (List.getD s0 (Int.toNat i3) 0)) : Int) ≤ 122) else false then false else true then bif D.toBool (List.getD ρ2 0 D.no) then false else true else false then bif decide ((↑(UInt8.toNat (List.getD s0 (Int.toNat i3) 0)) : Int) = 45) then false else true else false then bif decide ((↑(UInt8.toNat (List.getD s0 (Int.toNat i3) 0)) : Int) = 95) then false else true else false then bif decide ((↑(UInt8.toNat (List.getD s0 (Int.toNat i3) 0)) : Int) = 46) then false else true else false)
 (some [D.bool false])
 (L28a s0 (IntKind.wrap IntKind.i64 (i3 + 1))))
 (none))
 (some [D.bool true]) := (LOOP_eq _ _ _ _ _ _).trans (by kernel_rfl)
/-! internal/stringslite.HasSuffix -/
theorem enter30 (s0 : List UInt8) (suffix1 : List UInt8) : RUN E 30 [D.str s0, D.str suffix1] =
 cond (bif cutOk (List.length s0) (some (IntKind.wrap IntKind.i64 ((↑(List.length s0) : Int) - (↑(List.length suffix1) : Int)))) none then true else bif bif decide ((↑(List.length suffix1) : Int) ≤ (↑(List.length s0) : Int)) then true else false then false else true)
 (some [D.bool (bif decide ((↑(List.length suffix1) : Int) ≤ (↑(List.length s0) : Int)) then decide (cutL s0 (some (IntKind.wrap IntKind.i64 ((↑(List.length s0) : Int) - (↑(List.length suffix1) : Int)))) none = suffix1) else false)])
 (none) := (RUN_eq _ _ _).trans (by kernel_rfl)
/-! internal/stringslite.TrimSuffix -/
theorem enter31 (s0 : List UInt8) (suffix1 : List UInt8) : RUN E 31 [D.str s0, D.str suffix1] =
 opt (RUN E 30 [D.str s0, D.str suffix1]) fun ρ0 =>
 cond (D.toBool (List.getD ρ0 0 D.no))
 (cond (cutOk (List.length s0) none (some (IntKind.wrap IntKind.i64 ((↑(List.length s0) : Int) - (↑(List.length suffix1) : Int)))))
 (some [D.str (cutL s0 none (some (IntKind.wrap IntKind.i64 ((↑(List.length s0) : Int) - (↑(List.length suffix1) : Int)))))])
 (none))
 (some [D.str s0]) := (RUN_eq _ _ _).trans (by kernel_rfl)
/-! strings.genSplit -/
def h34a (s0 : List UInt8) (sep1 : List UInt8) (sepSave2 : Int) (n3 : Int) : St := mkSt 66 [(0, SV.val KT.str (D.str s0)), (1, SV.val KT.str (D.str sep1)), (2, SV.val (KT.int IntKind.i64) (D.int sepSave2)), (3, SV.val (KT.int IntKind.i64) (D.int n3))] []
noncomputable def C34a (s0 : List UInt8) (sep1 : List UInt8) (sepSave2 : Int) (n3 : Int) : R := PART E (RUN E) 34 Tryd.f34 [1, 1, 1, 1] (h34a s0 sep1 sepSave2 n3)
def h34b (s0 : List UInt8) (sep1 : List UInt8) (sepSave2 : Int) (n3 : Int) (i10 : Int) (a9s : List D) : St := mkSt 66 [(0, SV.val KT.str (D.str s0)), (1, SV.val KT.str (D.str sep1)), (2, SV.val (KT.int IntKind.i64) (D.int sepSave2)), (3, SV.val (KT.int IntKind.i64) (D.int n3)), (9, SV.own 9), (10, SV.val (KT.int IntKind.i64) (D.int i10))] [(9, Obj.arr 9 a9s)]
noncomputable def L34b (s0 : List UInt8) (sep1 : List UInt8) (sepSave2 : Int) (n3 : Int) (i10 : Int) (a9s : List D) : R := LOOP E (RUN E) 34 Tryd.f34 [1, 1, 1, 1, 1, 1, 1, 1, 0, 0] (h34b s0 sep1 sepSave2 n3 i10 a9s)
theorem enter34 (s0 : List UInt8) (sep1 : List UInt8) (sepSave2 : Int) (n3 : Int) : RUN E 34 [D.str s0, D.str sep1, D.int sepSave2, D.int n3] =
 cond (decide (n3 = 0))
 (some [D.list []])
 (cond (decide (sep1 = ([] : List UInt8)))
 (opt (RUN E 40 [D.str s0, D.int n3]) fun ρ2 =>
 some [D.list (D.toList (List.getD ρ2 0 D.no))])
 (cond (decide (n3 < 0))
 (opt (RUN E 41 [D.str s0, D.str sep1]) fun ρ3 =>
 C34a s0 sep1 sepSave2 (IntKind.wrap IntKind.i64 (D.toInt (List.getD ρ3 0 D.no) + 1)))
 (C34a s0 sep1 sepSave2 n3))) := (RUN_eq _ _ _).trans (by kernel_rfl)
theorem round34a (s0 : List UInt8) (sep1 : List UInt8) (sepSave2 : Int) (n3 : Int) : C34a s0 sep1 sepSave2 n3 =
 cond (bif decide (0 ≤ mmInt false n3 (IntKind.wrap IntKind.i64 ((↑(List.length s0) : Int) + 1))) then bif decide (mmInt false n3 (IntKind.wrap IntKind.i64 ((↑(List.length s0) : Int) + 1)) ≤ mmInt false n3 (IntKind.wrap IntKind.i64 ((↑(List.length s0) : Int) + 1))) then (fun (_ : Unit) => decide (mmInt false n3 (IntKind.wrap IntKind.i64 ((↑(List.length s0) : Int) + 1)) ≤ (↑lim : Int))) () else false else false)
 (L34b s0 sep1 sepSave2 (IntKind.wrap IntKind.i64 (mmInt false n3 (IntKind.wrap IntKind.i64 ((↑(List.length s0) : Int) + 1)) - 1)) 0 (List.replicate (Int.toNat (mmInt false n3 (IntKind.wrap IntKind.i64 ((↑(List.length s0) : Int) + 1)))) (D.str [])))
 (none) := (PART_eq _ _ _ _ _ _).trans (by kernel_rfl)
theorem round34b (s0 : List UInt8) (sep1 : List UInt8) (sepSave2 : Int) (n3 : Int) (i10 : Int) (a9s : List D) : L34b s0 sep1 sepSave2 n3 i10 a9s =
 cond (decide (i10 < n3))
 (opt (RUN E 42 [D.str s0, D.str sep1]) fun ρ1 =>
 cond (decide (D.toInt (List.getD ρ1 0 D.no) < 0))
 (cond (inb i10 (List.length a9s))
 (cond (cutOk (List.length (List.set a9s (Int.toNat i10) (D.str s0))) none (some (IntKind.wrap IntKind.i64 (i10 + 1))))
 (some [D.list (cutL (List.set a9s (Int.toNat i10) (D.str s0)) none (some (IntKind.wrap IntKind.i64 (i10 + 1))))])
 (none))
 (none))
 (cond (cutOk (List.length s0) none (some (IntKind.wrap IntKind.i64 (D.toInt (List.getD ρ1 0 D.no) + sepSave2))))
 (cond (inb i10 (List.length a9s))
 (cond (cutOk (List.length s0) (some (IntKind.wrap IntKind.i64 (D.toInt (List.getD ρ1 0 D.no) + (↑(List.length sep1) : Int)))) none)
 (L34b (cutL s0 (some (IntKind.wrap IntKind.i64 (D.toInt (List.getD ρ1 0 D.no) + (↑(List.length sep1) : Int)))) none) sep1 sepSave2 n3 (IntKind.wrap IntKind.i64 (i10 + 1)) (List.set a9s (Int.toNat i10) (D.str (cutL s0 none (some (IntKind.wrap IntKind.i64 (D.toInt (List.getD ρ1 0 D.no) + sepSave2)))))))
 (none))
 (none))
 (none)))
 (cond (inb i10 (List.length a9s))
 (cond (cutOk (List.length (List.set a9s (Int.toNat i10) (D.str s0))) none (some (IntKind.wrap IntKind.i64 (i10 + 1))))
 (some [D.list (cutL (List.set a9s (Int.toNat i10) (D.str s0)) none (some (IntKind.wrap IntKind.i64 (i10 + 1))))])
 (none))
 (none)) := (LOOP_eq _ _ _ _ _ _).trans (by kernel_rfl)
/-! masthead/mastref1.wordByte -/
theorem enter35 (c0 : Int) : RUN E 35 [D.int c0] =
 opt (cond (bif bif decide (97 ≤ c0) then decide (c0 ≤ 122) else false then false else true)
 (RUN E 43 [D.int c0])
 (some [])) fun ρ0 =>
 some [D.bool (bif bif bif decide (97 ≤ c0) then decide (c0 ≤ 122) else false then true else D.toBool (List.getD ρ0 0 D.no) then true else decide (c0 = 95))] := (RUN_eq _ _ _).trans (by kernel_rfl)
/-! masthead/ship.isDigit -/
theorem enter36 (c0 : Int) : RUN E 36 [D.int c0] =
 some [D.bool (bif decide (48 ≤ c0) then decide (c0 ≤ 57) else false)] := (RUN_eq _ _ _).trans (by kernel_rfl)
/-! masthead/mastref1.isDigit -/
theorem enter43 (c0 : Int) : RUN E 43 [D.int c0] =
 some [D.bool (bif decide (48 ≤ c0) then decide (c0 ≤ 57) else false)] := (RUN_eq _ _ _).trans (by kernel_rfl)
end Go.Proofs.YtcmeincdmphaoaaDoor.mp
