/- A part of the proof. -/
import Derived.Test.YtefclcihphpejaaDoorDxEvA
set_option linter.unusedVariables false
set_option linter.unusedSimpArgs false
namespace Go.Proofs.YtefclcihphpejaaDoor.ev
open Go.Proofs.YtefclcihphpejaaDoor.DS

/-! masthead/mastlaw1.ShipEvents -/
theorem enter5 (old0 : List D) (new1 : List D) : RUN E 5 [D.list old0, D.list new1] =
 opt (RUN E 13 [D.list old0, D.list new1]) fun ρ0 =>
 opt (RUN E 14 [D.list old0]) fun ρ1 =>
 cond (decide (D.toInt (List.getD ρ1 0 D.no) = 0))
 (opt (RUN E 14 [D.list new1]) fun ρ3 =>
 cond (bif decide (D.toInt (List.getD ρ3 0 D.no) = 0) then false else true)
 (some [D.bool (bif decide ((↑(List.length (D.toList (List.getD ρ0 0 D.no))) : Int) = 0) then decide (D.toInt (List.getD ρ0 1 D.no) = D.toInt (List.getD ρ3 0 D.no)) else false)])
 (opt (cond (bif decide (D.toInt (List.getD ρ0 1 D.no) = 0) then true else false)
 (RUN E 16 [D.list old0, D.list new1])
 (some [])) fun ρ5 =>
 opt (cond (bif decide (D.toInt (List.getD ρ0 1 D.no) = 0) then true else false)
 (RUN E 15 [D.list (D.toList (List.getD ρ0 0 D.no)), D.list (D.toList (List.getD ρ5 0 D.no))])
 (some [])) fun ρ6 =>
 some [D.bool (bif decide (D.toInt (List.getD ρ0 1 D.no) = 0) then D.toBool (List.getD ρ6 0 D.no) else false)]))
 (cond (bif decide (D.toInt (List.getD ρ1 0 D.no) = 0) then false else true)
 (some [D.bool (bif decide ((↑(List.length (D.toList (List.getD ρ0 0 D.no))) : Int) = 0) then decide (D.toInt (List.getD ρ0 1 D.no) = D.toInt (List.getD ρ1 0 D.no)) else false)])
 (opt (cond (bif decide (D.toInt (List.getD ρ0 1 D.no) = 0) then true else false)
 (RUN E 16 [D.list old0, D.list new1])
 (some [])) fun ρ4 =>
 opt (cond (bif decide (D.toInt (List.getD ρ0 1 D.no) = 0) then true else false)
 (RUN E 15 [D.list (D.toList (List.getD ρ0 0 D.no)), D.list (D.toList (List.getD ρ4 0 D.no))])
 (some [])) fun ρ5 =>
 some [D.bool (bif decide (D.toInt (List.getD ρ0 1 D.no) = 0) then D.toBool (List.getD ρ5 0 D.no) else false)])) := (RUN_eq _ _ _).trans (by kernel_rfl)
/-! masthead/ship.Events -/
def h13a (next1 : List D) (v37 : List D) (v38 : Int) (v39 : Int) (out10s : List D) (v34m : List (D × D)) (v36m : List (D × D)) : St := mkSt 98 [(1, SV.val (KT.slice 75) (D.list next1)), (8, SV.mp 34), (9, SV.mp 36), (10, SV.own 10), (37, SV.val (KT.slice 75) (D.list v37)), (38, SV.val (KT.int IntKind.i64) (D.int v38)), (39, SV.val (KT.int IntKind.i64) (D.int v39))] [(10, Obj.arr 9 out10s), (34, DS.Obj.map 72 v34m), (36, DS.Obj.map 72 v36m)]
noncomputable def L13a (next1 : List D) (v37 : List D) (v38 : Int) (v39 : Int) (out10s : List D) (v34m : List (D × D)) (v36m : List (D × D)) : R := LOOP E (RUN E) 13 Tryd.f13 [1, 1, 1, 1, 1, 0, 1, 0] (h13a next1 v37 v38 v39 out10s v34m v36m)
def h13b (v69 : List D) (v70 : Int) (v71 : Int) (out10s : List D) (v34m : List (D × D)) : St := mkSt 98 [(8, SV.mp 34), (10, SV.own 10), (69, SV.val (KT.slice 75) (D.list v69)), (70, SV.val (KT.int IntKind.i64) (D.int v70)), (71, SV.val (KT.int IntKind.i64) (D.int v71))] [(10, Obj.arr 9 out10s), (34, DS.Obj.map 72 v34m)]
noncomputable def L13b (v69 : List D) (v70 : Int) (v71 : Int) (out10s : List D) (v34m : List (D × D)) : R := LOOP E (RUN E) 13 Tryd.f13 [1, 1, 1, 1, 1, 1, 0, 1, 0] (h13b v69 v70 v71 out10s v34m)
theorem enter13 (old0 : List D) (next1 : List D) : RUN E 13 [D.list old0, D.list next1] =
 opt (RUN E 39 [D.list old0]) fun ρ0 =>
 cond (bif decide (D.toInt (List.getD ρ0 0 D.no) = 0) then false else true)
 (some [D.list [], D.int (D.toInt (List.getD ρ0 0 D.no))])
 (opt (RUN E 39 [D.list next1]) fun ρ2 =>
 cond (bif decide (D.toInt (List.getD ρ2 0 D.no) = 0) then false else true)
 (some [D.list [], D.int (D.toInt (List.getD ρ2 0 D.no))])
 (opt (RUN E 40 [D.list old0]) fun ρ4 =>
 opt (RUN E 40 [D.list next1]) fun ρ5 =>
 L13a next1 old0 ((↑(List.length old0) : Int)) 0 [] (unkv (D.toList (List.getD ρ4 0 D.no))) (unkv (D.toList (List.getD ρ5 0 D.no))))) := (RUN_eq _ _ _).trans (by kernel_rfl)
theorem round13a (next1 : List D) (v37 : List D) (v38 : Int) (v39 : Int) (out10s : List D) (v34m : List (D × D)) (v36m : List (D × D)) : L13a next1 v37 v38 v39 out10s v34m v36m =
 cond (decide (v39 < v38))
 (cond (inb v39 (List.length v37))
 (cond (bif bif Option.isSome (findKV KT.str (D.str (D.toStr (D.cell (List.getD v37 (Int.toNat v39) D.no) 0))) v36m) then false else true then true else bif decide (D.toStr (Option.getD (findKV KT.str (D.str (D.toStr (D.cell (List.getD v37 (Int.toNat v39) D.no) 0))) v36m) (D.str [])) = D.toStr (D.cell (List.getD v37 (Int.toNat v39) D.no) 1)) then false else true)
 (opt (RUN E 41 [D.str (D.toStr (D.cell (List.getD v37 (Int.toNat v39) D.no) 0))]) fun ρ3 =>
 cond (fitL (List.length out10s) (List.length [D.str (D.toStr (List.getD ρ3 0 D.no))]))
 (L13a next1 v37 v38 (IntKind.wrap IntKind.i64 (v39 + 1)) (out10s ++ [D.str (D.toStr (List.getD ρ3 0 D.no))]) v34m v36m)
 (none))
 (L13a next1 v37 v38 (IntKind.wrap IntKind.i64 (v39 + 1)) out10s v34m v36m))
 (none))
 (L13b next1 ((↑(List.length next1) : Int)) 0 out10s v34m) := (LOOP_eq _ _ _ _ _ _).trans (by kernel_rfl)
theorem round13b (v69 : List D) (v70 : Int) (v71 : Int) (out10s : List D) (v34m : List (D × D)) : L13b v69 v70 v71 out10s v34m =
 cond (decide (v71 < v70))
 (cond (inb v71 (List.length v69))
 (cond (bif Option.isSome (findKV KT.str (D.str (D.toStr (D.cell (List.getD v69 (Int.toNat v71) D.no) 0))) v34m) then false else true)
 (opt (RUN E 41 [D.str (D.toStr (D.cell (List.getD v69 (Int.toNat v71) D.no) 0))]) fun ρ3 =>
 cond (fitL (List.length out10s) (List.length [D.str (D.toStr (List.getD ρ3 0 D.no))]))
 (L13b v69 v70 (IntKind.wrap IntKind.i64 (v71 + 1)) (out10s ++ [D.str (D.toStr (List.getD ρ3 0 D.no))]) v34m)
 (none))
 (L13b v69 v70 (IntKind.wrap IntKind.i64 (v71 + 1)) out10s v34m))
 (none))
 (opt (RUN E 42 [D.list out10s]) fun ρ1 =>
 some [D.list (D.toList (List.getD ρ1 0 D.no)), D.int 0]) := (LOOP_eq _ _ _ _ _ _).trans (by kernel_rfl)
/-! masthead/mastref1.OutsError -/
def h14a (l0 : List D) (v10 : List D) (v11 : Int) (v12 : Int) : St := mkSt 55 [(0, SV.val (KT.slice 75) (D.list l0)), (10, SV.val (KT.slice 75) (D.list v10)), (11, SV.val (KT.int IntKind.i64) (D.int v11)), (12, SV.val (KT.int IntKind.i64) (D.int v12))] []
noncomputable def L14a (l0 : List D) (v10 : List D) (v11 : Int) (v12 : Int) : R := LOOP E (RUN E) 14 Tryd.f14 [1, 1, 0, 1, 0] (h14a l0 v10 v11 v12)
def h14b (l0 : List D) (v10 : List D) (v11 : Int) (v12 : Int) (v37 : List D) (v38 : Int) (v39 : Int) (x4 : D) : St := mkSt 55 [(0, SV.val (KT.slice 75) (D.list l0)), (4, SV.bptr 4 75 0 (KT.agg 75)), (10, SV.val (KT.slice 75) (D.list v10)), (11, SV.val (KT.int IntKind.i64) (D.int v11)), (12, SV.val (KT.int IntKind.i64) (D.int v12)), (37, SV.val (KT.slice 75) (D.list v37)), (38, SV.val (KT.int IntKind.i64) (D.int v38)), (39, SV.val (KT.int IntKind.i64) (D.int v39))] [(4, Obj.box 75 (BC.whole x4))]
noncomputable def L14b (l0 : List D) (v10 : List D) (v11 : Int) (v12 : Int) (v37 : List D) (v38 : Int) (v39 : Int) (x4 : D) : R := LOOP E (RUN E) 14 Tryd.f14 [1, 1, 0, 1, 0, 0, 1, 1, 0, 0, 1, 1, 1, 0, 1, 0] (h14b l0 v10 v11 v12 v37 v38 v39 x4)
theorem enter14 (l0 : List D) : RUN E 14 [D.list l0] =
 cond (decide (480 < (↑(List.length l0) : Int)))
 (some [D.int 4])
 (L14a l0 l0 ((↑(List.length l0) : Int)) 0) := (RUN_eq _ _ _).trans (by kernel_rfl)
theorem round14a (l0 : List D) (v10 : List D) (v11 : Int) (v12 : Int) : L14a l0 v10 v11 v12 =
 cond (decide (v12 < v11))
 (cond (inb v12 (List.length v10))
 (opt (RUN E 43 [D.str (D.toStr (D.cell (List.getD v10 (Int.toNat v12) D.no) 0))]) fun ρ2 =>
 cond (bif D.toBool (List.getD ρ2 0 D.no) then false else true)
 (some [D.int 3])
 (cond (bif inb (IntKind.wrap IntKind.i64 (v12 - 1)) (List.length l0) then true else bif bif decide (0 < v12) then true else false then false else true)
 (cond (bif decide (0 < v12) then bif Op.bytesLess (D.toStr (D.cell (List.getD v10 (Int.toNat v12) D.no) 0)) (D.toStr (D.cell (List.getD l0 (Int.toNat (IntKind.wrap IntKind.i64 (v12 - 1))) D.no) 0)) then true else (fun (_ : Unit) => decide (D.toStr (D.cell (List.getD v10 (Int.toNat v12) D.no) 0) = D.toStr (D.cell (List.getD l0 (Int.toNat (IntKind.wrap IntKind.i64 (v12 - 1))) D.no) 0))) () else false)
 (some [D.int 5])
 (cond (cutOk (List.length l0) (some (IntKind.wrap IntKind.i64 (v12 + 1))) none)
 (L14b l0 v10 v11 v12 (cutL l0 (some (IntKind.wrap IntKind.i64 (v12 + 1))) none) ((↑(List.length (cutL l0 (some (IntKind.wrap IntKind.i64 (v12 + 1))) none)) : Int)) 0 (List.getD v10 (Int.toNat v12) D.no))
 (none)))
 (none)))
 (none))
 (some [D.int 0]) := (LOOP_eq _ _ _ _ _ _).trans (by kernel_rfl)
theorem round14b (l0 : List D) (v10 : List D) (v11 : Int) (v12 : Int) (v37 : List D) (v38 : Int) (v39 : Int) (x4 : D) : L14b l0 v10 v11 v12 v37 v38 v39 x4 =
 cond (decide (v39 < v38))
 (cond (inb v39 (List.length v37))
 (cond (decide (List.length (D.toStr (D.cell x4 0)) + List.length (([47] : List UInt8)) ≤ lim))
 (opt (RUN E 29 [D.str (D.toStr (D.cell (List.getD v37 (Int.toNat v39) D.no) 0)), D.str (D.toStr (D.cell x4 0) ++ ([47] : List UInt8))]) fun ρ3 =>
 cond (D.toBool (List.getD ρ3 0 D.no))
 (some [D.int 6])
 (L14b l0 v10 v11 v12 v37 v38 (IntKind.wrap IntKind.i64 (v39 + 1)) x4))
 (none))
 (none))
 (cond (decide (200000 < (↑(List.length (D.toStr (D.cell x4 1))) : Int)))
 (some [D.int 4])
 (L14a l0 v10 v11 (IntKind.wrap IntKind.i64 (v12 + 1)))) := (LOOP_eq _ _ _ _ _ _).trans (by kernel_rfl)
/-! masthead/mastref1.EventsOf -/
def h16a (old0 : List D) (new1 : List D) (v18 : List D) (v19 : Int) (v20 : Int) (out5s : List D) : St := mkSt 78 [(0, SV.val (KT.slice 75) (D.list old0)), (1, SV.val (KT.slice 75) (D.list new1)), (5, SV.own 5), (18, SV.val (KT.slice 75) (D.list v18)), (19, SV.val (KT.int IntKind.i64) (D.int v19)), (20, SV.val (KT.int IntKind.i64) (D.int v20))] [(5, Obj.arr 9 out5s)]
noncomputable def L16a (old0 : List D) (new1 : List D) (v18 : List D) (v19 : Int) (v20 : Int) (out5s : List D) : R := LOOP E (RUN E) 16 Tryd.f16 [1, 1, 0, 1, 0] (h16a old0 new1 v18 v19 v20 out5s)
def h16b (old0 : List D) (v50 : List D) (v51 : Int) (v52 : Int) (out5s : List D) : St := mkSt 78 [(0, SV.val (KT.slice 75) (D.list old0)), (5, SV.own 5), (50, SV.val (KT.slice 75) (D.list v50)), (51, SV.val (KT.int IntKind.i64) (D.int v51)), (52, SV.val (KT.int IntKind.i64) (D.int v52))] [(5, Obj.arr 9 out5s)]
noncomputable def L16b (old0 : List D) (v50 : List D) (v51 : Int) (v52 : Int) (out5s : List D) : R := LOOP E (RUN E) 16 Tryd.f16 [1, 1, 1, 0, 1, 0] (h16b old0 v50 v51 v52 out5s)
theorem enter16 (old0 : List D) (new1 : List D) : RUN E 16 [D.list old0, D.list new1] =
 L16a old0 new1 old0 ((↑(List.length old0) : Int)) 0 [] := (RUN_eq _ _ _).trans (by kernel_rfl)
theorem round16a (old0 : List D) (new1 : List D) (v18 : List D) (v19 : Int) (v20 : Int) (out5s : List D) : L16a old0 new1 v18 v19 v20 out5s =
 cond (decide (v20 < v19))
 (cond (inb v20 (List.length v18))
 (opt (RUN E 44 [D.list new1, D.str (D.toStr (D.cell (List.getD v18 (Int.toNat v20) D.no) 0))]) fun ρ2 =>
 cond (bif bif D.toBool (List.getD ρ2 1 D.no) then false else true then true else bif decide (D.toStr (List.getD ρ2 0 D.no) = D.toStr (D.cell (List.getD v18 (Int.toNat v20) D.no) 1)) then false else true)
 (opt (RUN E 45 [D.str (D.toStr (D.cell (List.getD v18 (Int.toNat v20) D.no) 0))]) fun ρ4 =>
 cond (fitL (List.length out5s) (List.length [D.str (D.toStr (List.getD ρ4 0 D.no))]))
 (L16a old0 new1 v18 v19 (IntKind.wrap IntKind.i64 (v20 + 1)) (out5s ++ [D.str (D.toStr (List.getD ρ4 0 D.no))]))
 (none))
 (L16a old0 new1 v18 v19 (IntKind.wrap IntKind.i64 (v20 + 1)) out5s))
 (none))
 (L16b old0 new1 ((↑(List.length new1) : Int)) 0 out5s) := (LOOP_eq _ _ _ _ _ _).trans (by kernel_rfl)
theorem round16b (old0 : List D) (v50 : List D) (v51 : Int) (v52 : Int) (out5s : List D) : L16b old0 v50 v51 v52 out5s =
 cond (decide (v52 < v51))
 (cond (inb v52 (List.length v50))
 (opt (RUN E 44 [D.list old0, D.str (D.toStr (D.cell (List.getD v50 (Int.toNat v52) D.no) 0))]) fun ρ2 =>
 cond (bif D.toBool (List.getD ρ2 1 D.no) then false else true)
 (opt (RUN E 45 [D.str (D.toStr (D.cell (List.getD v50 (Int.toNat v52) D.no) 0))]) fun ρ4 =>
 cond (fitL (List.length out5s) (List.length [D.str (D.toStr (List.getD ρ4 0 D.no))]))
 (L16b old0 v50 v51 (IntKind.wrap IntKind.i64 (v52 + 1)) (out5s ++ [D.str (D.toStr (List.getD ρ4 0 D.no))]))
 (none))
 (L16b old0 v50 v51 (IntKind.wrap IntKind.i64 (v52 + 1)) out5s))
 (none))
 (opt (RUN E 46 [D.list out5s]) fun ρ1 =>
 some [D.list (D.toList (List.getD ρ1 0 D.no))]) := (LOOP_eq _ _ _ _ _ _).trans (by kernel_rfl)
/-! slices.Equal[[]string,string] -/
def h15a (s10 : List D) (s21 : List D) (v12 : Int) (v13 : Int) : St := mkSt 26 [(0, SV.val (KT.slice 9) (D.list s10)), (1, SV.val (KT.slice 9) (D.list s21)), (12, SV.val (KT.int IntKind.i64) (D.int v12)), (13, SV.val (KT.int IntKind.i64) (D.int v13))] []
noncomputable def L15a (s10 : List D) (s21 : List D) (v12 : Int) (v13 : Int) : R := LOOP E (RUN E) 15 Tryd.f15 [1, 1, 0, 1, 0] (h15a s10 s21 v12 v13)
theorem enter15 (s10 : List D) (s21 : List D) : RUN E 15 [D.list s10, D.list s21] =
 cond (bif decide ((↑(List.length s10) : Int) = (↑(List.length s21) : Int)) then false else true)
 (some [D.bool false])
 (L15a s10 s21 ((↑(List.length s10) : Int)) 0) := (RUN_eq _ _ _).trans (by kernel_rfl)
theorem round15a (s10 : List D) (s21 : List D) (v12 : Int) (v13 : Int) : L15a s10 s21 v12 v13 =
 cond (decide (v13 < v12))
 (cond (inb v13 (List.length s10))
 (cond (inb v13 (List.length s21))
 (cond (bif decide (D.toStr (List.getD s10 (Int.toNat v13) D.no) = D.toStr (List.getD s21 (Int.toNat v13) D.no)) then false else true)
 (some [D.bool false])
 (L15a s10 s21 v12 (IntKind.wrap IntKind.i64 (v13 + 1))))
 (none))
 (none))
 (some [D.bool true]) := (LOOP_eq _ _ _ _ _ _).trans (by kernel_rfl)
/-! masthead/ship.CheckOuts -/
def h39a (l0 : List D) (v10 : List D) (v11 : Int) (v12 : Int) : St := mkSt 57 [(0, SV.val (KT.slice 75) (D.list l0)), (10, SV.val (KT.slice 75) (D.list v10)), (11, SV.val (KT.int IntKind.i64) (D.int v11)), (12, SV.val (KT.int IntKind.i64) (D.int v12))] []
noncomputable def L39a (l0 : List D) (v10 : List D) (v11 : Int) (v12 : Int) : R := LOOP E (RUN E) 39 Tryd.f39 [1, 1, 0, 1, 0] (h39a l0 v10 v11 v12)
def h39b (l0 : List D) (v10 : List D) (v11 : Int) (v12 : Int) (v39 : List D) (v40 : Int) (v41 : Int) (o4 : D) : St := mkSt 57 [(0, SV.val (KT.slice 75) (D.list l0)), (4, SV.bptr 4 75 0 (KT.agg 75)), (10, SV.val (KT.slice 75) (D.list v10)), (11, SV.val (KT.int IntKind.i64) (D.int v11)), (12, SV.val (KT.int IntKind.i64) (D.int v12)), (39, SV.val (KT.slice 75) (D.list v39)), (40, SV.val (KT.int IntKind.i64) (D.int v40)), (41, SV.val (KT.int IntKind.i64) (D.int v41))] [(4, Obj.box 75 (BC.whole o4))]
noncomputable def L39b (l0 : List D) (v10 : List D) (v11 : Int) (v12 : Int) (v39 : List D) (v40 : Int) (v41 : Int) (o4 : D) : R := LOOP E (RUN E) 39 Tryd.f39 [1, 1, 0, 1, 0, 0, 1, 1, 0, 0, 1, 1, 0, 1, 0] (h39b l0 v10 v11 v12 v39 v40 v41 o4)
theorem enter39 (l0 : List D) : RUN E 39 [D.list l0] =
 cond (decide (480 < (↑(List.length l0) : Int)))
 (some [D.int 4])
 (L39a l0 l0 ((↑(List.length l0) : Int)) 0) := (RUN_eq _ _ _).trans (by kernel_rfl)
theorem round39a (l0 : List D) (v10 : List D) (v11 : Int) (v12 : Int) : L39a l0 v10 v11 v12 =
 cond (decide (v12 < v11))
 (cond (inb v12 (List.length v10))
 (opt (RUN E 69 [D.str (D.toStr (D.cell (List.getD v10 (Int.toNat v12) D.no) 0))]) fun ρ2 =>
 cond (bif D.toBool (List.getD ρ2 0 D.no) then false else true)
 (some [D.int 3])
 (cond (bif inb (IntKind.wrap IntKind.i64 (v12 - 1)) (List.length l0) then true else bif bif decide (0 < v12) then true else false then false else true)
 (cond (bif decide (0 < v12) then bif Op.bytesLess (D.toStr (D.cell (List.getD v10 (Int.toNat v12) D.no) 0)) (D.toStr (D.cell (List.getD l0 (Int.toNat (IntKind.wrap IntKind.i64 (v12 - 1))) D.no) 0)) then true else (fun (_ : Unit) => decide (D.toStr (D.cell (List.getD v10 (Int.toNat v12) D.no) 0) = D.toStr (D.cell (List.getD l0 (Int.toNat (IntKind.wrap IntKind.i64 (v12 - 1))) D.no) 0))) () else false)
 (some [D.int 5])
 (cond (cutOk (List.length l0) (some (IntKind.wrap IntKind.i64 (v12 + 1))) none)
 (L39b l0 v10 v11 v12 (cutL l0 (some (IntKind.wrap IntKind.i64 (v12 + 1))) none) ((↑(List.length (cutL l0 (some (IntKind.wrap IntKind.i64 (v12 + 1))) none)) : Int)) 0 (List.getD v10 (Int.toNat v12) D.no))
 (none)))
 (none)))
 (none))
 (some [D.int 0]) := (LOOP_eq _ _ _ _ _ _).trans (by kernel_rfl)
theorem round39b (l0 : List D) (v10 : List D) (v11 : Int) (v12 : Int) (v39 : List D) (v40 : Int) (v41 : Int) (o4 : D) : L39b l0 v10 v11 v12 v39 v40 v41 o4 =
 cond (decide (v41 < v40))
 (cond (inb v41 (List.length v39))
 (cond (decide (List.length (D.toStr (D.cell o4 0)) + List.length (([47] : List UInt8)) ≤ lim))
 (opt (RUN E 29 [D.str (D.toStr (D.cell (List.getD v39 (Int.toNat v41) D.no) 0)), D.str (D.toStr (D.cell o4 0) ++ ([47] : List UInt8))]) fun ρ3 =>
 cond (D.toBool (List.getD ρ3 0 D.no))
 (some [D.int 6])
 (L39b l0 v10 v11 v12 v39 v40 (IntKind.wrap IntKind.i64 (v41 + 1)) o4))
 (none))
 (none))
 (cond (decide (200000 < (↑(List.length (D.toStr (D.cell o4 1))) : Int)))
 (some [D.int 4])
 (L39a l0 v10 v11 (IntKind.wrap IntKind.i64 (v12 + 1)))) := (LOOP_eq _ _ _ _ _ _).trans (by kernel_rfl)
/-! masthead/ship.bodies -/
def h40a (v7 : List D) (v8 : Int) (v9 : Int) (v6m : List (D × D)) : St := mkSt 20 [(3, SV.mp 6), (7, SV.val (KT.slice 75) (D.list v7)), (8, SV.val (KT.int IntKind.i64) (D.int v8)), (9, SV.val (KT.int IntKind.i64) (D.int v9))] [(6, DS.Obj.map 72 v6m)]
noncomputable def L40a (v7 : List D) (v8 : Int) (v9 : Int) (v6m : List (D × D)) : R := LOOP E (RUN E) 40 Tryd.f40 [1, 1, 0, 1, 0] (h40a v7 v8 v9 v6m)
theorem enter40 (l0 : List D) : RUN E 40 [D.list l0] =
 L40a l0 ((↑(List.length l0) : Int)) 0 [] := (RUN_eq _ _ _).trans (by kernel_rfl)
theorem round40a (v7 : List D) (v8 : Int) (v9 : Int) (v6m : List (D × D)) : L40a v7 v8 v9 v6m =
 cond (decide (v9 < v8))
 (cond (inb v9 (List.length v7))
 (L40a v7 v8 (IntKind.wrap IntKind.i64 (v9 + 1)) (putKV KT.str (D.str (D.toStr (D.cell (List.getD v7 (Int.toNat v9) D.no) 0))) (D.str (D.toStr (D.cell (List.getD v7 (Int.toNat v9) D.no) 1))) v6m))
 (none))
 (some [D.list (kvD v6m)]) := (LOOP_eq _ _ _ _ _ _).trans (by kernel_rfl)
/-! masthead/ship.Address -/
theorem enter41 (path0 : List UInt8) : RUN E 41 [D.str path0] =
 opt (RUN E 69 [D.str path0]) fun ρ0 =>
 cond (bif D.toBool (List.getD ρ0 0 D.no) then false else true)
 (some [D.str (([] : List UInt8)), D.int 3])
 (cond (decide (List.length (([47] : List UInt8)) + List.length path0 ≤ lim))
 (opt (RUN E 27 [D.str (([47] : List UInt8) ++ path0), D.str (([47, 105, 110, 100, 101, 120, 46, 104, 116, 109, 108] : List UInt8))]) fun ρ3 =>
 cond (D.toBool (List.getD ρ3 0 D.no))
 (opt (RUN E 70 [D.str (([47] : List UInt8) ++ path0), D.str (([105, 110, 100, 101, 120, 46, 104, 116, 109, 108] : List UInt8))]) fun ρ5 =>
 some [D.str (D.toStr (List.getD ρ5 0 D.no)), D.int 0])
 (some [D.str (([47] : List UInt8) ++ path0), D.int 0]))
 (none)) := (RUN_eq _ _ _).trans (by kernel_rfl)
/-! masthead/mastref1.IsPath -/
def h43a (v14 : List D) (v15 : Int) (v16 : Int) : St := mkSt 24 [(14, SV.val (KT.slice 9) (D.list v14)), (15, SV.val (KT.int IntKind.i64) (D.int v15)), (16, SV.val (KT.int IntKind.i64) (D.int v16))] []
noncomputable def L43a (v14 : List D) (v15 : Int) (v16 : Int) : R := LOOP E (RUN E) 43 Tryd.f43 [1, 1, 0, 1, 0] (h43a v14 v15 v16)
theorem enter43 (s0 : List UInt8) : RUN E 43 [D.str s0] =
 cond (bif decide ((↑(List.length s0) : Int) < 1) then true else decide (200 < (↑(List.length s0) : Int)))
 (some [D.bool false])
 (opt (RUN E 35 [D.str s0, D.str (([47] : List UInt8))]) fun ρ1 =>
 L43a (D.toList (List.getD ρ1 0 D.no)) ((↑(List.length (D.toList (List.getD ρ1 0 D.no))) : Int)) 0) := (RUN_eq _ _ _).trans (by kernel_rfl)
theorem round43a (v14 : List D) (v15 : Int) (v16 : Int) : L43a v14 v15 v16 =
 cond (decide (v16 < v15))
 (cond (inb v16 (List.length v14))
 (opt (RUN E 72 [D.str (D.toStr (List.getD v14 (Int.toNat v16) D.no))]) fun ρ2 =>
 cond (bif D.toBool (List.getD ρ2 0 D.no) then false else true)
 (some [D.bool false])
 (L43a v14 v15 (IntKind.wrap IntKind.i64 (v16 + 1))))
 (none))
 (some [D.bool true]) := (LOOP_eq _ _ _ _ _ _).trans (by kernel_rfl)
/-! strings.HasPrefix -/
theorem enter29 (s0 : List UInt8) (prefix1 : List UInt8) : RUN E 29 [D.str s0, D.str prefix1] =
 opt (RUN E 64 [D.str s0, D.str prefix1]) fun ρ0 =>
 some [D.bool (D.toBool (List.getD ρ0 0 D.no))] := (RUN_eq _ _ _).trans (by kernel_rfl)
/-! masthead/mastref1.bodyOf -/
theorem enter44 (l0 : List D) (path1 : List UInt8) : RUN E 44 [D.list l0, D.str path1] =
 opt (RUN E 73 [D.list l0, D.str path1]) fun ρ0 =>
 cond (decide (0 ≤ D.toInt (List.getD ρ0 0 D.no)))
 (cond (inb (D.toInt (List.getD ρ0 0 D.no)) (List.length l0))
 (some [D.str (D.toStr (D.cell (List.getD l0 (Int.toNat (D.toInt (List.getD ρ0 0 D.no))) D.no) 1)), D.bool true])
 (none))
 (some [D.str (([] : List UInt8)), D.bool false]) := (RUN_eq _ _ _).trans (by kernel_rfl)
/-! masthead/mastref1.AddressOf -/
theorem enter45 (path0 : List UInt8) : RUN E 45 [D.str path0] =
 opt (RUN E 43 [D.str path0]) fun ρ0 =>
 cond (bif D.toBool (List.getD ρ0 0 D.no) then false else true)
 (some [D.str (([] : List UInt8)), D.int 3])
 (cond (decide (path0 = ([105, 110, 100, 101, 120, 46, 104, 116, 109, 108] : List UInt8)))
 (some [D.str (([47] : List UInt8)), D.int 0])
 (opt (RUN E 27 [D.str path0, D.str (([47, 105, 110, 100, 101, 120, 46, 104, 116, 109, 108] : List UInt8))]) fun ρ3 =>
 cond (D.toBool (List.getD ρ3 0 D.no))
 (cond (cutOk (List.length path0) none (some (IntKind.wrap IntKind.i64 ((↑(List.length path0) : Int) - 10))))
 (cond (decide (List.length (([47] : List UInt8)) + List.length (cutL path0 none (some (IntKind.wrap IntKind.i64 ((↑(List.length path0) : Int) - 10)))) ≤ lim))
 (some [D.str (([47] : List UInt8) ++ cutL path0 none (some (IntKind.wrap IntKind.i64 ((↑(List.length path0) : Int) - 10)))), D.int 0])
 (none))
 (none))
 (cond (decide (List.length (([47] : List UInt8)) + List.length path0 ≤ lim))
 (some [D.str (([47] : List UInt8) ++ path0), D.int 0])
 (none)))) := (RUN_eq _ _ _).trans (by kernel_rfl)
/-! masthead/mastref1.Sorted -/
def h46a (v9 : Int) (v10 : Int) (out3s : List D) (l0s : List D) : St := mkSt 32 [(0, SV.own 0), (3, SV.own 3), (8, SV.own 0), (9, SV.val (KT.int IntKind.i64) (D.int v9)), (10, SV.val (KT.int IntKind.i64) (D.int v10))] [(3, Obj.arr 9 out3s), (0, Obj.arr 9 l0s)]
noncomputable def L46a (v9 : Int) (v10 : Int) (out3s : List D) (l0s : List D) : R := LOOP E (RUN E) 46 Tryd.f46 [1, 1, 1, 0, 1, 0] (h46a v9 v10 out3s l0s)
theorem enter46 (l0 : List D) : RUN E 46 [D.list l0] =
 opt (RUN E 42 [D.list l0]) fun ρ0 =>
 L46a ((↑(List.length (D.toList (List.getD ρ0 0 D.no))) : Int)) 0 [] (D.toList (List.getD ρ0 0 D.no)) := (RUN_eq _ _ _).trans (by kernel_rfl)
theorem round46a (v9 : Int) (v10 : Int) (out3s : List D) (l0s : List D) : L46a v9 v10 out3s l0s =
 cond (decide (v10 < v9))
 (cond (inb v10 (List.length l0s))
 (cond (bif inb (IntKind.wrap IntKind.i64 (v10 - 1)) (List.length l0s) then true else bif bif decide (v10 = 0) then false else true then false else true)
 (cond (bif decide (v10 = 0) then true else bif decide (D.toStr (List.getD l0s (Int.toNat v10) D.no) = D.toStr (List.getD l0s (Int.toNat (IntKind.wrap IntKind.i64 (v10 - 1))) D.no)) then false else true)
 (cond (fitL (List.length out3s) (List.length [D.str (D.toStr (List.getD l0s (Int.toNat v10) D.no))]))
 (L46a v9 (IntKind.wrap IntKind.i64 (v10 + 1)) (out3s ++ [D.str (D.toStr (List.getD l0s (Int.toNat v10) D.no))]) l0s)
 (none))
 (L46a v9 (IntKind.wrap IntKind.i64 (v10 + 1)) out3s l0s))
 (none))
 (none))
 (some [D.list out3s]) := (LOOP_eq _ _ _ _ _ _).trans (by kernel_rfl)
/-! masthead/ship.isPath -/
def h69a (v9 : List D) (v10 : Int) (v11 : Int) : St := mkSt 19 [(9, SV.val (KT.slice 9) (D.list v9)), (10, SV.val (KT.int IntKind.i64) (D.int v10)), (11, SV.val (KT.int IntKind.i64) (D.int v11))] []
noncomputable def L69a (v9 : List D) (v10 : Int) (v11 : Int) : R := LOOP E (RUN E) 69 Tryd.f69 [1, 1, 0, 1, 0] (h69a v9 v10 v11)
theorem enter69 (s0 : List UInt8) : RUN E 69 [D.str s0] =
 cond (decide (200 < (↑(List.length s0) : Int)))
 (some [D.bool false])
 (opt (RUN E 35 [D.str s0, D.str (([47] : List UInt8))]) fun ρ1 =>
 L69a (D.toList (List.getD ρ1 0 D.no)) ((↑(List.length (D.toList (List.getD ρ1 0 D.no))) : Int)) 0) := (RUN_eq _ _ _).trans (by kernel_rfl)
theorem round69a (v9 : List D) (v10 : Int) (v11 : Int) : L69a v9 v10 v11 =
 cond (decide (v11 < v10))
 (cond (inb v11 (List.length v9))
 (opt (RUN E 100 [D.str (D.toStr (List.getD v9 (Int.toNat v11) D.no))]) fun ρ2 =>
 cond (bif D.toBool (List.getD ρ2 0 D.no) then false else true)
 (some [D.bool false])
 (L69a v9 v10 (IntKind.wrap IntKind.i64 (v11 + 1))))
 (none))
 (some [D.bool true]) := (LOOP_eq _ _ _ _ _ _).trans (by kernel_rfl)
/-! strings.HasSuffix -/
theorem enter27 (s0 : List UInt8) (suffix1 : List UInt8) : RUN E 27 [D.str s0, D.str suffix1] =
 opt (RUN E 62 [D.str s0, D.str suffix1]) fun ρ0 =>
 some [D.bool (D.toBool (List.getD ρ0 0 D.no))] := (RUN_eq _ _ _).trans (by kernel_rfl)
/-! strings.TrimSuffix -/
theorem enter70 (s0 : List UInt8) (suffix1 : List UInt8) : RUN E 70 [D.str s0, D.str suffix1] =
 opt (RUN E 101 [D.str s0, D.str suffix1]) fun ρ0 =>
 some [D.str (D.toStr (List.getD ρ0 0 D.no))] := (RUN_eq _ _ _).trans (by kernel_rfl)
/-! strings.Split -/
theorem enter35 (s0 : List UInt8) (sep1 : List UInt8) : RUN E 35 [D.str s0, D.str sep1] =
 opt (RUN E 67 [D.str s0, D.str sep1, D.int 0, D.int (-1)]) fun ρ0 =>
 some [D.list (D.toList (List.getD ρ0 0 D.no))] := (RUN_eq _ _ _).trans (by kernel_rfl)
/-! masthead/mastref1.pathPart -/
def h72a (s0 : List UInt8) (i3 : Int) : St := mkSt 43 [(0, SV.val KT.str (D.str s0)), (3, SV.val (KT.int IntKind.i64) (D.int i3))] []
noncomputable def L72a (s0 : List UInt8) (i3 : Int) : R := LOOP E (RUN E) 72 Tryd.f72 [1, 1, 0, 1, 0] (h72a s0 i3)
theorem enter72 (s0 : List UInt8) : RUN E 72 [D.str s0] =
 cond (bif bif bif decide ((↑(List.length s0) : Int) < 1) then true else decide (40 < (↑(List.length s0) : Int)) then true else decide (s0 = ([46] : List UInt8)) then true else decide (s0 = ([46, 46] : List UInt8)))
 (some [D.bool false])
 (L72a s0 0) := (RUN_eq _ _ _).trans (by kernel_rfl)
theorem round72a (s0 : List UInt8) (i3 : Int) : L72a s0 i3 =
 cond (decide (i3 < (↑(List.length s0) : Int)))
 (cond (inb i3 (List.length s0))
 (opt (RUN E 104 [D.int (↑(UInt8.toNat (List.getD s0 (Int.toNat i3) 0)) : Int)]) fun ρ2 =>
 cond (bif inb i3 (List.length s0) then true else bif bif D.toBool (List.getD ρ2 0 D.no) then false else true then false else true)
 (cond (bif inb i3 (List.length s0) then true else bif bif bif D.toBool (List.getD ρ2 0 D.no) then true else decide ((↑(UInt8.toNat (List.getD s0 (Int.toNat i3) 0)) : Int) = 45) then false else true then false else true)
 (cond (bif bif bif D.toBool (List.getD ρ2 0 D.no) then true else decide ((↑(UInt8.toNat (List.getD s0 (Int.toNat i3) 0)) : Int) = 45) then true else decide ((↑(UInt8.toNat (List.getD s0 (Int.toNat i3) 0)) : Int) = 46) then false else true)
 (some [D.bool false])
 (L72a s0 (IntKind.wrap IntKind.i64 (i3 + 1))))
 (none))
 (none))
 (none))
 (some [D.bool true]) := (LOOP_eq _ _ _ _ _ _).trans (by kernel_rfl)
/-! internal/stringslite.HasPrefix -/
theorem enter64 (s0 : List UInt8) (prefix1 : List UInt8) : RUN E 64 [D.str s0, D.str prefix1] =
 cond (bif cutOk (List.length s0) none (some (↑(List.length prefix1) : Int)) then true else bif bif decide ((↑(List.length prefix1) : Int) ≤ (↑(List.length s0) : Int)) then true else false then false else true)
 (some [D.bool (bif decide ((↑(List.length prefix1) : Int) ≤ (↑(List.length s0) : Int)) then decide (cutL s0 none (some (↑(List.length prefix1) : Int)) = prefix1) else false)])
 (none) := (RUN_eq _ _ _).trans (by kernel_rfl)
/-! masthead/mastref1.outAt -/
def h73a (path1 : List UInt8) (v7 : List D) (v8 : Int) (v9 : Int) : St := mkSt 20 [(1, SV.val KT.str (D.str path1)), (7, SV.val (KT.slice 75) (D.list v7)), (8, SV.val (KT.int IntKind.i64) (D.int v8)), (9, SV.val (KT.int IntKind.i64) (D.int v9))] []
noncomputable def L73a (path1 : List UInt8) (v7 : List D) (v8 : Int) (v9 : Int) : R := LOOP E (RUN E) 73 Tryd.f73 [1, 0, 1, 0] (h73a path1 v7 v8 v9)
theorem enter73 (l0 : List D) (path1 : List UInt8) : RUN E 73 [D.list l0, D.str path1] =
 L73a path1 l0 ((↑(List.length l0) : Int)) 0 := (RUN_eq _ _ _).trans (by kernel_rfl)
theorem round73a (path1 : List UInt8) (v7 : List D) (v8 : Int) (v9 : Int) : L73a path1 v7 v8 v9 =
 cond (decide (v9 < v8))
 (cond (inb v9 (List.length v7))
 (cond (decide (D.toStr (D.cell (List.getD v7 (Int.toNat v9) D.no) 0) = path1))
 (some [D.int v9])
 (L73a path1 v7 v8 (IntKind.wrap IntKind.i64 (v9 + 1))))
 (none))
 (some [D.int (-1)]) := (LOOP_eq _ _ _ _ _ _).trans (by kernel_rfl)
/-! masthead/ship.isPart -/
def h100a (s0 : List UInt8) (i3 : Int) : St := mkSt 53 [(0, SV.val KT.str (D.str s0)), (3, SV.val (KT.int IntKind.i64) (D.int i3))] []
noncomputable def L100a (s0 : List UInt8) (i3 : Int) : R := LOOP E (RUN E) 100 Tryd.f100 [1, 1, 0, 1, 0] (h100a s0 i3)
theorem enter100 (s0 : List UInt8) : RUN E 100 [D.str s0] =
 cond (bif bif bif decide (s0 = ([] : List UInt8)) then true else decide (40 < (↑(List.length s0) : Int)) then true else decide (s0 = ([46] : List UInt8)) then true else decide (s0 = ([46, 46] : List UInt8)))
 (some [D.bool false])
 (L100a s0 0) := (RUN_eq _ _ _).trans (by kernel_rfl)
theorem round100a (s0 : List UInt8) (i3 : Int) : L100a s0 i3 =
 cond (decide (i3 < (↑(List.length s0) : Int)))
 (cond (inb i3 (List.length s0))
 (opt (cond (bif bif bif decide (97 ≤ (↑(UInt8.toNat (List.getD s0 (Int.toNat i3) 0)) : Int)) then decide ((↑(UInt8.toNat (List.getD s0 (Int.toNat i3) 0)) : Int) ≤ 122) else false then false else true then true else false)
 (RUN E 90 [D.int (↑(UInt8.toNat (List.getD s0 (Int.toNat i3) 0)) : Int)])
 (some [])) fun ρ2 =>
 cond (bif bif bif bif bif bif decide (97 ≤ (↑(UInt8.toNat (List.getD s0 (Int.toNat i3) 0)) : Int)) then decide ((↑(UInt8.toNat (List.getD s0 (Int.toNat i3) 0)) : Int) ≤ 122) else false then false else true then bif D.toBool (List.getD ρ2 0 D.no) then false else true else false then bif decide ((↑(UInt8.toNat (List.getD s0 (Int.toNat i3) 0)) : Int) = 45) then false else true else false then bif decide ((↑(UInt8.toNat (List.getD s0 (Int.toNat i3) 0)) : Int) = 95) then false else true else false then bif decide ((↑(UInt8.toNat (List.getD s0 (Int.toNat i3) 0)) : Int) = 46) then false else true else false)
 (some [D.bool false])
 (L100a s0 (IntKind.wrap IntKind.i64 (i3 + 1))))
 (none))
 (some [D.bool true]) := (LOOP_eq _ _ _ _ _ _).trans (by kernel_rfl)
/-! internal/stringslite.HasSuffix -/
theorem enter62 (s0 : List UInt8) (suffix1 : List UInt8) : RUN E 62 [D.str s0, D.str suffix1] =
 cond (bif cutOk (List.length s0) (some (IntKind.wrap IntKind.i64 ((↑(List.length s0) : Int) - (↑(List.length suffix1) : Int)))) none then true else bif bif decide ((↑(List.length suffix1) : Int) ≤ (↑(List.length s0) : Int)) then true else false then false else true)
 (some [D.bool (bif decide ((↑(List.length suffix1) : Int) ≤ (↑(List.length s0) : Int)) then decide (cutL s0 (some (IntKind.wrap IntKind.i64 ((↑(List.length s0) : Int) - (↑(List.length suffix1) : Int)))) none = suffix1) else false)])
 (none) := (RUN_eq _ _ _).trans (by kernel_rfl)
/-! internal/stringslite.TrimSuffix -/
theorem enter101 (s0 : List UInt8) (suffix1 : List UInt8) : RUN E 101 [D.str s0, D.str suffix1] =
 opt (RUN E 62 [D.str s0, D.str suffix1]) fun ρ0 =>
 cond (D.toBool (List.getD ρ0 0 D.no))
 (cond (cutOk (List.length s0) none (some (IntKind.wrap IntKind.i64 ((↑(List.length s0) : Int) - (↑(List.length suffix1) : Int)))))
 (some [D.str (cutL s0 none (some (IntKind.wrap IntKind.i64 ((↑(List.length s0) : Int) - (↑(List.length suffix1) : Int)))))])
 (none))
 (some [D.str s0]) := (RUN_eq _ _ _).trans (by kernel_rfl)
/-! strings.genSplit -/
def h67a (s0 : List UInt8) (sep1 : List UInt8) (sepSave2 : Int) (n3 : Int) : St := mkSt 66 [(0, SV.val KT.str (D.str s0)), (1, SV.val KT.str (D.str sep1)), (2, SV.val (KT.int IntKind.i64) (D.int sepSave2)), (3, SV.val (KT.int IntKind.i64) (D.int n3))] []
noncomputable def C67a (s0 : List UInt8) (sep1 : List UInt8) (sepSave2 : Int) (n3 : Int) : R := PART E (RUN E) 67 Tryd.f67 [1, 1, 1, 1] (h67a s0 sep1 sepSave2 n3)
def h67b (s0 : List UInt8) (sep1 : List UInt8) (sepSave2 : Int) (n3 : Int) (i10 : Int) (a9s : List D) : St := mkSt 66 [(0, SV.val KT.str (D.str s0)), (1, SV.val KT.str (D.str sep1)), (2, SV.val (KT.int IntKind.i64) (D.int sepSave2)), (3, SV.val (KT.int IntKind.i64) (D.int n3)), (9, SV.own 9), (10, SV.val (KT.int IntKind.i64) (D.int i10))] [(9, Obj.arr 9 a9s)]
noncomputable def L67b (s0 : List UInt8) (sep1 : List UInt8) (sepSave2 : Int) (n3 : Int) (i10 : Int) (a9s : List D) : R := LOOP E (RUN E) 67 Tryd.f67 [1, 1, 1, 1, 1, 1, 1, 1, 0, 0] (h67b s0 sep1 sepSave2 n3 i10 a9s)
theorem enter67 (s0 : List UInt8) (sep1 : List UInt8) (sepSave2 : Int) (n3 : Int) : RUN E 67 [D.str s0, D.str sep1, D.int sepSave2, D.int n3] =
 cond (decide (n3 = 0))
 (some [D.list []])
 (cond (decide (sep1 = ([] : List UInt8)))
 (opt (RUN E 96 [D.str s0, D.int n3]) fun ρ2 =>
 some [D.list (D.toList (List.getD ρ2 0 D.no))])
 (cond (decide (n3 < 0))
 (opt (RUN E 97 [D.str s0, D.str sep1]) fun ρ3 =>
 C67a s0 sep1 sepSave2 (IntKind.wrap IntKind.i64 (D.toInt (List.getD ρ3 0 D.no) + 1)))
 (C67a s0 sep1 sepSave2 n3))) := (RUN_eq _ _ _).trans (by kernel_rfl)
theorem round67a (s0 : List UInt8) (sep1 : List UInt8) (sepSave2 : Int) (n3 : Int) : C67a s0 sep1 sepSave2 n3 =
 cond (bif decide (0 ≤ mmInt false n3 (IntKind.wrap IntKind.i64 ((↑(List.length s0) : Int) + 1))) then bif decide (mmInt false n3 (IntKind.wrap IntKind.i64 ((↑(List.length s0) : Int) + 1)) ≤ mmInt false n3 (IntKind.wrap IntKind.i64 ((↑(List.length s0) : Int) + 1))) then (fun (_ : Unit) => decide (mmInt false n3 (IntKind.wrap IntKind.i64 ((↑(List.length s0) : Int) + 1)) ≤ (↑lim : Int))) () else false else false)
 (L67b s0 sep1 sepSave2 (IntKind.wrap IntKind.i64 (mmInt false n3 (IntKind.wrap IntKind.i64 ((↑(List.length s0) : Int) + 1)) - 1)) 0 (List.replicate (Int.toNat (mmInt false n3 (IntKind.wrap IntKind.i64 ((↑(List.length s0) : Int) + 1)))) (D.str [])))
 (none) := (PART_eq _ _ _ _ _ _).trans (by kernel_rfl)
theorem round67b (s0 : List UInt8) (sep1 : List UInt8) (sepSave2 : Int) (n3 : Int) (i10 : Int) (a9s : List D) : L67b s0 sep1 sepSave2 n3 i10 a9s =
 cond (decide (i10 < n3))
 (opt (RUN E 98 [D.str s0, D.str sep1]) fun ρ1 =>
 cond (decide (D.toInt (List.getD ρ1 0 D.no) < 0))
 (cond (inb i10 (List.length a9s))
 (cond (cutOk (List.length (List.set a9s (Int.toNat i10) (D.str s0))) none (some (IntKind.wrap IntKind.i64 (i10 + 1))))
 (some [D.list (cutL (List.set a9s (Int.toNat i10) (D.str s0)) none (some (IntKind.wrap IntKind.i64 (i10 + 1))))])
 (none))
 (none))
 (cond (cutOk (List.length s0) none (some (IntKind.wrap IntKind.i64 (D.toInt (List.getD ρ1 0 D.no) + sepSave2))))
 (cond (inb i10 (List.length a9s))
 (cond (cutOk (List.length s0) (some (IntKind.wrap IntKind.i64 (D.toInt (List.getD ρ1 0 D.no) + (↑(List.length sep1) : Int)))) none)
 (L67b (cutL s0 (some (IntKind.wrap IntKind.i64 (D.toInt (List.getD ρ1 0 D.no) + (↑(List.length sep1) : Int)))) none) sep1 sepSave2 n3 (IntKind.wrap IntKind.i64 (i10 + 1)) (List.set a9s (Int.toNat i10) (D.str (cutL s0 none (some (IntKind.wrap IntKind.i64 (D.toInt (List.getD ρ1 0 D.no) + sepSave2)))))))
 (none))
 (none))
 (none)))
 (cond (inb i10 (List.length a9s))
 (cond (cutOk (List.length (List.set a9s (Int.toNat i10) (D.str s0))) none (some (IntKind.wrap IntKind.i64 (i10 + 1))))
 (some [D.list (cutL (List.set a9s (Int.toNat i10) (D.str s0)) none (some (IntKind.wrap IntKind.i64 (i10 + 1))))])
 (none))
 (none)) := (LOOP_eq _ _ _ _ _ _).trans (by kernel_rfl)
/-! masthead/mastref1.wordByte -/
theorem enter104 (c0 : Int) : RUN E 104 [D.int c0] =
 opt (cond (bif bif decide (97 ≤ c0) then decide (c0 ≤ 122) else false then false else true)
 (RUN E 58 [D.int c0])
 (some [])) fun ρ0 =>
 some [D.bool (bif bif bif decide (97 ≤ c0) then decide (c0 ≤ 122) else false then true else D.toBool (List.getD ρ0 0 D.no) then true else decide (c0 = 95))] := (RUN_eq _ _ _).trans (by kernel_rfl)
/-! masthead/ship.isDigit -/
theorem enter90 (c0 : Int) : RUN E 90 [D.int c0] =
 some [D.bool (bif decide (48 ≤ c0) then decide (c0 ≤ 57) else false)] := (RUN_eq _ _ _).trans (by kernel_rfl)
/-! masthead/mastref1.isDigit -/
theorem enter58 (c0 : Int) : RUN E 58 [D.int c0] =
 some [D.bool (bif decide (48 ≤ c0) then decide (c0 ≤ 57) else false)] := (RUN_eq _ _ _).trans (by kernel_rfl)
end Go.Proofs.YtefclcihphpejaaDoor.ev
