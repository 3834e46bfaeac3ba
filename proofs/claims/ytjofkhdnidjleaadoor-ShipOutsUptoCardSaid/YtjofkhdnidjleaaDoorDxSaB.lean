import Derived.Test.YtjofkhdnidjleaaDoorDxSaA
set_option linter.unusedVariables false
set_option linter.unusedSimpArgs false
namespace Go.Proofs.YtjofkhdnidjleaaDoor.sa
open Go.Proofs.YtjofkhdnidjleaaDoor.DS

/-! masthead/mastlaw1.ShipOuts -/
theorem enter4 (l0 : List D) : RUN E 4 [D.list l0] =
    opt (RUN E 11 [D.list l0]) fun r0 =>
  opt (RUN E 12 [D.list l0]) fun r1 =>
    some [D.bool (decide (D.toInt (List.getD r0 0 D.no) = D.toInt (List.getD r1 0 D.no)))] := (RUN_eq _ _ _).trans (by kernel_rfl)
/-! masthead/mastlaw1.ShipAddresses -/
theorem enter5 (path0 : List UInt8) (address1 : List UInt8) : RUN E 5 [D.str path0, D.str address1] =
    opt (RUN E 13 [D.str path0]) fun r0 =>
  opt (RUN E 14 [D.str address1]) fun r1 =>
    opt (RUN E 15 [D.str path0]) fun r2 =>
      opt (RUN E 16 [D.str address1]) fun r3 =>
        some [D.bool (bif bif bif decide (D.toStr (List.getD r0 0 D.no) = D.toStr (List.getD r2 0 D.no)) then decide (D.toStr (List.getD r1 0 D.no) = D.toStr (List.getD r3 0 D.no)) else false then decide (D.toInt (List.getD r0 1 D.no) = D.toInt (List.getD r2 1 D.no)) else false then decide (D.toInt (List.getD r1 1 D.no) = D.toInt (List.getD r3 1 D.no)) else false)] := (RUN_eq _ _ _).trans (by kernel_rfl)
/-! masthead/ship.CheckOuts -/
def h11a (l0 : List D) (v10 : List D) (v11 : Int) (v12 : Int) : St := mkSt 57 [(0, SV.val (KT.slice 53) (D.list l0)), (10, SV.val (KT.slice 53) (D.list v10)), (11, SV.val (KT.int IntKind.i64) (D.int v11)), (12, SV.val (KT.int IntKind.i64) (D.int v12))] []
noncomputable def L11a (l0 : List D) (v10 : List D) (v11 : Int) (v12 : Int) : R := LOOP E (RUN E) 11 Tryd.f11 [1, 1, 0, 1, 0] (h11a l0 v10 v11 v12)
def h11b (l0 : List D) (v10 : List D) (v11 : Int) (v12 : Int) (v39 : List D) (v40 : Int) (v41 : Int) (o4 : D) : St := mkSt 57 [(0, SV.val (KT.slice 53) (D.list l0)), (4, SV.bptr 4 53 0 (KT.agg 53)), (10, SV.val (KT.slice 53) (D.list v10)), (11, SV.val (KT.int IntKind.i64) (D.int v11)), (12, SV.val (KT.int IntKind.i64) (D.int v12)), (39, SV.val (KT.slice 53) (D.list v39)), (40, SV.val (KT.int IntKind.i64) (D.int v40)), (41, SV.val (KT.int IntKind.i64) (D.int v41))] [(4, Obj.box 53 (BC.whole o4))]
noncomputable def L11b (l0 : List D) (v10 : List D) (v11 : Int) (v12 : Int) (v39 : List D) (v40 : Int) (v41 : Int) (o4 : D) : R := LOOP E (RUN E) 11 Tryd.f11 [1, 1, 0, 1, 0, 0, 1, 1, 0, 0, 1, 1, 0, 1, 0] (h11b l0 v10 v11 v12 v39 v40 v41 o4)
theorem enter11 (l0 : List D) : RUN E 11 [D.list l0] =
    cond (decide (480 < (↑(List.length l0) : Int)))
  (some [D.int 4])
  (L11a l0 l0 ((↑(List.length l0) : Int)) 0) := (RUN_eq _ _ _).trans (by kernel_rfl)
theorem round11a (l0 : List D) (v10 : List D) (v11 : Int) (v12 : Int) : L11a l0 v10 v11 v12 =
    cond (decide (v12 < v11))
  (cond (inb v12 (List.length v10))
    (opt (RUN E 27 [D.str (D.toStr (D.cell (List.getD v10 (Int.toNat v12) D.no) 0))]) fun r2 =>
      cond (bif D.toBool (List.getD r2 0 D.no) then false else true)
        (some [D.int 3])
        (cond (bif inb (IntKind.wrap IntKind.i64 (v12 - 1)) (List.length l0) then true else bif bif decide (0 < v12) then true else false then false else true)
          (cond (bif decide (0 < v12) then bif Op.bytesLess (D.toStr (D.cell (List.getD v10 (Int.toNat v12) D.no) 0)) (D.toStr (D.cell (List.getD l0 (Int.toNat (IntKind.wrap IntKind.i64 (v12 - 1))) D.no) 0)) then true else (fun (_ : Unit) => decide (D.toStr (D.cell (List.getD v10 (Int.toNat v12) D.no) 0) = D.toStr (D.cell (List.getD l0 (Int.toNat (IntKind.wrap IntKind.i64 (v12 - 1))) D.no) 0))) () else false)
            (some [D.int 5])
            (cond (cutOk (List.length l0) (some (IntKind.wrap IntKind.i64 (v12 + 1))) none)
              (L11b l0 v10 v11 v12 (cutL l0 (some (IntKind.wrap IntKind.i64 (v12 + 1))) none) ((↑(List.length (cutL l0 (some (IntKind.wrap IntKind.i64 (v12 + 1))) none)) : Int)) 0 (List.getD v10 (Int.toNat v12) D.no))
              (none)))
          (none)))
    (none))
  (some [D.int 0]) := (LOOP_eq _ _ _ _ _ _).trans (by kernel_rfl)
theorem round11b (l0 : List D) (v10 : List D) (v11 : Int) (v12 : Int) (v39 : List D) (v40 : Int) (v41 : Int) (o4 : D) : L11b l0 v10 v11 v12 v39 v40 v41 o4 =
    cond (decide (v41 < v40))
  (cond (inb v41 (List.length v39))
    (cond (decide (List.length (D.toStr (D.cell o4 0)) + List.length (Array.toList (ByteArray.data { data := #[47] })) ≤ lim))
      (opt (RUN E 28 [D.str (D.toStr (D.cell (List.getD v39 (Int.toNat v41) D.no) 0)), D.str (D.toStr (D.cell o4 0) ++ Array.toList (ByteArray.data { data := #[47] }))]) fun r3 =>
        cond (D.toBool (List.getD r3 0 D.no))
          (some [D.int 6])
          (L11b l0 v10 v11 v12 v39 v40 (IntKind.wrap IntKind.i64 (v41 + 1)) o4))
      (none))
    (none))
  (cond (decide (200000 < (↑(List.length (D.toStr (D.cell o4 1))) : Int)))
    (some [D.int 4])
    (L11a l0 v10 v11 (IntKind.wrap IntKind.i64 (v12 + 1)))) := (LOOP_eq _ _ _ _ _ _).trans (by kernel_rfl)
/-! masthead/mastref1.OutsError -/
def h12a (l0 : List D) (v10 : List D) (v11 : Int) (v12 : Int) : St := mkSt 55 [(0, SV.val (KT.slice 53) (D.list l0)), (10, SV.val (KT.slice 53) (D.list v10)), (11, SV.val (KT.int IntKind.i64) (D.int v11)), (12, SV.val (KT.int IntKind.i64) (D.int v12))] []
noncomputable def L12a (l0 : List D) (v10 : List D) (v11 : Int) (v12 : Int) : R := LOOP E (RUN E) 12 Tryd.f12 [1, 1, 0, 1, 0] (h12a l0 v10 v11 v12)
def h12b (l0 : List D) (v10 : List D) (v11 : Int) (v12 : Int) (v37 : List D) (v38 : Int) (v39 : Int) (x4 : D) : St := mkSt 55 [(0, SV.val (KT.slice 53) (D.list l0)), (4, SV.bptr 4 53 0 (KT.agg 53)), (10, SV.val (KT.slice 53) (D.list v10)), (11, SV.val (KT.int IntKind.i64) (D.int v11)), (12, SV.val (KT.int IntKind.i64) (D.int v12)), (37, SV.val (KT.slice 53) (D.list v37)), (38, SV.val (KT.int IntKind.i64) (D.int v38)), (39, SV.val (KT.int IntKind.i64) (D.int v39))] [(4, Obj.box 53 (BC.whole x4))]
noncomputable def L12b (l0 : List D) (v10 : List D) (v11 : Int) (v12 : Int) (v37 : List D) (v38 : Int) (v39 : Int) (x4 : D) : R := LOOP E (RUN E) 12 Tryd.f12 [1, 1, 0, 1, 0, 0, 1, 1, 0, 0, 1, 1, 1, 0, 1, 0] (h12b l0 v10 v11 v12 v37 v38 v39 x4)
theorem enter12 (l0 : List D) : RUN E 12 [D.list l0] =
    cond (decide (480 < (↑(List.length l0) : Int)))
  (some [D.int 4])
  (L12a l0 l0 ((↑(List.length l0) : Int)) 0) := (RUN_eq _ _ _).trans (by kernel_rfl)
theorem round12a (l0 : List D) (v10 : List D) (v11 : Int) (v12 : Int) : L12a l0 v10 v11 v12 =
    cond (decide (v12 < v11))
  (cond (inb v12 (List.length v10))
    (opt (RUN E 29 [D.str (D.toStr (D.cell (List.getD v10 (Int.toNat v12) D.no) 0))]) fun r2 =>
      cond (bif D.toBool (List.getD r2 0 D.no) then false else true)
        (some [D.int 3])
        (cond (bif inb (IntKind.wrap IntKind.i64 (v12 - 1)) (List.length l0) then true else bif bif decide (0 < v12) then true else false then false else true)
          (cond (bif decide (0 < v12) then bif Op.bytesLess (D.toStr (D.cell (List.getD v10 (Int.toNat v12) D.no) 0)) (D.toStr (D.cell (List.getD l0 (Int.toNat (IntKind.wrap IntKind.i64 (v12 - 1))) D.no) 0)) then true else (fun (_ : Unit) => decide (D.toStr (D.cell (List.getD v10 (Int.toNat v12) D.no) 0) = D.toStr (D.cell (List.getD l0 (Int.toNat (IntKind.wrap IntKind.i64 (v12 - 1))) D.no) 0))) () else false)
            (some [D.int 5])
            (cond (cutOk (List.length l0) (some (IntKind.wrap IntKind.i64 (v12 + 1))) none)
              (L12b l0 v10 v11 v12 (cutL l0 (some (IntKind.wrap IntKind.i64 (v12 + 1))) none) ((↑(List.length (cutL l0 (some (IntKind.wrap IntKind.i64 (v12 + 1))) none)) : Int)) 0 (List.getD v10 (Int.toNat v12) D.no))
              (none)))
          (none)))
    (none))
  (some [D.int 0]) := (LOOP_eq _ _ _ _ _ _).trans (by kernel_rfl)
theorem round12b (l0 : List D) (v10 : List D) (v11 : Int) (v12 : Int) (v37 : List D) (v38 : Int) (v39 : Int) (x4 : D) : L12b l0 v10 v11 v12 v37 v38 v39 x4 =
    cond (decide (v39 < v38))
  (cond (inb v39 (List.length v37))
    (cond (decide (List.length (D.toStr (D.cell x4 0)) + List.length (Array.toList (ByteArray.data { data := #[47] })) ≤ lim))
      (opt (RUN E 28 [D.str (D.toStr (D.cell (List.getD v37 (Int.toNat v39) D.no) 0)), D.str (D.toStr (D.cell x4 0) ++ Array.toList (ByteArray.data { data := #[47] }))]) fun r3 =>
        cond (D.toBool (List.getD r3 0 D.no))
          (some [D.int 6])
          (L12b l0 v10 v11 v12 v37 v38 (IntKind.wrap IntKind.i64 (v39 + 1)) x4))
      (none))
    (none))
  (cond (decide (200000 < (↑(List.length (D.toStr (D.cell x4 1))) : Int)))
    (some [D.int 4])
    (L12a l0 v10 v11 (IntKind.wrap IntKind.i64 (v12 + 1)))) := (LOOP_eq _ _ _ _ _ _).trans (by kernel_rfl)
/-! masthead/ship.Address -/
theorem enter13 (path0 : List UInt8) : RUN E 13 [D.str path0] =
    opt (RUN E 27 [D.str path0]) fun r0 =>
  cond (bif D.toBool (List.getD r0 0 D.no) then false else true)
    (some [D.str (Array.toList (ByteArray.data { data := #[] })), D.int 3])
    (cond (decide (List.length (Array.toList (ByteArray.data { data := #[47] })) + List.length path0 ≤ lim))
      (opt (RUN E 30 [D.str (Array.toList (ByteArray.data { data := #[47] }) ++ path0), D.str (Array.toList (ByteArray.data { data := #[47, 105, 110, 100, 101, 120, 46, 104, 116, 109, 108] }))]) fun r3 =>
        cond (D.toBool (List.getD r3 0 D.no))
          (opt (RUN E 31 [D.str (Array.toList (ByteArray.data { data := #[47] }) ++ path0), D.str (Array.toList (ByteArray.data { data := #[105, 110, 100, 101, 120, 46, 104, 116, 109, 108] }))]) fun r5 =>
            some [D.str (D.toStr (List.getD r5 0 D.no)), D.int 0])
          (some [D.str (Array.toList (ByteArray.data { data := #[47] }) ++ path0), D.int 0]))
      (none)) := (RUN_eq _ _ _).trans (by kernel_rfl)
/-! masthead/ship.Path -/
theorem enter14 (address0 : List UInt8) : RUN E 14 [D.str address0] =
    opt (RUN E 28 [D.str address0, D.str (Array.toList (ByteArray.data { data := #[47] }))]) fun r0 =>
  cond (bif D.toBool (List.getD r0 0 D.no) then false else true)
    (some [D.str (Array.toList (ByteArray.data { data := #[] })), D.int 3])
    (cond (cutOk (List.length address0) (some 1) none)
      (opt (cond (bif decide (cutL address0 (some 1) none = Array.toList (ByteArray.data { data := #[] })) then false else true)
          (RUN E 30 [D.str (cutL address0 (some 1) none), D.str (Array.toList (ByteArray.data { data := #[47] }))])
          (some [])) fun r3 =>
        cond (bif decide (cutL address0 (some 1) none = Array.toList (ByteArray.data { data := #[] })) then true else D.toBool (List.getD r3 0 D.no))
          (cond (decide (List.length (cutL address0 (some 1) none) + List.length (Array.toList (ByteArray.data { data := #[105, 110, 100, 101, 120, 46, 104, 116, 109, 108] })) ≤ lim))
            (opt (RUN E 27 [D.str (cutL address0 (some 1) none ++ Array.toList (ByteArray.data { data := #[105, 110, 100, 101, 120, 46, 104, 116, 109, 108] }))]) fun r6 =>
              cond (bif D.toBool (List.getD r6 0 D.no) then false else true)
                (some [D.str (Array.toList (ByteArray.data { data := #[] })), D.int 3])
                (some [D.str (cutL address0 (some 1) none ++ Array.toList (ByteArray.data { data := #[105, 110, 100, 101, 120, 46, 104, 116, 109, 108] })), D.int 0]))
            (none))
          (opt (RUN E 27 [D.str (cutL address0 (some 1) none)]) fun r5 =>
            cond (bif D.toBool (List.getD r5 0 D.no) then false else true)
              (some [D.str (Array.toList (ByteArray.data { data := #[] })), D.int 3])
              (some [D.str (cutL address0 (some 1) none), D.int 0])))
      (none)) := (RUN_eq _ _ _).trans (by kernel_rfl)
/-! masthead/mastref1.AddressOf -/
theorem enter15 (path0 : List UInt8) : RUN E 15 [D.str path0] =
    opt (RUN E 29 [D.str path0]) fun r0 =>
  cond (bif D.toBool (List.getD r0 0 D.no) then false else true)
    (some [D.str (Array.toList (ByteArray.data { data := #[] })), D.int 3])
    (cond (decide (path0 = Array.toList (ByteArray.data { data := #[105, 110, 100, 101, 120, 46, 104, 116, 109, 108] })))
      (some [D.str (Array.toList (ByteArray.data { data := #[47] })), D.int 0])
      (opt (RUN E 30 [D.str path0, D.str (Array.toList (ByteArray.data { data := #[47, 105, 110, 100, 101, 120, 46, 104, 116, 109, 108] }))]) fun r3 =>
        cond (D.toBool (List.getD r3 0 D.no))
          (cond (cutOk (List.length path0) none (some (IntKind.wrap IntKind.i64 ((↑(List.length path0) : Int) - 10))))
            (cond (decide (List.length (Array.toList (ByteArray.data { data := #[47] })) + List.length (cutL path0 none (some (IntKind.wrap IntKind.i64 ((↑(List.length path0) : Int) - 10)))) ≤ lim))
              (some [D.str (Array.toList (ByteArray.data { data := #[47] }) ++ cutL path0 none (some (IntKind.wrap IntKind.i64 ((↑(List.length path0) : Int) - 10)))), D.int 0])
              (none))
            (none))
          (cond (decide (List.length (Array.toList (ByteArray.data { data := #[47] })) + List.length path0 ≤ lim))
            (some [D.str (Array.toList (ByteArray.data { data := #[47] }) ++ path0), D.int 0])
            (none)))) := (RUN_eq _ _ _).trans (by kernel_rfl)
/-! masthead/mastref1.PathOf -/
theorem enter16 (address0 : List UInt8) : RUN E 16 [D.str address0] =
    opt (RUN E 28 [D.str address0, D.str (Array.toList (ByteArray.data { data := #[47] }))]) fun r0 =>
  cond (bif D.toBool (List.getD r0 0 D.no) then false else true)
    (some [D.str (Array.toList (ByteArray.data { data := #[] })), D.int 3])
    (cond (cutOk (List.length address0) (some 1) none)
      (opt (RUN E 30 [D.str address0, D.str (Array.toList (ByteArray.data { data := #[47] }))]) fun r3 =>
        cond (D.toBool (List.getD r3 0 D.no))
          (cond (decide (List.length (cutL address0 (some 1) none) + List.length (Array.toList (ByteArray.data { data := #[105, 110, 100, 101, 120, 46, 104, 116, 109, 108] })) ≤ lim))
            (opt (RUN E 29 [D.str (cutL address0 (some 1) none ++ Array.toList (ByteArray.data { data := #[105, 110, 100, 101, 120, 46, 104, 116, 109, 108] }))]) fun r6 =>
              cond (bif D.toBool (List.getD r6 0 D.no) then false else true)
                (some [D.str (Array.toList (ByteArray.data { data := #[] })), D.int 3])
                (some [D.str (cutL address0 (some 1) none ++ Array.toList (ByteArray.data { data := #[105, 110, 100, 101, 120, 46, 104, 116, 109, 108] })), D.int 0]))
            (none))
          (opt (RUN E 29 [D.str (cutL address0 (some 1) none)]) fun r5 =>
            cond (bif D.toBool (List.getD r5 0 D.no) then false else true)
              (some [D.str (Array.toList (ByteArray.data { data := #[] })), D.int 3])
              (some [D.str (cutL address0 (some 1) none), D.int 0])))
      (none)) := (RUN_eq _ _ _).trans (by kernel_rfl)
/-! masthead/ship.isPath -/
def h27a (v9 : List D) (v10 : Int) (v11 : Int) : St := mkSt 19 [(9, SV.val (KT.slice 9) (D.list v9)), (10, SV.val (KT.int IntKind.i64) (D.int v10)), (11, SV.val (KT.int IntKind.i64) (D.int v11))] []
noncomputable def L27a (v9 : List D) (v10 : Int) (v11 : Int) : R := LOOP E (RUN E) 27 Tryd.f27 [1, 1, 0, 1, 0] (h27a v9 v10 v11)
theorem enter27 (s0 : List UInt8) : RUN E 27 [D.str s0] =
    cond (decide (200 < (↑(List.length s0) : Int)))
  (some [D.bool false])
  (opt (RUN E 39 [D.str s0, D.str (Array.toList (ByteArray.data { data := #[47] }))]) fun r1 =>
    L27a (D.toList (List.getD r1 0 D.no)) ((↑(List.length (D.toList (List.getD r1 0 D.no))) : Int)) 0) := (RUN_eq _ _ _).trans (by kernel_rfl)
theorem round27a (v9 : List D) (v10 : Int) (v11 : Int) : L27a v9 v10 v11 =
    cond (decide (v11 < v10))
  (cond (inb v11 (List.length v9))
    (opt (RUN E 40 [D.str (D.toStr (List.getD v9 (Int.toNat v11) D.no))]) fun r2 =>
      cond (bif D.toBool (List.getD r2 0 D.no) then false else true)
        (some [D.bool false])
        (L27a v9 v10 (IntKind.wrap IntKind.i64 (v11 + 1))))
    (none))
  (some [D.bool true]) := (LOOP_eq _ _ _ _ _ _).trans (by kernel_rfl)
/-! strings.HasPrefix -/
theorem enter28 (s0 : List UInt8) (prefix1 : List UInt8) : RUN E 28 [D.str s0, D.str prefix1] =
    opt (RUN E 41 [D.str s0, D.str prefix1]) fun r0 =>
  some [D.bool (D.toBool (List.getD r0 0 D.no))] := (RUN_eq _ _ _).trans (by kernel_rfl)
/-! masthead/mastref1.IsPath -/
def h29a (v14 : List D) (v15 : Int) (v16 : Int) : St := mkSt 24 [(14, SV.val (KT.slice 9) (D.list v14)), (15, SV.val (KT.int IntKind.i64) (D.int v15)), (16, SV.val (KT.int IntKind.i64) (D.int v16))] []
noncomputable def L29a (v14 : List D) (v15 : Int) (v16 : Int) : R := LOOP E (RUN E) 29 Tryd.f29 [1, 1, 0, 1, 0] (h29a v14 v15 v16)
theorem enter29 (s0 : List UInt8) : RUN E 29 [D.str s0] =
    cond (bif decide ((↑(List.length s0) : Int) < 1) then true else decide (200 < (↑(List.length s0) : Int)))
  (some [D.bool false])
  (opt (RUN E 39 [D.str s0, D.str (Array.toList (ByteArray.data { data := #[47] }))]) fun r1 =>
    L29a (D.toList (List.getD r1 0 D.no)) ((↑(List.length (D.toList (List.getD r1 0 D.no))) : Int)) 0) := (RUN_eq _ _ _).trans (by kernel_rfl)
theorem round29a (v14 : List D) (v15 : Int) (v16 : Int) : L29a v14 v15 v16 =
    cond (decide (v16 < v15))
  (cond (inb v16 (List.length v14))
    (opt (RUN E 42 [D.str (D.toStr (List.getD v14 (Int.toNat v16) D.no))]) fun r2 =>
      cond (bif D.toBool (List.getD r2 0 D.no) then false else true)
        (some [D.bool false])
        (L29a v14 v15 (IntKind.wrap IntKind.i64 (v16 + 1))))
    (none))
  (some [D.bool true]) := (LOOP_eq _ _ _ _ _ _).trans (by kernel_rfl)
/-! strings.HasSuffix -/
theorem enter30 (s0 : List UInt8) (suffix1 : List UInt8) : RUN E 30 [D.str s0, D.str suffix1] =
    opt (RUN E 43 [D.str s0, D.str suffix1]) fun r0 =>
  some [D.bool (D.toBool (List.getD r0 0 D.no))] := (RUN_eq _ _ _).trans (by kernel_rfl)
/-! strings.TrimSuffix -/
theorem enter31 (s0 : List UInt8) (suffix1 : List UInt8) : RUN E 31 [D.str s0, D.str suffix1] =
    opt (RUN E 44 [D.str s0, D.str suffix1]) fun r0 =>
  some [D.str (D.toStr (List.getD r0 0 D.no))] := (RUN_eq _ _ _).trans (by kernel_rfl)
/-! strings.Split -/
theorem enter39 (s0 : List UInt8) (sep1 : List UInt8) : RUN E 39 [D.str s0, D.str sep1] =
    opt (RUN E 50 [D.str s0, D.str sep1, D.int 0, D.int (-1)]) fun r0 =>
  some [D.list (D.toList (List.getD r0 0 D.no))] := (RUN_eq _ _ _).trans (by kernel_rfl)
/-! masthead/ship.isPart -/
def h40a (s0 : List UInt8) (i3 : Int) : St := mkSt 53 [(0, SV.val KT.str (D.str s0)), (3, SV.val (KT.int IntKind.i64) (D.int i3))] []
noncomputable def L40a (s0 : List UInt8) (i3 : Int) : R := LOOP E (RUN E) 40 Tryd.f40 [1, 1, 0, 1, 0] (h40a s0 i3)
theorem enter40 (s0 : List UInt8) : RUN E 40 [D.str s0] =
    cond (bif bif bif decide (s0 = Array.toList (ByteArray.data { data := #[] })) then true else decide (40 < (↑(List.length s0) : Int)) then true else decide (s0 = Array.toList (ByteArray.data { data := #[46] })) then true else decide (s0 = Array.toList (ByteArray.data { data := #[46, 46] })))
  (some [D.bool false])
  (L40a s0 0) := (RUN_eq _ _ _).trans (by kernel_rfl)
theorem round40a (s0 : List UInt8) (i3 : Int) : L40a s0 i3 =
    cond (decide (i3 < (↑(List.length s0) : Int)))
  (cond (inb i3 (List.length s0))
    (opt (cond (bif bif bif decide (97 ≤ (↑(UInt8.toNat (List.getD s0 (Int.toNat i3) 0)) : Int)) then decide ((↑(UInt8.toNat (List.getD s0 (Int.toNat i3) 0)) : Int) ≤ 122) else false then false else true then true else false)
        (RUN E 51 [D.int (↑(UInt8.toNat (List.getD s0 (Int.toNat i3) 0)) : Int)])
        (some [])) fun r2 =>
      cond (bif bif bif bif bif bif decide (97 ≤ (↑(UInt8.toNat (List.getD s0 (Int.toNat i3) 0)) : Int)) then decide ((↑(UInt8.toNat (List.getD s0 (Int.toNat i3) 0)) : Int) ≤ 122) else false then false else true then bif D.toBool (List.getD r2 0 D.no) then false else true else false then bif decide ((↑(UInt8.toNat (List.getD s0 (Int.toNat i3) 0)) : Int) = 45) then false else true else false then bif decide ((↑(UInt8.toNat (List.getD s0 (Int.toNat i3) 0)) : Int) = 95) then false else true else false then bif decide ((↑(UInt8.toNat (List.getD s0 (Int.toNat i3) 0)) : Int) = 46) then false else true else false)
        (some [D.bool false])
        (L40a s0 (IntKind.wrap IntKind.i64 (i3 + 1))))
    (none))
  (some [D.bool true]) := (LOOP_eq _ _ _ _ _ _).trans (by kernel_rfl)
/-! internal/stringslite.HasPrefix -/
theorem enter41 (s0 : List UInt8) (prefix1 : List UInt8) : RUN E 41 [D.str s0, D.str prefix1] =
    cond (bif cutOk (List.length s0) none (some (↑(List.length prefix1) : Int)) then true else bif bif decide ((↑(List.length prefix1) : Int) ≤ (↑(List.length s0) : Int)) then true else false then false else true)
  (some [D.bool (bif decide ((↑(List.length prefix1) : Int) ≤ (↑(List.length s0) : Int)) then decide (cutL s0 none (some (↑(List.length prefix1) : Int)) = prefix1) else false)])
  (none) := (RUN_eq _ _ _).trans (by kernel_rfl)
/-! masthead/mastref1.pathPart -/
def h42a (s0 : List UInt8) (i3 : Int) : St := mkSt 43 [(0, SV.val KT.str (D.str s0)), (3, SV.val (KT.int IntKind.i64) (D.int i3))] []
noncomputable def L42a (s0 : List UInt8) (i3 : Int) : R := LOOP E (RUN E) 42 Tryd.f42 [1, 1, 0, 1, 0] (h42a s0 i3)
theorem enter42 (s0 : List UInt8) : RUN E 42 [D.str s0] =
    cond (bif bif bif decide ((↑(List.length s0) : Int) < 1) then true else decide (40 < (↑(List.length s0) : Int)) then true else decide (s0 = Array.toList (ByteArray.data { data := #[46] })) then true else decide (s0 = Array.toList (ByteArray.data { data := #[46, 46] })))
  (some [D.bool false])
  (L42a s0 0) := (RUN_eq _ _ _).trans (by kernel_rfl)
theorem round42a (s0 : List UInt8) (i3 : Int) : L42a s0 i3 =
    cond (decide (i3 < (↑(List.length s0) : Int)))
  (cond (inb i3 (List.length s0))
    (opt (RUN E 52 [D.int (↑(UInt8.toNat (List.getD s0 (Int.toNat i3) 0)) : Int)]) fun r2 =>
      cond (bif inb i3 (List.length s0) then true else bif bif D.toBool (List.getD r2 0 D.no) then false else true then false else true)
        (cond (bif inb i3 (List.length s0) then true else bif bif bif D.toBool (List.getD r2 0 D.no) then true else decide ((↑(UInt8.toNat (List.getD s0 (Int.toNat i3) 0)) : Int) = 45) then false else true then false else true)
          (cond (bif bif bif D.toBool (List.getD r2 0 D.no) then true else decide ((↑(UInt8.toNat (List.getD s0 (Int.toNat i3) 0)) : Int) = 45) then true else decide ((↑(UInt8.toNat (List.getD s0 (Int.toNat i3) 0)) : Int) = 46) then false else true)
            (some [D.bool false])
            (L42a s0 (IntKind.wrap IntKind.i64 (i3 + 1))))
          (none))
        (none))
    (none))
  (some [D.bool true]) := (LOOP_eq _ _ _ _ _ _).trans (by kernel_rfl)
/-! internal/stringslite.HasSuffix -/
theorem enter43 (s0 : List UInt8) (suffix1 : List UInt8) : RUN E 43 [D.str s0, D.str suffix1] =
    cond (bif cutOk (List.length s0) (some (IntKind.wrap IntKind.i64 ((↑(List.length s0) : Int) - (↑(List.length suffix1) : Int)))) none then true else bif bif decide ((↑(List.length suffix1) : Int) ≤ (↑(List.length s0) : Int)) then true else false then false else true)
  (some [D.bool (bif decide ((↑(List.length suffix1) : Int) ≤ (↑(List.length s0) : Int)) then decide (cutL s0 (some (IntKind.wrap IntKind.i64 ((↑(List.length s0) : Int) - (↑(List.length suffix1) : Int)))) none = suffix1) else false)])
  (none) := (RUN_eq _ _ _).trans (by kernel_rfl)
/-! internal/stringslite.TrimSuffix -/
theorem enter44 (s0 : List UInt8) (suffix1 : List UInt8) : RUN E 44 [D.str s0, D.str suffix1] =
    opt (RUN E 43 [D.str s0, D.str suffix1]) fun r0 =>
  cond (D.toBool (List.getD r0 0 D.no))
    (cond (cutOk (List.length s0) none (some (IntKind.wrap IntKind.i64 ((↑(List.length s0) : Int) - (↑(List.length suffix1) : Int)))))
      (some [D.str (cutL s0 none (some (IntKind.wrap IntKind.i64 ((↑(List.length s0) : Int) - (↑(List.length suffix1) : Int)))))])
      (none))
    (some [D.str s0]) := (RUN_eq _ _ _).trans (by kernel_rfl)
/-! strings.genSplit -/
def h50a (s0 : List UInt8) (sep1 : List UInt8) (sepSave2 : Int) (n3 : Int) : St := mkSt 66 [(0, SV.val KT.str (D.str s0)), (1, SV.val KT.str (D.str sep1)), (2, SV.val (KT.int IntKind.i64) (D.int sepSave2)), (3, SV.val (KT.int IntKind.i64) (D.int n3))] []
noncomputable def C50a (s0 : List UInt8) (sep1 : List UInt8) (sepSave2 : Int) (n3 : Int) : R := PART E (RUN E) 50 Tryd.f50 [1, 1, 1, 1] (h50a s0 sep1 sepSave2 n3)
def h50b (s0 : List UInt8) (sep1 : List UInt8) (sepSave2 : Int) (n3 : Int) (i10 : Int) (a9s : List D) : St := mkSt 66 [(0, SV.val KT.str (D.str s0)), (1, SV.val KT.str (D.str sep1)), (2, SV.val (KT.int IntKind.i64) (D.int sepSave2)), (3, SV.val (KT.int IntKind.i64) (D.int n3)), (9, SV.own 9), (10, SV.val (KT.int IntKind.i64) (D.int i10))] [(9, Obj.arr 9 a9s)]
noncomputable def L50b (s0 : List UInt8) (sep1 : List UInt8) (sepSave2 : Int) (n3 : Int) (i10 : Int) (a9s : List D) : R := LOOP E (RUN E) 50 Tryd.f50 [1, 1, 1, 1, 1, 1, 1, 1, 0, 0] (h50b s0 sep1 sepSave2 n3 i10 a9s)
theorem enter50 (s0 : List UInt8) (sep1 : List UInt8) (sepSave2 : Int) (n3 : Int) : RUN E 50 [D.str s0, D.str sep1, D.int sepSave2, D.int n3] =
    cond (decide (n3 = 0))
  (some [D.list []])
  (cond (decide (sep1 = Array.toList (ByteArray.data { data := #[] })))
    (opt (RUN E 59 [D.str s0, D.int n3]) fun r2 =>
      some [D.list (D.toList (List.getD r2 0 D.no))])
    (cond (decide (n3 < 0))
      (opt (RUN E 60 [D.str s0, D.str sep1]) fun r3 =>
        C50a s0 sep1 sepSave2 (IntKind.wrap IntKind.i64 (D.toInt (List.getD r3 0 D.no) + 1)))
      (C50a s0 sep1 sepSave2 n3))) := (RUN_eq _ _ _).trans (by kernel_rfl)
theorem round50a (s0 : List UInt8) (sep1 : List UInt8) (sepSave2 : Int) (n3 : Int) : C50a s0 sep1 sepSave2 n3 =
    cond (bif decide (0 ≤ mmInt false n3 (IntKind.wrap IntKind.i64 ((↑(List.length s0) : Int) + 1))) then bif decide (mmInt false n3 (IntKind.wrap IntKind.i64 ((↑(List.length s0) : Int) + 1)) ≤ mmInt false n3 (IntKind.wrap IntKind.i64 ((↑(List.length s0) : Int) + 1))) then (fun (_ : Unit) => decide (mmInt false n3 (IntKind.wrap IntKind.i64 ((↑(List.length s0) : Int) + 1)) ≤ (↑lim : Int))) () else false else false)
  (L50b s0 sep1 sepSave2 (IntKind.wrap IntKind.i64 (mmInt false n3 (IntKind.wrap IntKind.i64 ((↑(List.length s0) : Int) + 1)) - 1)) 0 (List.replicate (Int.toNat (mmInt false n3 (IntKind.wrap IntKind.i64 ((↑(List.length s0) : Int) + 1)))) (D.str [])))
  (none) := (PART_eq _ _ _ _ _ _).trans (by kernel_rfl)
theorem round50b (s0 : List UInt8) (sep1 : List UInt8) (sepSave2 : Int) (n3 : Int) (i10 : Int) (a9s : List D) : L50b s0 sep1 sepSave2 n3 i10 a9s =
    cond (decide (i10 < n3))
  (opt (RUN E 19 [D.str s0, D.str sep1]) fun r1 =>
    cond (decide (D.toInt (List.getD r1 0 D.no) < 0))
      (cond (inb i10 (List.length a9s))
        (cond (cutOk (List.length (List.set a9s (Int.toNat i10) (D.str s0))) none (some (IntKind.wrap IntKind.i64 (i10 + 1))))
          (some [D.list (cutL (List.set a9s (Int.toNat i10) (D.str s0)) none (some (IntKind.wrap IntKind.i64 (i10 + 1))))])
          (none))
        (none))
      (cond (cutOk (List.length s0) none (some (IntKind.wrap IntKind.i64 (D.toInt (List.getD r1 0 D.no) + sepSave2))))
        (cond (inb i10 (List.length a9s))
          (cond (cutOk (List.length s0) (some (IntKind.wrap IntKind.i64 (D.toInt (List.getD r1 0 D.no) + (↑(List.length sep1) : Int)))) none)
            (L50b (cutL s0 (some (IntKind.wrap IntKind.i64 (D.toInt (List.getD r1 0 D.no) + (↑(List.length sep1) : Int)))) none) sep1 sepSave2 n3 (IntKind.wrap IntKind.i64 (i10 + 1)) (List.set a9s (Int.toNat i10) (D.str (cutL s0 none (some (IntKind.wrap IntKind.i64 (D.toInt (List.getD r1 0 D.no) + sepSave2)))))))
            (none))
          (none))
        (none)))
  (cond (inb i10 (List.length a9s))
    (cond (cutOk (List.length (List.set a9s (Int.toNat i10) (D.str s0))) none (some (IntKind.wrap IntKind.i64 (i10 + 1))))
      (some [D.list (cutL (List.set a9s (Int.toNat i10) (D.str s0)) none (some (IntKind.wrap IntKind.i64 (i10 + 1))))])
      (none))
    (none)) := (LOOP_eq _ _ _ _ _ _).trans (by kernel_rfl)
/-! masthead/ship.isDigit -/
theorem enter51 (c0 : Int) : RUN E 51 [D.int c0] =
    some [D.bool (bif decide (48 ≤ c0) then decide (c0 ≤ 57) else false)] := (RUN_eq _ _ _).trans (by kernel_rfl)
/-! masthead/mastref1.wordByte -/
theorem enter52 (c0 : Int) : RUN E 52 [D.int c0] =
    opt (cond (bif bif decide (97 ≤ c0) then decide (c0 ≤ 122) else false then false else true)
    (RUN E 61 [D.int c0])
    (some [])) fun r0 =>
  some [D.bool (bif bif bif decide (97 ≤ c0) then decide (c0 ≤ 122) else false then true else D.toBool (List.getD r0 0 D.no) then true else decide (c0 = 95))] := (RUN_eq _ _ _).trans (by kernel_rfl)
/-! masthead/mastref1.isDigit -/
theorem enter61 (c0 : Int) : RUN E 61 [D.int c0] =
    some [D.bool (bif decide (48 ≤ c0) then decide (c0 ≤ 57) else false)] := (RUN_eq _ _ _).trans (by kernel_rfl)
end Go.Proofs.YtjofkhdnidjleaaDoor.sa
