import Derived.Test.YtbinmfenhbpdnaaDxWordsA
set_option linter.unusedVariables false
set_option linter.unusedSimpArgs false
namespace Go.Proofs.Ytbinmfenhbpdnaa.sw
open Go.Proofs.Ytbinmfenhbpdnaa.DS

/-! masthead/mastlaw1.ShipWords -/
theorem enter3 (text0 : List UInt8) (word1 : List UInt8) : RUN E 3 [D.str text0, D.str word1] =
    opt (RUN E 8 [D.str text0]) fun r0 =>
  opt (RUN E 9 [D.str text0]) fun r1 =>
    opt (RUN E 7 [D.list (D.toList (List.getD r0 0 D.no)), D.list (D.toList (List.getD r1 0 D.no))]) fun r2 =>
      opt (cond (bif D.toBool (List.getD r2 0 D.no) then true else false)
          (RUN E 10 [D.str word1])
          (some [])) fun r3 =>
        opt (cond (bif D.toBool (List.getD r2 0 D.no) then true else false)
            (RUN E 11 [D.str word1])
            (some [])) fun r4 =>
          some [D.bool (bif D.toBool (List.getD r2 0 D.no) then decide (D.toStr (List.getD r3 0 D.no) = D.toStr (List.getD r4 0 D.no)) else false)] := (RUN_eq _ _ _).trans (by kernel_rfl)
/-! masthead/ship.Words -/
def h8a (text0 : List UInt8) (i4 : Int) (out3s : List D) : St := mkSt 57 [(0, SV.val KT.str (D.str text0)), (3, SV.own 3), (4, SV.val (KT.int IntKind.i64) (D.int i4))] [(3, Obj.arr 9 out3s)]
noncomputable def L8a (text0 : List UInt8) (i4 : Int) (out3s : List D) : R := LOOP E (RUN E) 8 Try.f8 [1, 1, 0, 1, 0] (h8a text0 i4 out3s)
def h8b (text0 : List UInt8) (i4 : Int) (k5 : Int) (out3s : List D) : St := mkSt 57 [(0, SV.val KT.str (D.str text0)), (3, SV.own 3), (4, SV.val (KT.int IntKind.i64) (D.int i4)), (5, SV.val (KT.int IntKind.i64) (D.int k5))] [(3, Obj.arr 9 out3s)]
noncomputable def L8b (text0 : List UInt8) (i4 : Int) (k5 : Int) (out3s : List D) : R := LOOP E (RUN E) 8 Try.f8 [1, 1, 0, 1, 0, 0, 1, 0, 1, 0, 0] (h8b text0 i4 k5 out3s)
theorem enter8 (text0 : List UInt8) : RUN E 8 [D.str text0] =
    L8a text0 0 [] := (RUN_eq _ _ _).trans (by kernel_rfl)
theorem round8a (text0 : List UInt8) (i4 : Int) (out3s : List D) : L8a text0 i4 out3s =
    cond (decide (i4 < (↑(List.length text0) : Int)))
  (L8b text0 i4 i4 out3s)
  (some [D.list out3s]) := (LOOP_eq _ _ _ _ _ _).trans (by kernel_rfl)
theorem round8b (text0 : List UInt8) (i4 : Int) (k5 : Int) (out3s : List D) : L8b text0 i4 k5 out3s =
    cond (bif inb k5 (List.length text0) then true else bif bif decide (k5 < (↑(List.length text0) : Int)) then true else false then false else true)
  (opt (cond (bif decide (k5 < (↑(List.length text0) : Int)) then true else false)
      (RUN E 21 [D.int (↑(UInt8.toNat (List.getD text0 (Int.toNat k5) 0)) : Int)])
      (some [])) fun r1 =>
    cond (bif inb k5 (List.length text0) then true else bif bif bif D.toBool (List.getD r1 0 D.no) then false else true then bif decide (k5 < (↑(List.length text0) : Int)) then true else false else false then false else true)
      (opt (cond (bif bif D.toBool (List.getD r1 0 D.no) then false else true then bif decide (k5 < (↑(List.length text0) : Int)) then true else false else false)
          (RUN E 22 [D.int (↑(UInt8.toNat (List.getD text0 (Int.toNat k5) 0)) : Int)])
          (some [])) fun r3 =>
        cond (bif inb k5 (List.length text0) then true else bif bif bif bif D.toBool (List.getD r1 0 D.no) then true else D.toBool (List.getD r3 0 D.no) then false else true then bif decide (k5 < (↑(List.length text0) : Int)) then true else false else false then false else true)
          (cond (bif decide (k5 < (↑(List.length text0) : Int)) then bif bif D.toBool (List.getD r1 0 D.no) then true else D.toBool (List.getD r3 0 D.no) then true else decide (128 ≤ (↑(UInt8.toNat (List.getD text0 (Int.toNat k5) 0)) : Int)) else false)
            (L8b text0 i4 (IntKind.wrap IntKind.i64 (k5 + 1)) out3s)
            (cond (bif decide (i4 < k5) then decide (IntKind.wrap IntKind.i64 (k5 - i4) ≤ 30) else false)
              (cond (cutOk (List.length text0) (some i4) (some k5))
                (opt (RUN E 23 [D.str (cutL text0 (some i4) (some k5))]) fun r8 =>
                  cond (fitL (List.length out3s) (List.length [D.str (D.toStr (List.getD r8 0 D.no))]))
                    (L8a text0 (mmInt true k5 (IntKind.wrap IntKind.i64 (i4 + 1))) (out3s ++ [D.str (D.toStr (List.getD r8 0 D.no))]))
                    (none))
                (none))
              (L8a text0 (mmInt true k5 (IntKind.wrap IntKind.i64 (i4 + 1))) out3s)))
          (none))
      (none))
  (none) := (LOOP_eq _ _ _ _ _ _).trans (by kernel_rfl)
/-! masthead/mastref1.WordsIn -/
def h9a (s0 : List UInt8) (word4 : List UInt8) (i5 : Int) (out3s : List D) : St := mkSt 54 [(0, SV.val KT.str (D.str s0)), (3, SV.own 3), (4, SV.val KT.str (D.str word4)), (5, SV.val (KT.int IntKind.i64) (D.int i5))] [(3, Obj.arr 9 out3s)]
noncomputable def L9a (s0 : List UInt8) (word4 : List UInt8) (i5 : Int) (out3s : List D) : R := LOOP E (RUN E) 9 Try.f9 [1, 1, 1, 0, 1, 0] (h9a s0 word4 i5 out3s)
theorem enter9 (s0 : List UInt8) : RUN E 9 [D.str s0] =
    L9a s0 (Array.toList (ByteArray.data { data := #[] })) 0 [] := (RUN_eq _ _ _).trans (by kernel_rfl)
theorem round9a (s0 : List UInt8) (word4 : List UInt8) (i5 : Int) (out3s : List D) : L9a s0 word4 i5 out3s =
    cond (decide (i5 ≤ (↑(List.length s0) : Int)))
  (cond (bif inb i5 (List.length s0) then true else bif bif decide (i5 < (↑(List.length s0) : Int)) then true else false then false else true)
    (opt (cond (bif decide (i5 < (↑(List.length s0) : Int)) then true else false)
        (RUN E 24 [D.int (↑(UInt8.toNat (List.getD s0 (Int.toNat i5) 0)) : Int)])
        (some [])) fun r2 =>
      cond (bif inb i5 (List.length s0) then true else bif bif bif D.toBool (List.getD r2 0 D.no) then false else true then bif decide (i5 < (↑(List.length s0) : Int)) then true else false else false then false else true)
        (opt (cond (bif bif D.toBool (List.getD r2 0 D.no) then false else true then bif decide (i5 < (↑(List.length s0) : Int)) then true else false else false)
            (RUN E 25 [D.int (↑(UInt8.toNat (List.getD s0 (Int.toNat i5) 0)) : Int)])
            (some [])) fun r4 =>
          cond (bif inb i5 (List.length s0) then true else bif bif bif bif D.toBool (List.getD r2 0 D.no) then true else D.toBool (List.getD r4 0 D.no) then false else true then bif decide (i5 < (↑(List.length s0) : Int)) then true else false else false then false else true)
            (cond (bif decide (i5 < (↑(List.length s0) : Int)) then bif bif D.toBool (List.getD r2 0 D.no) then true else D.toBool (List.getD r4 0 D.no) then true else decide (128 ≤ (↑(UInt8.toNat (List.getD s0 (Int.toNat i5) 0)) : Int)) else false)
              (cond (cutOk (List.length s0) (some i5) (some (IntKind.wrap IntKind.i64 (i5 + 1))))
                (opt (RUN E 26 [D.str (cutL s0 (some i5) (some (IntKind.wrap IntKind.i64 (i5 + 1))))]) fun r8 =>
                  cond (decide (List.length word4 + List.length (D.toStr (List.getD r8 0 D.no)) ≤ lim))
                    (L9a s0 (word4 ++ D.toStr (List.getD r8 0 D.no)) (IntKind.wrap IntKind.i64 (i5 + 1)) out3s)
                    (none))
                (none))
              (cond (bif bif decide (word4 = Array.toList (ByteArray.data { data := #[] })) then false else true then decide ((↑(List.length word4) : Int) ≤ 30) else false)
                (cond (fitL (List.length out3s) (List.length [D.str word4]))
                  (L9a s0 (Array.toList (ByteArray.data { data := #[] })) (IntKind.wrap IntKind.i64 (i5 + 1)) (out3s ++ [D.str word4]))
                  (none))
                (L9a s0 (Array.toList (ByteArray.data { data := #[] })) (IntKind.wrap IntKind.i64 (i5 + 1)) out3s)))
            (none))
        (none))
    (none))
  (some [D.list out3s]) := (LOOP_eq _ _ _ _ _ _).trans (by kernel_rfl)
/-! slices.Equal[[]string,string] -/
def h7a (s10 : List D) (s21 : List D) (v12 : Int) (v13 : Int) : St := mkSt 26 [(0, SV.val (KT.slice 9) (D.list s10)), (1, SV.val (KT.slice 9) (D.list s21)), (12, SV.val (KT.int IntKind.i64) (D.int v12)), (13, SV.val (KT.int IntKind.i64) (D.int v13))] []
noncomputable def L7a (s10 : List D) (s21 : List D) (v12 : Int) (v13 : Int) : R := LOOP E (RUN E) 7 Try.f7 [1, 1, 0, 1, 0] (h7a s10 s21 v12 v13)
theorem enter7 (s10 : List D) (s21 : List D) : RUN E 7 [D.list s10, D.list s21] =
    cond (bif decide ((↑(List.length s10) : Int) = (↑(List.length s21) : Int)) then false else true)
  (some [D.bool false])
  (L7a s10 s21 ((↑(List.length s10) : Int)) 0) := (RUN_eq _ _ _).trans (by kernel_rfl)
theorem round7a (s10 : List D) (s21 : List D) (v12 : Int) (v13 : Int) : L7a s10 s21 v12 v13 =
    cond (decide (v13 < v12))
  (cond (inb v13 (List.length s10))
    (cond (inb v13 (List.length s21))
      (cond (bif decide (D.toStr (List.getD s10 (Int.toNat v13) D.no) = D.toStr (List.getD s21 (Int.toNat v13) D.no)) then false else true)
        (some [D.bool false])
        (L7a s10 s21 v12 (IntKind.wrap IntKind.i64 (v13 + 1))))
      (none))
    (none))
  (some [D.bool true]) := (LOOP_eq _ _ _ _ _ _).trans (by kernel_rfl)
/-! masthead/ship.Stem -/
def h10a (word0 : List UInt8) (i3 : Int) : St := mkSt 62 [(0, SV.val KT.str (D.str word0)), (3, SV.val (KT.int IntKind.i64) (D.int i3))] []
noncomputable def L10a (word0 : List UInt8) (i3 : Int) : R := LOOP E (RUN E) 10 Try.f10 [1, 0, 1, 0] (h10a word0 i3)
def h10b (word0 : List UInt8) (n4 : Int) (v38 : List D) (v39 : Int) (v40 : Int) : St := mkSt 62 [(0, SV.val KT.str (D.str word0)), (4, SV.val (KT.int IntKind.i64) (D.int n4)), (38, SV.val (KT.slice 42) (D.list v38)), (39, SV.val (KT.int IntKind.i64) (D.int v39)), (40, SV.val (KT.int IntKind.i64) (D.int v40))] []
noncomputable def L10b (word0 : List UInt8) (n4 : Int) (v38 : List D) (v39 : Int) (v40 : Int) : R := LOOP E (RUN E) 10 Try.f10 [1, 1, 1, 1, 1, 0, 1, 0] (h10b word0 n4 v38 v39 v40)
theorem enter10 (word0 : List UInt8) : RUN E 10 [D.str word0] =
    L10a word0 0 := (RUN_eq _ _ _).trans (by kernel_rfl)
theorem round10a (word0 : List UInt8) (i3 : Int) : L10a word0 i3 =
    cond (decide (i3 < (↑(List.length word0) : Int)))
  (cond (inb i3 (List.length word0))
    (cond (bif inb i3 (List.length word0) then true else bif bif decide ((↑(UInt8.toNat (List.getD word0 (Int.toNat i3) 0)) : Int) < 97) then false else true then false else true)
      (cond (bif decide ((↑(UInt8.toNat (List.getD word0 (Int.toNat i3) 0)) : Int) < 97) then true else decide (122 < (↑(UInt8.toNat (List.getD word0 (Int.toNat i3) 0)) : Int)))
        (some [D.str word0])
        (L10a word0 (IntKind.wrap IntKind.i64 (i3 + 1))))
      (none))
    (none))
  (cond (decide ((↑(List.length word0) : Int) < 4))
    (some [D.str word0])
    (L10b word0 ((↑(List.length word0) : Int)) [D.agg (setField (KT.int IntKind.i64) (TI.cells { kt := KT.int IntKind.i64, cells := [KT.int IntKind.i64], fields := [], bytes := 8 }) (setField (KT.int IntKind.i64) (TI.cells { kt := KT.int IntKind.i64, cells := [KT.int IntKind.i64], fields := [], bytes := 8 }) (setField KT.str (TI.cells { kt := KT.str, cells := [KT.str], fields := [], bytes := 16 }) (List.map zeroD (TI.cells { kt := KT.agg 42, cells := [KT.str, KT.int IntKind.i64, KT.int IntKind.i64], fields := [(0, 9), (1, 3), (2, 3)], bytes := 32 })) (Prod.fst (0, 9)) (D.str (Array.toList (ByteArray.data { data := #[115, 115, 101, 115] })))) (Prod.fst (1, 3)) (D.int 2)) (Prod.fst (2, 3)) (D.int 0)), D.agg (setField (KT.int IntKind.i64) (TI.cells { kt := KT.int IntKind.i64, cells := [KT.int IntKind.i64], fields := [], bytes := 8 }) (setField (KT.int IntKind.i64) (TI.cells { kt := KT.int IntKind.i64, cells := [KT.int IntKind.i64], fields := [], bytes := 8 }) (setField KT.str (TI.cells { kt := KT.str, cells := [KT.str], fields := [], bytes := 16 }) (List.map zeroD (TI.cells { kt := KT.agg 42, cells := [KT.str, KT.int IntKind.i64, KT.int IntKind.i64], fields := [(0, 9), (1, 3), (2, 3)], bytes := 32 })) (Prod.fst (0, 9)) (D.str (Array.toList (ByteArray.data { data := #[105, 101, 115] })))) (Prod.fst (1, 3)) (D.int 2)) (Prod.fst (2, 3)) (D.int 0)), D.agg (setField (KT.int IntKind.i64) (TI.cells { kt := KT.int IntKind.i64, cells := [KT.int IntKind.i64], fields := [], bytes := 8 }) (setField (KT.int IntKind.i64) (TI.cells { kt := KT.int IntKind.i64, cells := [KT.int IntKind.i64], fields := [], bytes := 8 }) (setField KT.str (TI.cells { kt := KT.str, cells := [KT.str], fields := [], bytes := 16 }) (List.map zeroD (TI.cells { kt := KT.agg 42, cells := [KT.str, KT.int IntKind.i64, KT.int IntKind.i64], fields := [(0, 9), (1, 3), (2, 3)], bytes := 32 })) (Prod.fst (0, 9)) (D.str (Array.toList (ByteArray.data { data := #[115, 115] })))) (Prod.fst (1, 3)) (D.int 0)) (Prod.fst (2, 3)) (D.int 0)), D.agg (setField (KT.int IntKind.i64) (TI.cells { kt := KT.int IntKind.i64, cells := [KT.int IntKind.i64], fields := [], bytes := 8 }) (setField (KT.int IntKind.i64) (TI.cells { kt := KT.int IntKind.i64, cells := [KT.int IntKind.i64], fields := [], bytes := 8 }) (setField KT.str (TI.cells { kt := KT.str, cells := [KT.str], fields := [], bytes := 16 }) (List.map zeroD (TI.cells { kt := KT.agg 42, cells := [KT.str, KT.int IntKind.i64, KT.int IntKind.i64], fields := [(0, 9), (1, 3), (2, 3)], bytes := 32 })) (Prod.fst (0, 9)) (D.str (Array.toList (ByteArray.data { data := #[115] })))) (Prod.fst (1, 3)) (D.int 1)) (Prod.fst (2, 3)) (D.int 0)), D.agg (setField (KT.int IntKind.i64) (TI.cells { kt := KT.int IntKind.i64, cells := [KT.int IntKind.i64], fields := [], bytes := 8 }) (setField (KT.int IntKind.i64) (TI.cells { kt := KT.int IntKind.i64, cells := [KT.int IntKind.i64], fields := [], bytes := 8 }) (setField KT.str (TI.cells { kt := KT.str, cells := [KT.str], fields := [], bytes := 16 }) (List.map zeroD (TI.cells { kt := KT.agg 42, cells := [KT.str, KT.int IntKind.i64, KT.int IntKind.i64], fields := [(0, 9), (1, 3), (2, 3)], bytes := 32 })) (Prod.fst (0, 9)) (D.str (Array.toList (ByteArray.data { data := #[101, 101, 100] })))) (Prod.fst (1, 3)) (D.int 1)) (Prod.fst (2, 3)) (D.int 0)), D.agg (setField (KT.int IntKind.i64) (TI.cells { kt := KT.int IntKind.i64, cells := [KT.int IntKind.i64], fields := [], bytes := 8 }) (setField (KT.int IntKind.i64) (TI.cells { kt := KT.int IntKind.i64, cells := [KT.int IntKind.i64], fields := [], bytes := 8 }) (setField KT.str (TI.cells { kt := KT.str, cells := [KT.str], fields := [], bytes := 16 }) (List.map zeroD (TI.cells { kt := KT.agg 42, cells := [KT.str, KT.int IntKind.i64, KT.int IntKind.i64], fields := [(0, 9), (1, 3), (2, 3)], bytes := 32 })) (Prod.fst (0, 9)) (D.str (Array.toList (ByteArray.data { data := #[105, 110, 103] })))) (Prod.fst (1, 3)) (D.int 3)) (Prod.fst (2, 3)) (D.int 6)), D.agg (setField (KT.int IntKind.i64) (TI.cells { kt := KT.int IntKind.i64, cells := [KT.int IntKind.i64], fields := [], bytes := 8 }) (setField (KT.int IntKind.i64) (TI.cells { kt := KT.int IntKind.i64, cells := [KT.int IntKind.i64], fields := [], bytes := 8 }) (setField KT.str (TI.cells { kt := KT.str, cells := [KT.str], fields := [], bytes := 16 }) (List.map zeroD (TI.cells { kt := KT.agg 42, cells := [KT.str, KT.int IntKind.i64, KT.int IntKind.i64], fields := [(0, 9), (1, 3), (2, 3)], bytes := 32 })) (Prod.fst (0, 9)) (D.str (Array.toList (ByteArray.data { data := #[101, 100] })))) (Prod.fst (1, 3)) (D.int 2)) (Prod.fst (2, 3)) (D.int 5))] ((↑(List.length [D.agg (setField (KT.int IntKind.i64) (TI.cells { kt := KT.int IntKind.i64, cells := [KT.int IntKind.i64], fields := [], bytes := 8 }) (setField (KT.int IntKind.i64) (TI.cells { kt := KT.int IntKind.i64, cells := [KT.int IntKind.i64], fields := [], bytes := 8 }) (setField KT.str (TI.cells { kt := KT.str, cells := [KT.str], fields := [], bytes := 16 }) (List.map zeroD (TI.cells { kt := KT.agg 42, cells := [KT.str, KT.int IntKind.i64, KT.int IntKind.i64], fields := [(0, 9), (1, 3), (2, 3)], bytes := 32 })) (Prod.fst (0, 9)) (D.str (Array.toList (ByteArray.data { data := #[115, 115, 101, 115] })))) (Prod.fst (1, 3)) (D.int 2)) (Prod.fst (2, 3)) (D.int 0)), D.agg (setField (KT.int IntKind.i64) (TI.cells { kt := KT.int IntKind.i64, cells := [KT.int IntKind.i64], fields := [], bytes := 8 }) (setField (KT.int IntKind.i64) (TI.cells { kt := KT.int IntKind.i64, cells := [KT.int IntKind.i64], fields := [], bytes := 8 }) (setField KT.str (TI.cells { kt := KT.str, cells := [KT.str], fields := [], bytes := 16 }) (List.map zeroD (TI.cells { kt := KT.agg 42, cells := [KT.str, KT.int IntKind.i64, KT.int IntKind.i64], fields := [(0, 9), (1, 3), (2, 3)], bytes := 32 })) (Prod.fst (0, 9)) (D.str (Array.toList (ByteArray.data { data := #[105, 101, 115] })))) (Prod.fst (1, 3)) (D.int 2)) (Prod.fst (2, 3)) (D.int 0)), D.agg (setField (KT.int IntKind.i64) (TI.cells { kt := KT.int IntKind.i64, cells := [KT.int IntKind.i64], fields := [], bytes := 8 }) (setField (KT.int IntKind.i64) (TI.cells { kt := KT.int IntKind.i64, cells := [KT.int IntKind.i64], fields := [], bytes := 8 }) (setField KT.str (TI.cells { kt := KT.str, cells := [KT.str], fields := [], bytes := 16 }) (List.map zeroD (TI.cells { kt := KT.agg 42, cells := [KT.str, KT.int IntKind.i64, KT.int IntKind.i64], fields := [(0, 9), (1, 3), (2, 3)], bytes := 32 })) (Prod.fst (0, 9)) (D.str (Array.toList (ByteArray.data { data := #[115, 115] })))) (Prod.fst (1, 3)) (D.int 0)) (Prod.fst (2, 3)) (D.int 0)), D.agg (setField (KT.int IntKind.i64) (TI.cells { kt := KT.int IntKind.i64, cells := [KT.int IntKind.i64], fields := [], bytes := 8 }) (setField (KT.int IntKind.i64) (TI.cells { kt := KT.int IntKind.i64, cells := [KT.int IntKind.i64], fields := [], bytes := 8 }) (setField KT.str (TI.cells { kt := KT.str, cells := [KT.str], fields := [], bytes := 16 }) (List.map zeroD (TI.cells { kt := KT.agg 42, cells := [KT.str, KT.int IntKind.i64, KT.int IntKind.i64], fields := [(0, 9), (1, 3), (2, 3)], bytes := 32 })) (Prod.fst (0, 9)) (D.str (Array.toList (ByteArray.data { data := #[115] })))) (Prod.fst (1, 3)) (D.int 1)) (Prod.fst (2, 3)) (D.int 0)), D.agg (setField (KT.int IntKind.i64) (TI.cells { kt := KT.int IntKind.i64, cells := [KT.int IntKind.i64], fields := [], bytes := 8 }) (setField (KT.int IntKind.i64) (TI.cells { kt := KT.int IntKind.i64, cells := [KT.int IntKind.i64], fields := [], bytes := 8 }) (setField KT.str (TI.cells { kt := KT.str, cells := [KT.str], fields := [], bytes := 16 }) (List.map zeroD (TI.cells { kt := KT.agg 42, cells := [KT.str, KT.int IntKind.i64, KT.int IntKind.i64], fields := [(0, 9), (1, 3), (2, 3)], bytes := 32 })) (Prod.fst (0, 9)) (D.str (Array.toList (ByteArray.data { data := #[101, 101, 100] })))) (Prod.fst (1, 3)) (D.int 1)) (Prod.fst (2, 3)) (D.int 0)), D.agg (setField (KT.int IntKind.i64) (TI.cells { kt := KT.int IntKind.i64, cells := [KT.int IntKind.i64], fields := [], bytes := 8 }) (setField (KT.int IntKind.i64) (TI.cells { kt := KT.int IntKind.i64, cells := [KT.int IntKind.i64], fields := [], bytes := 8 }) (setField KT.str (TI.cells { kt := KT.str, cells := [KT.str], fields := [], bytes := 16 }) (List.map zeroD (TI.cells { kt := KT.agg 42, cells := [KT.str, KT.int IntKind.i64, KT.int IntKind.i64], fields := [(0, 9), (1, 3), (2, 3)], bytes := 32 })) (Prod.fst (0, 9)) (D.str (Array.toList (ByteArray.data { data := #[105, 110, 103] })))) (Prod.fst (1, 3)) (D.int 3)) (Prod.fst (2, 3)) (D.int 6)), D.agg (setField (KT.int IntKind.i64) (TI.cells { kt := KT.int IntKind.i64, cells := [KT.int IntKind.i64], fields := [], bytes := 8 }) (setField (KT.int IntKind.i64) (TI.cells { kt := KT.int IntKind.i64, cells := [KT.int IntKind.i64], fields := [], bytes := 8 }) (setField KT.str (TI.cells { kt := KT.str, cells := [KT.str], fields := [], bytes := 16 }) (List.map zeroD (TI.cells { kt := KT.agg 42, cells := [KT.str, KT.int IntKind.i64, KT.int IntKind.i64], fields := [(0, 9), (1, 3), (2, 3)], bytes := 32 })) (Prod.fst (0, 9)) (D.str (Array.toList (ByteArray.data { data := #[101, 100] })))) (Prod.fst (1, 3)) (D.int 2)) (Prod.fst (2, 3)) (D.int 5))]) : Int)) 0)) := (LOOP_eq _ _ _ _ _ _).trans (by kernel_rfl)
theorem round10b (word0 : List UInt8) (n4 : Int) (v38 : List D) (v39 : Int) (v40 : Int) : L10b word0 n4 v38 v39 v40 =
    cond (decide (v40 < v39))
  (cond (inb v40 (List.length v38))
    (opt (RUN E 27 [D.str word0, D.str (D.toStr (D.cell (List.getD v38 (Int.toNat v40) D.no) 0))]) fun r2 =>
      cond (bif D.toBool (List.getD r2 0 D.no) then decide (D.toInt (D.cell (List.getD v38 (Int.toNat v40) D.no) 2) ≤ n4) else false)
        (cond (cutOk (List.length word0) none (some (IntKind.wrap IntKind.i64 (n4 - D.toInt (D.cell (List.getD v38 (Int.toNat v40) D.no) 1)))))
          (some [D.str (cutL word0 none (some (IntKind.wrap IntKind.i64 (n4 - D.toInt (D.cell (List.getD v38 (Int.toNat v40) D.no) 1)))))])
          (none))
        (L10b word0 n4 v38 v39 (IntKind.wrap IntKind.i64 (v40 + 1))))
    (none))
  (some [D.str word0]) := (LOOP_eq _ _ _ _ _ _).trans (by kernel_rfl)
/-! masthead/mastref1.StemOf -/
def h11a (s0 : List UInt8) (i3 : Int) : St := mkSt 73 [(0, SV.val KT.str (D.str s0)), (3, SV.val (KT.int IntKind.i64) (D.int i3))] []
noncomputable def L11a (s0 : List UInt8) (i3 : Int) : R := LOOP E (RUN E) 11 Try.f11 [1, 1, 0, 1, 0] (h11a s0 i3)
theorem enter11 (s0 : List UInt8) : RUN E 11 [D.str s0] =
    cond (decide ((↑(List.length s0) : Int) < 4))
  (some [D.str s0])
  (L11a s0 0) := (RUN_eq _ _ _).trans (by kernel_rfl)
theorem round11a (s0 : List UInt8) (i3 : Int) : L11a s0 i3 =
    cond (decide (i3 < (↑(List.length s0) : Int)))
  (cond (inb i3 (List.length s0))
    (cond (bif inb i3 (List.length s0) then true else bif bif decide ((↑(UInt8.toNat (List.getD s0 (Int.toNat i3) 0)) : Int) < 97) then false else true then false else true)
      (cond (bif decide ((↑(UInt8.toNat (List.getD s0 (Int.toNat i3) 0)) : Int) < 97) then true else decide (122 < (↑(UInt8.toNat (List.getD s0 (Int.toNat i3) 0)) : Int)))
        (some [D.str s0])
        (L11a s0 (IntKind.wrap IntKind.i64 (i3 + 1))))
      (none))
    (none))
  (opt (RUN E 27 [D.str s0, D.str (Array.toList (ByteArray.data { data := #[115, 115, 101, 115] }))]) fun r1 =>
    cond (D.toBool (List.getD r1 0 D.no))
      (cond (D.toBool (List.getD r1 0 D.no))
        (cond (cutOk (List.length s0) none (some (IntKind.wrap IntKind.i64 ((↑(List.length s0) : Int) - 2))))
          (some [D.str (cutL s0 none (some (IntKind.wrap IntKind.i64 ((↑(List.length s0) : Int) - 2))))])
          (none))
        (opt (RUN E 27 [D.str s0, D.str (Array.toList (ByteArray.data { data := #[115, 115] }))]) fun r4 =>
          cond (D.toBool (List.getD r4 0 D.no))
            (some [D.str s0])
            (opt (RUN E 27 [D.str s0, D.str (Array.toList (ByteArray.data { data := #[115] }))]) fun r6 =>
              cond (D.toBool (List.getD r6 0 D.no))
                (cond (D.toBool (List.getD r6 0 D.no))
                  (cond (cutOk (List.length s0) none (some (IntKind.wrap IntKind.i64 ((↑(List.length s0) : Int) - 1))))
                    (some [D.str (cutL s0 none (some (IntKind.wrap IntKind.i64 ((↑(List.length s0) : Int) - 1))))])
                    (none))
                  (opt (RUN E 27 [D.str s0, D.str (Array.toList (ByteArray.data { data := #[105, 110, 103] }))]) fun r9 =>
                    cond (bif D.toBool (List.getD r9 0 D.no) then decide (6 ≤ (↑(List.length s0) : Int)) else false)
                      (cond (cutOk (List.length s0) none (some (IntKind.wrap IntKind.i64 ((↑(List.length s0) : Int) - 3))))
                        (some [D.str (cutL s0 none (some (IntKind.wrap IntKind.i64 ((↑(List.length s0) : Int) - 3))))])
                        (none))
                      (opt (RUN E 27 [D.str s0, D.str (Array.toList (ByteArray.data { data := #[101, 100] }))]) fun r11 =>
                        cond (bif D.toBool (List.getD r11 0 D.no) then decide (5 ≤ (↑(List.length s0) : Int)) else false)
                          (cond (cutOk (List.length s0) none (some (IntKind.wrap IntKind.i64 ((↑(List.length s0) : Int) - 2))))
                            (some [D.str (cutL s0 none (some (IntKind.wrap IntKind.i64 ((↑(List.length s0) : Int) - 2))))])
                            (none))
                          (some [D.str s0]))))
                (opt (RUN E 27 [D.str s0, D.str (Array.toList (ByteArray.data { data := #[101, 101, 100] }))]) fun r8 =>
                  cond (D.toBool (List.getD r8 0 D.no))
                    (cond (cutOk (List.length s0) none (some (IntKind.wrap IntKind.i64 ((↑(List.length s0) : Int) - 1))))
                      (some [D.str (cutL s0 none (some (IntKind.wrap IntKind.i64 ((↑(List.length s0) : Int) - 1))))])
                      (none))
                    (opt (RUN E 27 [D.str s0, D.str (Array.toList (ByteArray.data { data := #[105, 110, 103] }))]) fun r10 =>
                      cond (bif D.toBool (List.getD r10 0 D.no) then decide (6 ≤ (↑(List.length s0) : Int)) else false)
                        (cond (cutOk (List.length s0) none (some (IntKind.wrap IntKind.i64 ((↑(List.length s0) : Int) - 3))))
                          (some [D.str (cutL s0 none (some (IntKind.wrap IntKind.i64 ((↑(List.length s0) : Int) - 3))))])
                          (none))
                        (opt (RUN E 27 [D.str s0, D.str (Array.toList (ByteArray.data { data := #[101, 100] }))]) fun r12 =>
                          cond (bif D.toBool (List.getD r12 0 D.no) then decide (5 ≤ (↑(List.length s0) : Int)) else false)
                            (cond (cutOk (List.length s0) none (some (IntKind.wrap IntKind.i64 ((↑(List.length s0) : Int) - 2))))
                              (some [D.str (cutL s0 none (some (IntKind.wrap IntKind.i64 ((↑(List.length s0) : Int) - 2))))])
                              (none))
                            (some [D.str s0])))))))
      (opt (RUN E 27 [D.str s0, D.str (Array.toList (ByteArray.data { data := #[105, 101, 115] }))]) fun r3 =>
        cond (D.toBool (List.getD r3 0 D.no))
          (cond (cutOk (List.length s0) none (some (IntKind.wrap IntKind.i64 ((↑(List.length s0) : Int) - 2))))
            (some [D.str (cutL s0 none (some (IntKind.wrap IntKind.i64 ((↑(List.length s0) : Int) - 2))))])
            (none))
          (opt (RUN E 27 [D.str s0, D.str (Array.toList (ByteArray.data { data := #[115, 115] }))]) fun r5 =>
            cond (D.toBool (List.getD r5 0 D.no))
              (some [D.str s0])
              (opt (RUN E 27 [D.str s0, D.str (Array.toList (ByteArray.data { data := #[115] }))]) fun r7 =>
                cond (D.toBool (List.getD r7 0 D.no))
                  (cond (D.toBool (List.getD r7 0 D.no))
                    (cond (cutOk (List.length s0) none (some (IntKind.wrap IntKind.i64 ((↑(List.length s0) : Int) - 1))))
                      (some [D.str (cutL s0 none (some (IntKind.wrap IntKind.i64 ((↑(List.length s0) : Int) - 1))))])
                      (none))
                    (opt (RUN E 27 [D.str s0, D.str (Array.toList (ByteArray.data { data := #[105, 110, 103] }))]) fun r10 =>
                      cond (bif D.toBool (List.getD r10 0 D.no) then decide (6 ≤ (↑(List.length s0) : Int)) else false)
                        (cond (cutOk (List.length s0) none (some (IntKind.wrap IntKind.i64 ((↑(List.length s0) : Int) - 3))))
                          (some [D.str (cutL s0 none (some (IntKind.wrap IntKind.i64 ((↑(List.length s0) : Int) - 3))))])
                          (none))
                        (opt (RUN E 27 [D.str s0, D.str (Array.toList (ByteArray.data { data := #[101, 100] }))]) fun r12 =>
                          cond (bif D.toBool (List.getD r12 0 D.no) then decide (5 ≤ (↑(List.length s0) : Int)) else false)
                            (cond (cutOk (List.length s0) none (some (IntKind.wrap IntKind.i64 ((↑(List.length s0) : Int) - 2))))
                              (some [D.str (cutL s0 none (some (IntKind.wrap IntKind.i64 ((↑(List.length s0) : Int) - 2))))])
                              (none))
                            (some [D.str s0]))))
                  (opt (RUN E 27 [D.str s0, D.str (Array.toList (ByteArray.data { data := #[101, 101, 100] }))]) fun r9 =>
                    cond (D.toBool (List.getD r9 0 D.no))
                      (cond (cutOk (List.length s0) none (some (IntKind.wrap IntKind.i64 ((↑(List.length s0) : Int) - 1))))
                        (some [D.str (cutL s0 none (some (IntKind.wrap IntKind.i64 ((↑(List.length s0) : Int) - 1))))])
                        (none))
                      (opt (RUN E 27 [D.str s0, D.str (Array.toList (ByteArray.data { data := #[105, 110, 103] }))]) fun r11 =>
                        cond (bif D.toBool (List.getD r11 0 D.no) then decide (6 ≤ (↑(List.length s0) : Int)) else false)
                          (cond (cutOk (List.length s0) none (some (IntKind.wrap IntKind.i64 ((↑(List.length s0) : Int) - 3))))
                            (some [D.str (cutL s0 none (some (IntKind.wrap IntKind.i64 ((↑(List.length s0) : Int) - 3))))])
                            (none))
                          (opt (RUN E 27 [D.str s0, D.str (Array.toList (ByteArray.data { data := #[101, 100] }))]) fun r13 =>
                            cond (bif D.toBool (List.getD r13 0 D.no) then decide (5 ≤ (↑(List.length s0) : Int)) else false)
                              (cond (cutOk (List.length s0) none (some (IntKind.wrap IntKind.i64 ((↑(List.length s0) : Int) - 2))))
                                (some [D.str (cutL s0 none (some (IntKind.wrap IntKind.i64 ((↑(List.length s0) : Int) - 2))))])
                                (none))
                              (some [D.str s0])))))))) := (LOOP_eq _ _ _ _ _ _).trans (by kernel_rfl)
/-! masthead/ship.isLetter -/
theorem enter21 (c0 : Int) : RUN E 21 [D.int c0] =
    some [D.bool (bif bif decide (97 ≤ c0) then decide (c0 ≤ 122) else false then true else bif decide (65 ≤ c0) then decide (c0 ≤ 90) else false)] := (RUN_eq _ _ _).trans (by kernel_rfl)
/-! masthead/ship.isDigit -/
theorem enter22 (c0 : Int) : RUN E 22 [D.int c0] =
    some [D.bool (bif decide (48 ≤ c0) then decide (c0 ≤ 57) else false)] := (RUN_eq _ _ _).trans (by kernel_rfl)
/-! masthead/ship.lower -/
def h23a (v9 : Int) (v10 : Int) (v7s : List D) : St := mkSt 29 [(3, SV.own 7), (8, SV.own 7), (9, SV.val (KT.int IntKind.i64) (D.int v9)), (10, SV.val (KT.int IntKind.i64) (D.int v10))] [(7, Obj.arr 5 v7s)]
noncomputable def L23a (v9 : Int) (v10 : Int) (v7s : List D) : R := LOOP E (RUN E) 23 Try.f23 [1, 1, 0, 1, 0] (h23a v9 v10 v7s)
theorem enter23 (s0 : List UInt8) : RUN E 23 [D.str s0] =
    L23a ((↑(List.length (bytesD s0)) : Int)) 0 (bytesD s0) := (RUN_eq _ _ _).trans (by kernel_rfl)
theorem round23a (v9 : Int) (v10 : Int) (v7s : List D) : L23a v9 v10 v7s =
    cond (decide (v10 < v9))
  (cond (inb v10 (List.length v7s))
    (cond (bif decide (65 ≤ D.toInt (List.getD v7s (Int.toNat v10) D.no)) then decide (D.toInt (List.getD v7s (Int.toNat v10) D.no) ≤ 90) else false)
      (cond (inb v10 (List.length v7s))
        (L23a v9 (IntKind.wrap IntKind.i64 (v10 + 1)) (List.set v7s (Int.toNat v10) (D.int (IntKind.wrap IntKind.u8 (D.toInt (List.getD v7s (Int.toNat v10) D.no) + 32)))))
        (none))
      (L23a v9 (IntKind.wrap IntKind.i64 (v10 + 1)) v7s))
    (none))
  (some [D.str (dBytes v7s)]) := (LOOP_eq _ _ _ _ _ _).trans (by kernel_rfl)
/-! masthead/mastref1.isLetter -/
theorem enter24 (c0 : Int) : RUN E 24 [D.int c0] =
    some [D.bool (bif bif decide (97 ≤ c0) then decide (c0 ≤ 122) else false then true else bif decide (65 ≤ c0) then decide (c0 ≤ 90) else false)] := (RUN_eq _ _ _).trans (by kernel_rfl)
/-! masthead/mastref1.isDigit -/
theorem enter25 (c0 : Int) : RUN E 25 [D.int c0] =
    some [D.bool (bif decide (48 ≤ c0) then decide (c0 ≤ 57) else false)] := (RUN_eq _ _ _).trans (by kernel_rfl)
/-! masthead/mastref1.lower -/
def h26a (v9 : Int) (v10 : Int) (v7s : List D) : St := mkSt 29 [(3, SV.own 7), (8, SV.own 7), (9, SV.val (KT.int IntKind.i64) (D.int v9)), (10, SV.val (KT.int IntKind.i64) (D.int v10))] [(7, Obj.arr 5 v7s)]
noncomputable def L26a (v9 : Int) (v10 : Int) (v7s : List D) : R := LOOP E (RUN E) 26 Try.f26 [1, 1, 0, 1, 0] (h26a v9 v10 v7s)
theorem enter26 (s0 : List UInt8) : RUN E 26 [D.str s0] =
    L26a ((↑(List.length (bytesD s0)) : Int)) 0 (bytesD s0) := (RUN_eq _ _ _).trans (by kernel_rfl)
theorem round26a (v9 : Int) (v10 : Int) (v7s : List D) : L26a v9 v10 v7s =
    cond (decide (v10 < v9))
  (cond (inb v10 (List.length v7s))
    (cond (bif decide (65 ≤ D.toInt (List.getD v7s (Int.toNat v10) D.no)) then decide (D.toInt (List.getD v7s (Int.toNat v10) D.no) ≤ 90) else false)
      (cond (inb v10 (List.length v7s))
        (L26a v9 (IntKind.wrap IntKind.i64 (v10 + 1)) (List.set v7s (Int.toNat v10) (D.int (IntKind.wrap IntKind.u8 (D.toInt (List.getD v7s (Int.toNat v10) D.no) + 32)))))
        (none))
      (L26a v9 (IntKind.wrap IntKind.i64 (v10 + 1)) v7s))
    (none))
  (some [D.str (dBytes v7s)]) := (LOOP_eq _ _ _ _ _ _).trans (by kernel_rfl)
/-! strings.HasSuffix -/
theorem enter27 (s0 : List UInt8) (suffix1 : List UInt8) : RUN E 27 [D.str s0, D.str suffix1] =
    opt (RUN E 49 [D.str s0, D.str suffix1]) fun r0 =>
  some [D.bool (D.toBool (List.getD r0 0 D.no))] := (RUN_eq _ _ _).trans (by kernel_rfl)
/-! internal/stringslite.HasSuffix -/
theorem enter49 (s0 : List UInt8) (suffix1 : List UInt8) : RUN E 49 [D.str s0, D.str suffix1] =
    cond (bif cutOk (List.length s0) (some (IntKind.wrap IntKind.i64 ((↑(List.length s0) : Int) - (↑(List.length suffix1) : Int)))) none then true else bif bif decide ((↑(List.length suffix1) : Int) ≤ (↑(List.length s0) : Int)) then true else false then false else true)
  (some [D.bool (bif decide ((↑(List.length suffix1) : Int) ≤ (↑(List.length s0) : Int)) then decide (cutL s0 (some (IntKind.wrap IntKind.i64 ((↑(List.length s0) : Int) - (↑(List.length suffix1) : Int)))) none = suffix1) else false)])
  (none) := (RUN_eq _ _ _).trans (by kernel_rfl)
end Go.Proofs.Ytbinmfenhbpdnaa.sw
