import Derived.Test.YthbncndefigidaaDoorDxSlugsA
set_option linter.unusedVariables false
set_option linter.unusedSimpArgs false
namespace Go.Proofs.YthbncndefigidaaDoor.sl
open Go.Proofs.YthbncndefigidaaDoor.DS

/-! masthead/mastlaw1.MarkSlugs -/
theorem enter3 (s0 : List UInt8) : RUN E 3 [D.str s0] =
    opt (cond (bif decide (200000 < (↑(List.length s0) : Int)) then false else true)
    (RUN E 7 [D.str s0])
    (some [])) fun ρ0 =>
  opt (cond (bif decide (200000 < (↑(List.length s0) : Int)) then false else true)
      (RUN E 8 [D.str s0])
      (some [])) fun ρ1 =>
    some [D.bool (bif decide (200000 < (↑(List.length s0) : Int)) then true else decide (D.toStr (List.getD ρ0 0 D.no) = D.toStr (List.getD ρ1 0 D.no)))] := (RUN_eq _ _ _).trans (by kernel_rfl)
/-! masthead/mark.Slug -/
def h7a (s0 : List UInt8) (i4 : Int) (out3s : List D) : St := mkSt 75 [(0, SV.val KT.str (D.str s0)), (3, SV.own 3), (4, SV.val (KT.int IntKind.i64) (D.int i4))] [(3, Obj.arr 5 out3s)]
noncomputable def L7a (s0 : List UInt8) (i4 : Int) (out3s : List D) : R := LOOP E (RUN E) 7 Tryd.f7 [1, 1, 0, 1, 0] (h7a s0 i4 out3s)
def h7b (s0 : List UInt8) (i4 : Int) (c5 : Int) (out3s : List D) : St := mkSt 75 [(0, SV.val KT.str (D.str s0)), (3, SV.own 3), (4, SV.val (KT.int IntKind.i64) (D.int i4)), (5, SV.val (KT.int IntKind.u8) (D.int c5))] [(3, Obj.arr 5 out3s)]
noncomputable def C7b (s0 : List UInt8) (i4 : Int) (c5 : Int) (out3s : List D) : R := PART E (RUN E) 7 Tryd.f7 [1, 1, 0, 1, 0, 0, 1, 0, 0, 1, 1] (h7b s0 i4 c5 out3s)
theorem enter7 (s0 : List UInt8) : RUN E 7 [D.str s0] =
    L7a s0 0 [] := (RUN_eq _ _ _).trans (by kernel_rfl)
theorem round7a (s0 : List UInt8) (i4 : Int) (out3s : List D) : L7a s0 i4 out3s =
    cond (decide (i4 < (↑(List.length s0) : Int)))
  (cond (inb i4 (List.length s0))
    (cond (bif decide (65 ≤ (↑(UInt8.toNat (List.getD s0 (Int.toNat i4) 0)) : Int)) then decide ((↑(UInt8.toNat (List.getD s0 (Int.toNat i4) 0)) : Int) ≤ 90) else false)
      (C7b s0 i4 (IntKind.wrap IntKind.u8 ((↑(UInt8.toNat (List.getD s0 (Int.toNat i4) 0)) : Int) + 32)) out3s)
      (C7b s0 i4 ((↑(UInt8.toNat (List.getD s0 (Int.toNat i4) 0)) : Int)) out3s))
    (none))
  (cond (bif inb (IntKind.wrap IntKind.i64 ((↑(List.length out3s) : Int) - 1)) (List.length out3s) then true else bif bif decide (0 < (↑(List.length out3s) : Int)) then true else false then false else true)
    (cond (bif decide (0 < (↑(List.length out3s) : Int)) then decide (D.toInt (List.getD out3s (Int.toNat (IntKind.wrap IntKind.i64 ((↑(List.length out3s) : Int) - 1))) D.no) = 45) else false)
      (cond (cutOk (List.length out3s) none (some (IntKind.wrap IntKind.i64 ((↑(List.length out3s) : Int) - 1))))
        (some [D.str (dBytes (cutL out3s none (some (IntKind.wrap IntKind.i64 ((↑(List.length out3s) : Int) - 1)))))])
        (none))
      (some [D.str (dBytes out3s)]))
    (none)) := (LOOP_eq _ _ _ _ _ _).trans (by kernel_rfl)
theorem round7b (s0 : List UInt8) (i4 : Int) (c5 : Int) (out3s : List D) : C7b s0 i4 c5 out3s =
    opt (cond (bif bif decide (97 ≤ c5) then decide (c5 ≤ 122) else false then false else true)
    (RUN E 21 [D.int c5])
    (some [])) fun ρ0 =>
  cond (bif bif bif decide (97 ≤ c5) then decide (c5 ≤ 122) else false then true else D.toBool (List.getD ρ0 0 D.no) then true else decide (128 ≤ c5))
    (cond (fitL (List.length out3s) (List.length [D.int c5]))
      (L7a s0 (IntKind.wrap IntKind.i64 (i4 + 1)) (out3s ++ [D.int c5]))
      (none))
    (cond (bif inb (IntKind.wrap IntKind.i64 ((↑(List.length out3s) : Int) - 1)) (List.length out3s) then true else bif bif decide (0 < (↑(List.length out3s) : Int)) then true else false then false else true)
      (cond (bif decide (0 < (↑(List.length out3s) : Int)) then bif decide (D.toInt (List.getD out3s (Int.toNat (IntKind.wrap IntKind.i64 ((↑(List.length out3s) : Int) - 1))) D.no) = 45) then false else true else false)
        (cond (fitL (List.length out3s) (List.length [D.int 45]))
          (L7a s0 (IntKind.wrap IntKind.i64 (i4 + 1)) (out3s ++ [D.int 45]))
          (none))
        (L7a s0 (IntKind.wrap IntKind.i64 (i4 + 1)) out3s))
      (none)) := (PART_eq _ _ _ _ _ _).trans (by kernel_rfl)
/-! masthead/mastref1.SlugOf -/
def h8a (s0 : List UInt8) (out3 : List UInt8) (i4 : Int) : St := mkSt 47 [(0, SV.val KT.str (D.str s0)), (3, SV.val KT.str (D.str out3)), (4, SV.val (KT.int IntKind.i64) (D.int i4))] []
noncomputable def L8a (s0 : List UInt8) (out3 : List UInt8) (i4 : Int) : R := LOOP E (RUN E) 8 Tryd.f8 [1, 1, 0, 1, 0] (h8a s0 out3 i4)
theorem enter8 (s0 : List UInt8) : RUN E 8 [D.str s0] =
    L8a s0 (Array.toList (ByteArray.data { data := #[] })) 0 := (RUN_eq _ _ _).trans (by kernel_rfl)
theorem round8a (s0 : List UInt8) (out3 : List UInt8) (i4 : Int) : L8a s0 out3 i4 =
    cond (decide (i4 < (↑(List.length s0) : Int)))
  (cond (cutOk (List.length s0) (some i4) (some (IntKind.wrap IntKind.i64 (i4 + 1))))
    (opt (RUN E 22 [D.str (cutL s0 (some i4) (some (IntKind.wrap IntKind.i64 (i4 + 1))))]) fun ρ2 =>
      cond (inb 0 (List.length (D.toStr (List.getD ρ2 0 D.no))))
        (opt (cond (bif bif decide (97 ≤ (↑(UInt8.toNat (List.getD (D.toStr (List.getD ρ2 0 D.no)) 0 0)) : Int)) then decide ((↑(UInt8.toNat (List.getD (D.toStr (List.getD ρ2 0 D.no)) 0 0)) : Int) ≤ 122) else false then false else true)
            (RUN E 23 [D.int (↑(UInt8.toNat (List.getD (D.toStr (List.getD ρ2 0 D.no)) 0 0)) : Int)])
            (some [])) fun ρ4 =>
          cond (bif bif bif decide (97 ≤ (↑(UInt8.toNat (List.getD (D.toStr (List.getD ρ2 0 D.no)) 0 0)) : Int)) then decide ((↑(UInt8.toNat (List.getD (D.toStr (List.getD ρ2 0 D.no)) 0 0)) : Int) ≤ 122) else false then true else D.toBool (List.getD ρ4 0 D.no) then true else decide (128 ≤ (↑(UInt8.toNat (List.getD (D.toStr (List.getD ρ2 0 D.no)) 0 0)) : Int)))
            (cond (decide (List.length out3 + List.length (dBytes [D.int (↑(UInt8.toNat (List.getD (D.toStr (List.getD ρ2 0 D.no)) 0 0)) : Int)]) ≤ lim))
              (L8a s0 (out3 ++ dBytes [D.int (↑(UInt8.toNat (List.getD (D.toStr (List.getD ρ2 0 D.no)) 0 0)) : Int)]) (IntKind.wrap IntKind.i64 (i4 + 1)))
              (none))
            (opt (RUN E 24 [D.str out3, D.str (Array.toList (ByteArray.data { data := #[45] }))]) fun ρ6 =>
              cond (bif D.toBool (List.getD ρ6 0 D.no) then false else true)
                (cond (decide (List.length out3 + List.length (Array.toList (ByteArray.data { data := #[45] })) ≤ lim))
                  (L8a s0 (out3 ++ Array.toList (ByteArray.data { data := #[45] })) (IntKind.wrap IntKind.i64 (i4 + 1)))
                  (none))
                (L8a s0 out3 (IntKind.wrap IntKind.i64 (i4 + 1)))))
        (none))
    (none))
  (opt (RUN E 25 [D.str out3, D.str (Array.toList (ByteArray.data { data := #[45] }))]) fun ρ1 =>
    some [D.str (D.toStr (List.getD ρ1 0 D.no))]) := (LOOP_eq _ _ _ _ _ _).trans (by kernel_rfl)
/-! masthead/mark.isDigit -/
theorem enter21 (c0 : Int) : RUN E 21 [D.int c0] =
    some [D.bool (bif decide (48 ≤ c0) then decide (c0 ≤ 57) else false)] := (RUN_eq _ _ _).trans (by kernel_rfl)
/-! masthead/mastref1.lower -/
def h22a (v9 : Int) (v10 : Int) (v7s : List D) : St := mkSt 29 [(3, SV.own 7), (8, SV.own 7), (9, SV.val (KT.int IntKind.i64) (D.int v9)), (10, SV.val (KT.int IntKind.i64) (D.int v10))] [(7, Obj.arr 5 v7s)]
noncomputable def L22a (v9 : Int) (v10 : Int) (v7s : List D) : R := LOOP E (RUN E) 22 Tryd.f22 [1, 1, 0, 1, 0] (h22a v9 v10 v7s)
theorem enter22 (s0 : List UInt8) : RUN E 22 [D.str s0] =
    L22a ((↑(List.length (bytesD s0)) : Int)) 0 (bytesD s0) := (RUN_eq _ _ _).trans (by kernel_rfl)
theorem round22a (v9 : Int) (v10 : Int) (v7s : List D) : L22a v9 v10 v7s =
    cond (decide (v10 < v9))
  (cond (inb v10 (List.length v7s))
    (cond (bif decide (65 ≤ D.toInt (List.getD v7s (Int.toNat v10) D.no)) then decide (D.toInt (List.getD v7s (Int.toNat v10) D.no) ≤ 90) else false)
      (cond (inb v10 (List.length v7s))
        (L22a v9 (IntKind.wrap IntKind.i64 (v10 + 1)) (List.set v7s (Int.toNat v10) (D.int (IntKind.wrap IntKind.u8 (D.toInt (List.getD v7s (Int.toNat v10) D.no) + 32)))))
        (none))
      (L22a v9 (IntKind.wrap IntKind.i64 (v10 + 1)) v7s))
    (none))
  (some [D.str (dBytes v7s)]) := (LOOP_eq _ _ _ _ _ _).trans (by kernel_rfl)
/-! masthead/mastref1.isDigit -/
theorem enter23 (c0 : Int) : RUN E 23 [D.int c0] =
    some [D.bool (bif decide (48 ≤ c0) then decide (c0 ≤ 57) else false)] := (RUN_eq _ _ _).trans (by kernel_rfl)
/-! strings.HasSuffix -/
theorem enter24 (s0 : List UInt8) (suffix1 : List UInt8) : RUN E 24 [D.str s0, D.str suffix1] =
    opt (RUN E 42 [D.str s0, D.str suffix1]) fun ρ0 =>
  some [D.bool (D.toBool (List.getD ρ0 0 D.no))] := (RUN_eq _ _ _).trans (by kernel_rfl)
/-! strings.Trim -/
theorem enter25 (s0 : List UInt8) (cutset1 : List UInt8) : RUN E 25 [D.str s0, D.str cutset1] =
    cond (bif decide (s0 = Array.toList (ByteArray.data { data := #[] })) then true else decide (cutset1 = Array.toList (ByteArray.data { data := #[] })))
  (some [D.str s0])
  (cond (bif inb 0 (List.length cutset1) then true else bif bif decide ((↑(List.length cutset1) : Int) = 1) then true else false then false else true)
    (cond (bif decide ((↑(List.length cutset1) : Int) = 1) then decide ((↑(UInt8.toNat (List.getD cutset1 0 0)) : Int) < 128) else false)
      (cond (inb 0 (List.length cutset1))
        (opt (RUN E 44 [D.str s0, D.int (↑(UInt8.toNat (List.getD cutset1 0 0)) : Int)]) fun ρ4 =>
          cond (inb 0 (List.length cutset1))
            (opt (RUN E 43 [D.str (D.toStr (List.getD ρ4 0 D.no)), D.int (↑(UInt8.toNat (List.getD cutset1 0 0)) : Int)]) fun ρ6 =>
              some [D.str (D.toStr (List.getD ρ6 0 D.no))])
            (none))
        (none))
      (none))
    (none)) := (RUN_eq _ _ _).trans (by kernel_rfl)
/-! internal/stringslite.HasSuffix -/
theorem enter42 (s0 : List UInt8) (suffix1 : List UInt8) : RUN E 42 [D.str s0, D.str suffix1] =
    cond (bif cutOk (List.length s0) (some (IntKind.wrap IntKind.i64 ((↑(List.length s0) : Int) - (↑(List.length suffix1) : Int)))) none then true else bif bif decide ((↑(List.length suffix1) : Int) ≤ (↑(List.length s0) : Int)) then true else false then false else true)
  (some [D.bool (bif decide ((↑(List.length suffix1) : Int) ≤ (↑(List.length s0) : Int)) then decide (cutL s0 (some (IntKind.wrap IntKind.i64 ((↑(List.length s0) : Int) - (↑(List.length suffix1) : Int)))) none = suffix1) else false)])
  (none) := (RUN_eq _ _ _).trans (by kernel_rfl)
/-! strings.trimRightByte -/
def h44a (s0 : List UInt8) (c1 : Int) : St := mkSt 23 [(0, SV.val KT.str (D.str s0)), (1, SV.val (KT.int IntKind.u8) (D.int c1))] []
noncomputable def L44a (s0 : List UInt8) (c1 : Int) : R := LOOP E (RUN E) 44 Tryd.f44 [1, 0, 0] (h44a s0 c1)
theorem enter44 (s0 : List UInt8) (c1 : Int) : RUN E 44 [D.str s0, D.int c1] =
    L44a s0 c1 := (RUN_eq _ _ _).trans (by kernel_rfl)
theorem round44a (s0 : List UInt8) (c1 : Int) : L44a s0 c1 =
    cond (bif inb (IntKind.wrap IntKind.i64 ((↑(List.length s0) : Int) - 1)) (List.length s0) then true else bif bif decide (0 < (↑(List.length s0) : Int)) then true else false then false else true)
  (cond (bif decide (0 < (↑(List.length s0) : Int)) then decide ((↑(UInt8.toNat (List.getD s0 (Int.toNat (IntKind.wrap IntKind.i64 ((↑(List.length s0) : Int) - 1))) 0)) : Int) = c1) else false)
    (cond (cutOk (List.length s0) none (some (IntKind.wrap IntKind.i64 ((↑(List.length s0) : Int) - 1))))
      (L44a (cutL s0 none (some (IntKind.wrap IntKind.i64 ((↑(List.length s0) : Int) - 1)))) c1)
      (none))
    (some [D.str s0]))
  (none) := (LOOP_eq _ _ _ _ _ _).trans (by kernel_rfl)
/-! strings.trimLeftByte -/
def h43a (s0 : List UInt8) (c1 : Int) : St := mkSt 17 [(0, SV.val KT.str (D.str s0)), (1, SV.val (KT.int IntKind.u8) (D.int c1))] []
noncomputable def L43a (s0 : List UInt8) (c1 : Int) : R := LOOP E (RUN E) 43 Tryd.f43 [1, 0, 0] (h43a s0 c1)
theorem enter43 (s0 : List UInt8) (c1 : Int) : RUN E 43 [D.str s0, D.int c1] =
    L43a s0 c1 := (RUN_eq _ _ _).trans (by kernel_rfl)
theorem round43a (s0 : List UInt8) (c1 : Int) : L43a s0 c1 =
    cond (bif inb 0 (List.length s0) then true else bif bif decide (0 < (↑(List.length s0) : Int)) then true else false then false else true)
  (cond (bif decide (0 < (↑(List.length s0) : Int)) then decide ((↑(UInt8.toNat (List.getD s0 0 0)) : Int) = c1) else false)
    (cond (cutOk (List.length s0) (some 1) none)
      (L43a (cutL s0 (some 1) none) c1)
      (none))
    (some [D.str s0]))
  (none) := (LOOP_eq _ _ _ _ _ _).trans (by kernel_rfl)
end Go.Proofs.YthbncndefigidaaDoor.sl
