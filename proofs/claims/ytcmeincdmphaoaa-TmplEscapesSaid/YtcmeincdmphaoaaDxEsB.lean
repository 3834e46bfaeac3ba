/- A part of the proof. -/
import Derived.Test.YtcmeincdmphaoaaDxEsA
set_option linter.unusedVariables false
set_option linter.unusedSimpArgs false
namespace Go.Proofs.Ytcmeincdmphaoaa.es
open Go.Proofs.Ytcmeincdmphaoaa.DS

/-! masthead/mastlaw1.TmplEscapes -/
theorem enter3 (s0 : List UInt8) (first1 : Bool) : RUN E 3 [D.str s0, D.bool first1] =
 opt (cond (bif decide (200000 < (↑(List.length s0) : Int)) then false else true)
 (RUN E 4 [D.str s0, D.bool first1])
 (some [])) fun ρ0 =>
 opt (cond (bif decide (200000 < (↑(List.length s0) : Int)) then false else true)
 (RUN E 5 [D.str s0, D.bool first1])
 (some [])) fun ρ1 =>
 some [D.bool (bif decide (200000 < (↑(List.length s0) : Int)) then true else decide (D.toStr (List.getD ρ0 0 D.no) = D.toStr (List.getD ρ1 0 D.no)))] := (RUN_eq _ _ _).trans (by kernel_rfl)
/-! masthead/tmpl.EscapeAddr -/
def h4a (s0 : List UInt8) (first1 : Bool) (i6 : Int) (out5s : List D) : St := mkSt 57 [(0, SV.val KT.str (D.str s0)), (1, SV.val KT.bool (D.bool first1)), (5, SV.own 5), (6, SV.val (KT.int IntKind.i64) (D.int i6))] [(5, Obj.arr 5 out5s)]
noncomputable def L4a (s0 : List UInt8) (first1 : Bool) (i6 : Int) (out5s : List D) : R := LOOP E (RUN E) 4 Try.f4 [1, 1, 1, 0, 1, 0] (h4a s0 first1 i6 out5s)
theorem enter4 (s0 : List UInt8) (first1 : Bool) : RUN E 4 [D.str s0, D.bool first1] =
 opt (cond (bif first1 then true else false)
 (RUN E 6 [D.str s0])
 (some [])) fun ρ0 =>
 cond (bif first1 then D.toBool (List.getD ρ0 0 D.no) else false)
 (some [D.str (([35] : List UInt8))])
 (L4a s0 first1 0 []) := (RUN_eq _ _ _).trans (by kernel_rfl)
theorem round4a (s0 : List UInt8) (first1 : Bool) (i6 : Int) (out5s : List D) : L4a s0 first1 i6 out5s =
 cond (decide (i6 < (↑(List.length s0) : Int)))
 (cond (inb i6 (List.length s0))
 (opt (RUN E 7 [D.int (↑(UInt8.toNat (List.getD s0 (Int.toNat i6) 0)) : Int)]) fun ρ2 =>
 opt (cond (bif D.toBool (List.getD ρ2 0 D.no) then false else true)
 (RUN E 8 [D.int (↑(UInt8.toNat (List.getD s0 (Int.toNat i6) 0)) : Int)])
 (some [])) fun ρ3 =>
 opt (cond (bif bif D.toBool (List.getD ρ2 0 D.no) then true else D.toBool (List.getD ρ3 0 D.no) then false else true)
 (RUN E 9 [D.str (([45, 95, 46, 126] : List UInt8)), D.int (↑(UInt8.toNat (List.getD s0 (Int.toNat i6) 0)) : Int)])
 (some [])) fun ρ4 =>
 opt (cond (bif bif first1 then true else false then bif bif bif D.toBool (List.getD ρ2 0 D.no) then true else D.toBool (List.getD ρ3 0 D.no) then true else decide (0 ≤ D.toInt (List.getD ρ4 0 D.no)) then false else true else false)
 (RUN E 9 [D.str (([58, 47, 63, 35, 61, 38, 37, 43, 44, 64] : List UInt8)), D.int (↑(UInt8.toNat (List.getD s0 (Int.toNat i6) 0)) : Int)])
 (some [])) fun ρ5 =>
 cond (bif bif bif D.toBool (List.getD ρ2 0 D.no) then true else D.toBool (List.getD ρ3 0 D.no) then true else decide (0 ≤ D.toInt (List.getD ρ4 0 D.no)) then true else bif first1 then decide (0 ≤ D.toInt (List.getD ρ5 0 D.no)) else false)
 (cond (fitL (List.length out5s) (List.length [D.int (↑(UInt8.toNat (List.getD s0 (Int.toNat i6) 0)) : Int)]))
 (L4a s0 first1 (IntKind.wrap IntKind.i64 (i6 + 1)) (out5s ++ [D.int (↑(UInt8.toNat (List.getD s0 (Int.toNat i6) 0)) : Int)]))
 (none))
 (cond (inb (Int.fdiv (↑(UInt8.toNat (List.getD s0 (Int.toNat i6) 0)) : Int) (2 ^ min (Int.toNat 4) (IntKind.bits IntKind.u8))) (List.length (([48, 49, 50, 51, 52, 53, 54, 55, 56, 57, 65, 66, 67, 68, 69, 70] : List UInt8))))
 (cond (inb (IntKind.wrap IntKind.u8 (↑(BitVec.toNat (BitVec.ofInt (IntKind.bits IntKind.u8) (↑(UInt8.toNat (List.getD s0 (Int.toNat i6) 0)) : Int) &&& BitVec.ofInt (IntKind.bits IntKind.u8) 15)) : Int)) (List.length (([48, 49, 50, 51, 52, 53, 54, 55, 56, 57, 65, 66, 67, 68, 69, 70] : List UInt8))))
 (cond (fitL (List.length out5s) (List.length [D.int 37, D.int (↑(UInt8.toNat (List.getD (([48, 49, 50, 51, 52, 53, 54, 55, 56, 57, 65, 66, 67, 68, 69, 70] : List UInt8)) (Int.toNat (Int.fdiv (↑(UInt8.toNat (List.getD s0 (Int.toNat i6) 0)) : Int) (2 ^ min (Int.toNat 4) (IntKind.bits IntKind.u8)))) 0)) : Int), D.int (↑(UInt8.toNat (List.getD (([48, 49, 50, 51, 52, 53, 54, 55, 56, 57, 65, 66, 67, 68, 69, 70] : List UInt8)) (Int.toNat (IntKind.wrap IntKind.u8 (↑(BitVec.toNat (BitVec.ofInt (IntKind.bits IntKind.u8) (↑(UInt8.toNat (List.getD s0 (Int.toNat i6) 0)) : Int) &&& BitVec.ofInt (IntKind.bits IntKind.u8) 15)) : Int))) 0)) : Int)]))
 (L4a s0 first1 (IntKind.wrap IntKind.i64 (i6 + 1)) (out5s ++ [D.int 37, D.int (↑(UInt8.toNat (List.getD (([48, 49, 50, 51, 52, 53, 54, 55, 56, 57, 65, 66, 67, 68, 69, 70] : List UInt8)) (Int.toNat (Int.fdiv (↑(UInt8.toNat (List.getD s0 (Int.toNat i6) 0)) : Int) (2 ^ min (Int.toNat 4) (IntKind.bits IntKind.u8)))) 0)) : Int), D.int (↑(UInt8.toNat (List.getD (([48, 49, 50, 51, 52, 53, 54, 55, 56, 57, 65, 66, 67, 68, 69, 70] : List UInt8)) (Int.toNat (IntKind.wrap IntKind.u8 (↑(BitVec.toNat (BitVec.ofInt (IntKind.bits IntKind.u8) (↑(UInt8.toNat (List.getD s0 (Int.toNat i6) 0)) : Int) &&& BitVec.ofInt (IntKind.bits IntKind.u8) 15)) : Int))) 0)) : Int)]))
 (none))
 (none))
 (none)))
 (none))
 (opt (RUN E 10 [D.str (dBytes out5s)]) fun ρ1 =>
 some [D.str (D.toStr (List.getD ρ1 0 D.no))]) := (LOOP_eq _ _ _ _ _ _).trans (by kernel_rfl)
/-! masthead/mastref1.AddrEscaped -/
def h5a (s0 : List UInt8) (first1 : Bool) (out5 : List UInt8) (i6 : Int) : St := mkSt 67 [(0, SV.val KT.str (D.str s0)), (1, SV.val KT.bool (D.bool first1)), (5, SV.val KT.str (D.str out5)), (6, SV.val (KT.int IntKind.i64) (D.int i6))] []
noncomputable def L5a (s0 : List UInt8) (first1 : Bool) (out5 : List UInt8) (i6 : Int) : R := LOOP E (RUN E) 5 Try.f5 [1, 1, 1, 0, 1, 0] (h5a s0 first1 out5 i6)
theorem enter5 (s0 : List UInt8) (first1 : Bool) : RUN E 5 [D.str s0, D.bool first1] =
 opt (cond (bif first1 then true else false)
 (RUN E 11 [D.str s0])
 (some [])) fun ρ0 =>
 cond (bif first1 then bif D.toBool (List.getD ρ0 0 D.no) then false else true else false)
 (some [D.str (([35] : List UInt8))])
 (L5a s0 first1 (([] : List UInt8)) 0) := (RUN_eq _ _ _).trans (by kernel_rfl)
theorem round5a (s0 : List UInt8) (first1 : Bool) (out5 : List UInt8) (i6 : Int) : L5a s0 first1 out5 i6 =
 cond (decide (i6 < (↑(List.length s0) : Int)))
 (cond (inb i6 (List.length s0))
 (opt (RUN E 12 [D.int (↑(UInt8.toNat (List.getD s0 (Int.toNat i6) 0)) : Int)]) fun ρ2 =>
 opt (cond (bif D.toBool (List.getD ρ2 0 D.no) then false else true)
 (RUN E 13 [D.int (↑(UInt8.toNat (List.getD s0 (Int.toNat i6) 0)) : Int)])
 (some [])) fun ρ3 =>
 opt (cond (bif bif D.toBool (List.getD ρ2 0 D.no) then true else D.toBool (List.getD ρ3 0 D.no) then false else true)
 (RUN E 9 [D.str (([45, 95, 46, 126] : List UInt8)), D.int (↑(UInt8.toNat (List.getD s0 (Int.toNat i6) 0)) : Int)])
 (some [])) fun ρ4 =>
 opt (cond (bif bif first1 then true else false then bif bif bif D.toBool (List.getD ρ2 0 D.no) then true else D.toBool (List.getD ρ3 0 D.no) then true else decide (0 ≤ D.toInt (List.getD ρ4 0 D.no)) then false else true else false)
 (RUN E 9 [D.str (([58, 47, 63, 35, 61, 38, 37, 43, 44, 64] : List UInt8)), D.int (↑(UInt8.toNat (List.getD s0 (Int.toNat i6) 0)) : Int)])
 (some [])) fun ρ5 =>
 cond (bif bif bif D.toBool (List.getD ρ2 0 D.no) then true else D.toBool (List.getD ρ3 0 D.no) then true else decide (0 ≤ D.toInt (List.getD ρ4 0 D.no)) then true else bif first1 then decide (0 ≤ D.toInt (List.getD ρ5 0 D.no)) else false)
 (cond (cutOk (List.length s0) (some i6) (some (IntKind.wrap IntKind.i64 (i6 + 1))))
 (cond (decide (List.length out5 + List.length (cutL s0 (some i6) (some (IntKind.wrap IntKind.i64 (i6 + 1)))) ≤ lim))
 (L5a s0 first1 (out5 ++ cutL s0 (some i6) (some (IntKind.wrap IntKind.i64 (i6 + 1)))) (IntKind.wrap IntKind.i64 (i6 + 1)))
 (none))
 (none))
 (cond (cutOk (List.length (([48, 49, 50, 51, 52, 53, 54, 55, 56, 57, 65, 66, 67, 68, 69, 70] : List UInt8))) (some (IntKind.wrap IntKind.u8 (Int.tdiv (↑(UInt8.toNat (List.getD s0 (Int.toNat i6) 0)) : Int) 16))) (some (IntKind.wrap IntKind.u8 (IntKind.wrap IntKind.u8 (Int.tdiv (↑(UInt8.toNat (List.getD s0 (Int.toNat i6) 0)) : Int) 16) + 1))))
 (cond (decide (List.length (([37] : List UInt8)) + List.length (cutL (([48, 49, 50, 51, 52, 53, 54, 55, 56, 57, 65, 66, 67, 68, 69, 70] : List UInt8)) (some (IntKind.wrap IntKind.u8 (Int.tdiv (↑(UInt8.toNat (List.getD s0 (Int.toNat i6) 0)) : Int) 16))) (some (IntKind.wrap IntKind.u8 (IntKind.wrap IntKind.u8 (Int.tdiv (↑(UInt8.toNat (List.getD s0 (Int.toNat i6) 0)) : Int) 16) + 1)))) ≤ lim))
 (cond (cutOk (List.length (([48, 49, 50, 51, 52, 53, 54, 55, 56, 57, 65, 66, 67, 68, 69, 70] : List UInt8))) (some (Int.tmod (↑(UInt8.toNat (List.getD s0 (Int.toNat i6) 0)) : Int) 16)) (some (IntKind.wrap IntKind.u8 (Int.tmod (↑(UInt8.toNat (List.getD s0 (Int.toNat i6) 0)) : Int) 16 + 1))))
 (cond (decide (List.length (([37] : List UInt8) ++ cutL (([48, 49, 50, 51, 52, 53, 54, 55, 56, 57, 65, 66, 67, 68, 69, 70] : List UInt8)) (some (IntKind.wrap IntKind.u8 (Int.tdiv (↑(UInt8.toNat (List.getD s0 (Int.toNat i6) 0)) : Int) 16))) (some (IntKind.wrap IntKind.u8 (IntKind.wrap IntKind.u8 (Int.tdiv (↑(UInt8.toNat (List.getD s0 (Int.toNat i6) 0)) : Int) 16) + 1)))) + List.length (cutL (([48, 49, 50, 51, 52, 53, 54, 55, 56, 57, 65, 66, 67, 68, 69, 70] : List UInt8)) (some (Int.tmod (↑(UInt8.toNat (List.getD s0 (Int.toNat i6) 0)) : Int) 16)) (some (IntKind.wrap IntKind.u8 (Int.tmod (↑(UInt8.toNat (List.getD s0 (Int.toNat i6) 0)) : Int) 16 + 1)))) ≤ lim))
 (cond (decide (List.length out5 + List.length (([37] : List UInt8) ++ cutL (([48, 49, 50, 51, 52, 53, 54, 55, 56, 57, 65, 66, 67, 68, 69, 70] : List UInt8)) (some (IntKind.wrap IntKind.u8 (Int.tdiv (↑(UInt8.toNat (List.getD s0 (Int.toNat i6) 0)) : Int) 16))) (some (IntKind.wrap IntKind.u8 (IntKind.wrap IntKind.u8 (Int.tdiv (↑(UInt8.toNat (List.getD s0 (Int.toNat i6) 0)) : Int) 16) + 1))) ++ cutL (([48, 49, 50, 51, 52, 53, 54, 55, 56, 57, 65, 66, 67, 68, 69, 70] : List UInt8)) (some (Int.tmod (↑(UInt8.toNat (List.getD s0 (Int.toNat i6) 0)) : Int) 16)) (some (IntKind.wrap IntKind.u8 (Int.tmod (↑(UInt8.toNat (List.getD s0 (Int.toNat i6) 0)) : Int) 16 + 1)))) ≤ lim))
 (L5a s0 first1 (out5 ++ (([37] : List UInt8) ++ cutL (([48, 49, 50, 51, 52, 53, 54, 55, 56, 57, 65, 66, 67, 68, 69, 70] : List UInt8)) (some (IntKind.wrap IntKind.u8 (Int.tdiv (↑(UInt8.toNat (List.getD s0 (Int.toNat i6) 0)) : Int) 16))) (some (IntKind.wrap IntKind.u8 (IntKind.wrap IntKind.u8 (Int.tdiv (↑(UInt8.toNat (List.getD s0 (Int.toNat i6) 0)) : Int) 16) + 1))) ++ cutL (([48, 49, 50, 51, 52, 53, 54, 55, 56, 57, 65, 66, 67, 68, 69, 70] : List UInt8)) (some (Int.tmod (↑(UInt8.toNat (List.getD s0 (Int.toNat i6) 0)) : Int) 16)) (some (IntKind.wrap IntKind.u8 (Int.tmod (↑(UInt8.toNat (List.getD s0 (Int.toNat i6) 0)) : Int) 16 + 1))))) (IntKind.wrap IntKind.i64 (i6 + 1)))
 (none))
 (none))
 (none))
 (none))
 (none)))
 (none))
 (opt (RUN E 14 [D.str out5]) fun ρ1 =>
 some [D.str (D.toStr (List.getD ρ1 0 D.no))]) := (LOOP_eq _ _ _ _ _ _).trans (by kernel_rfl)
/-! masthead/tmpl.badScheme -/
theorem enter6 (s0 : List UInt8) : RUN E 6 [D.str s0] =
 opt (RUN E 15 [D.str s0, D.str (([58, 47, 63, 35] : List UInt8))]) fun ρ0 =>
 cond (bif inb (D.toInt (List.getD ρ0 0 D.no)) (List.length s0) then true else bif bif decide (D.toInt (List.getD ρ0 0 D.no) < 0) then false else true then false else true)
 (cond (bif decide (D.toInt (List.getD ρ0 0 D.no) < 0) then true else bif decide ((↑(UInt8.toNat (List.getD s0 (Int.toNat (D.toInt (List.getD ρ0 0 D.no))) 0)) : Int) = 58) then false else true)
 (some [D.bool false])
 (cond (cutOk (List.length s0) none (some (D.toInt (List.getD ρ0 0 D.no))))
 (opt (RUN E 16 [D.str (cutL s0 none (some (D.toInt (List.getD ρ0 0 D.no))))]) fun ρ4 =>
 cond (decide (D.toStr (List.getD ρ4 0 D.no) = ([104, 116, 116, 112] : List UInt8)))
 (cond (decide (D.toStr (List.getD ρ4 0 D.no) = ([104, 116, 116, 112] : List UInt8)))
 (some [D.bool false])
 (some [D.bool true]))
 (cond (decide (D.toStr (List.getD ρ4 0 D.no) = ([104, 116, 116, 112, 115] : List UInt8)))
 (cond (decide (D.toStr (List.getD ρ4 0 D.no) = ([104, 116, 116, 112, 115] : List UInt8)))
 (some [D.bool false])
 (some [D.bool true]))
 (cond (decide (D.toStr (List.getD ρ4 0 D.no) = ([109, 97, 105, 108, 116, 111] : List UInt8)))
 (some [D.bool false])
 (some [D.bool true]))))
 (none)))
 (none) := (RUN_eq _ _ _).trans (by kernel_rfl)
/-! masthead/tmpl.isLetter -/
theorem enter7 (c0 : Int) : RUN E 7 [D.int c0] =
 opt (RUN E 17 [D.int c0]) fun ρ0 =>
 some [D.bool (bif D.toBool (List.getD ρ0 0 D.no) then true else bif decide (65 ≤ c0) then decide (c0 ≤ 90) else false)] := (RUN_eq _ _ _).trans (by kernel_rfl)
/-! masthead/tmpl.isDigit -/
theorem enter8 (c0 : Int) : RUN E 8 [D.int c0] =
 some [D.bool (bif decide (48 ≤ c0) then decide (c0 ≤ 57) else false)] := (RUN_eq _ _ _).trans (by kernel_rfl)
/-! masthead/mastref1.SafeScheme -/
theorem enter11 (s0 : List UInt8) : RUN E 11 [D.str s0] =
 opt (RUN E 9 [D.str s0, D.int 58]) fun ρ0 =>
 opt (RUN E 15 [D.str s0, D.str (([47, 63, 35] : List UInt8))]) fun ρ1 =>
 cond (bif decide (D.toInt (List.getD ρ0 0 D.no) < 0) then true else bif decide (0 ≤ D.toInt (List.getD ρ1 0 D.no)) then decide (D.toInt (List.getD ρ1 0 D.no) < D.toInt (List.getD ρ0 0 D.no)) else false)
 (some [D.bool true])
 (cond (cutOk (List.length s0) none (some (D.toInt (List.getD ρ0 0 D.no))))
 (opt (RUN E 21 [D.str (cutL s0 none (some (D.toInt (List.getD ρ0 0 D.no))))]) fun ρ4 =>
 some [D.bool (bif bif decide (D.toStr (List.getD ρ4 0 D.no) = ([104, 116, 116, 112] : List UInt8)) then true else decide (D.toStr (List.getD ρ4 0 D.no) = ([104, 116, 116, 112, 115] : List UInt8)) then true else decide (D.toStr (List.getD ρ4 0 D.no) = ([109, 97, 105, 108, 116, 111] : List UInt8)))])
 (none)) := (RUN_eq _ _ _).trans (by kernel_rfl)
/-! masthead/mastref1.isLetter -/
theorem enter12 (c0 : Int) : RUN E 12 [D.int c0] =
 some [D.bool (bif bif decide (97 ≤ c0) then decide (c0 ≤ 122) else false then true else bif decide (65 ≤ c0) then decide (c0 ≤ 90) else false)] := (RUN_eq _ _ _).trans (by kernel_rfl)
/-! masthead/mastref1.isDigit -/
theorem enter13 (c0 : Int) : RUN E 13 [D.int c0] =
 some [D.bool (bif decide (48 ≤ c0) then decide (c0 ≤ 57) else false)] := (RUN_eq _ _ _).trans (by kernel_rfl)
/-! masthead/mastref1.Escaped -/
def h14a (s0 : List UInt8) (out3 : List UInt8) (i4 : Int) : St := mkSt 38 [(0, SV.val KT.str (D.str s0)), (3, SV.val KT.str (D.str out3)), (4, SV.val (KT.int IntKind.i64) (D.int i4))] []
noncomputable def L14a (s0 : List UInt8) (out3 : List UInt8) (i4 : Int) : R := LOOP E (RUN E) 14 Try.f14 [1, 1, 0, 1, 0] (h14a s0 out3 i4)
theorem enter14 (s0 : List UInt8) : RUN E 14 [D.str s0] =
 L14a s0 (([] : List UInt8)) 0 := (RUN_eq _ _ _).trans (by kernel_rfl)
theorem round14a (s0 : List UInt8) (out3 : List UInt8) (i4 : Int) : L14a s0 out3 i4 =
 cond (decide (i4 < (↑(List.length s0) : Int)))
 (cond (inb i4 (List.length s0))
 (cond (decide ((↑(UInt8.toNat (List.getD s0 (Int.toNat i4) 0)) : Int) = 38))
 (cond (decide (List.length out3 + List.length (([38, 97, 109, 112, 59] : List UInt8)) ≤ lim))
 (L14a s0 (out3 ++ ([38, 97, 109, 112, 59] : List UInt8)) (IntKind.wrap IntKind.i64 (i4 + 1)))
 (none))
 (cond (decide ((↑(UInt8.toNat (List.getD s0 (Int.toNat i4) 0)) : Int) = 60))
 (cond (decide (List.length out3 + List.length (([38, 108, 116, 59] : List UInt8)) ≤ lim))
 (L14a s0 (out3 ++ ([38, 108, 116, 59] : List UInt8)) (IntKind.wrap IntKind.i64 (i4 + 1)))
 (none))
 (cond (decide ((↑(UInt8.toNat (List.getD s0 (Int.toNat i4) 0)) : Int) = 62))
 (cond (decide (List.length out3 + List.length (([38, 103, 116, 59] : List UInt8)) ≤ lim))
 (L14a s0 (out3 ++ ([38, 103, 116, 59] : List UInt8)) (IntKind.wrap IntKind.i64 (i4 + 1)))
 (none))
 (cond (decide ((↑(UInt8.toNat (List.getD s0 (Int.toNat i4) 0)) : Int) = 34))
 (cond (decide (List.length out3 + List.length (([38, 113, 117, 111, 116, 59] : List UInt8)) ≤ lim))
 (L14a s0 (out3 ++ ([38, 113, 117, 111, 116, 59] : List UInt8)) (IntKind.wrap IntKind.i64 (i4 + 1)))
 (none))
 (cond (cutOk (List.length s0) (some i4) (some (IntKind.wrap IntKind.i64 (i4 + 1))))
 (cond (decide (List.length out3 + List.length (cutL s0 (some i4) (some (IntKind.wrap IntKind.i64 (i4 + 1)))) ≤ lim))
 (L14a s0 (out3 ++ cutL s0 (some i4) (some (IntKind.wrap IntKind.i64 (i4 + 1)))) (IntKind.wrap IntKind.i64 (i4 + 1)))
 (none))
 (none))))))
 (none))
 (some [D.str out3]) := (LOOP_eq _ _ _ _ _ _).trans (by kernel_rfl)
/-! masthead/tmpl.small -/
def h16a (v9 : Int) (v10 : Int) (v7s : List D) : St := mkSt 29 [(3, SV.own 7), (8, SV.own 7), (9, SV.val (KT.int IntKind.i64) (D.int v9)), (10, SV.val (KT.int IntKind.i64) (D.int v10))] [(7, Obj.arr 5 v7s)]
noncomputable def L16a (v9 : Int) (v10 : Int) (v7s : List D) : R := LOOP E (RUN E) 16 Try.f16 [1, 1, 0, 1, 0] (h16a v9 v10 v7s)
theorem enter16 (s0 : List UInt8) : RUN E 16 [D.str s0] =
 L16a ((↑(List.length (bytesD s0)) : Int)) 0 (bytesD s0) := (RUN_eq _ _ _).trans (by kernel_rfl)
theorem round16a (v9 : Int) (v10 : Int) (v7s : List D) : L16a v9 v10 v7s =
 cond (decide (v10 < v9))
 (cond (inb v10 (List.length v7s))
 (cond (bif decide (65 ≤ D.toInt (List.getD v7s (Int.toNat v10) D.no)) then decide (D.toInt (List.getD v7s (Int.toNat v10) D.no) ≤ 90) else false)
 (cond (inb v10 (List.length v7s))
 (L16a v9 (IntKind.wrap IntKind.i64 (v10 + 1)) (List.set v7s (Int.toNat v10) (D.int (IntKind.wrap IntKind.u8 (D.toInt (List.getD v7s (Int.toNat v10) D.no) + 32)))))
 (none))
 (L16a v9 (IntKind.wrap IntKind.i64 (v10 + 1)) v7s))
 (none))
 (some [D.str (dBytes v7s)]) := (LOOP_eq _ _ _ _ _ _).trans (by kernel_rfl)
/-! masthead/tmpl.isSmall -/
theorem enter17 (c0 : Int) : RUN E 17 [D.int c0] =
 some [D.bool (bif decide (97 ≤ c0) then decide (c0 ≤ 122) else false)] := (RUN_eq _ _ _).trans (by kernel_rfl)
/-! masthead/mastref1.lower -/
def h21a (v9 : Int) (v10 : Int) (v7s : List D) : St := mkSt 29 [(3, SV.own 7), (8, SV.own 7), (9, SV.val (KT.int IntKind.i64) (D.int v9)), (10, SV.val (KT.int IntKind.i64) (D.int v10))] [(7, Obj.arr 5 v7s)]
noncomputable def L21a (v9 : Int) (v10 : Int) (v7s : List D) : R := LOOP E (RUN E) 21 Try.f21 [1, 1, 0, 1, 0] (h21a v9 v10 v7s)
theorem enter21 (s0 : List UInt8) : RUN E 21 [D.str s0] =
 L21a ((↑(List.length (bytesD s0)) : Int)) 0 (bytesD s0) := (RUN_eq _ _ _).trans (by kernel_rfl)
theorem round21a (v9 : Int) (v10 : Int) (v7s : List D) : L21a v9 v10 v7s =
 cond (decide (v10 < v9))
 (cond (inb v10 (List.length v7s))
 (cond (bif decide (65 ≤ D.toInt (List.getD v7s (Int.toNat v10) D.no)) then decide (D.toInt (List.getD v7s (Int.toNat v10) D.no) ≤ 90) else false)
 (cond (inb v10 (List.length v7s))
 (L21a v9 (IntKind.wrap IntKind.i64 (v10 + 1)) (List.set v7s (Int.toNat v10) (D.int (IntKind.wrap IntKind.u8 (D.toInt (List.getD v7s (Int.toNat v10) D.no) + 32)))))
 (none))
 (L21a v9 (IntKind.wrap IntKind.i64 (v10 + 1)) v7s))
 (none))
 (some [D.str (dBytes v7s)]) := (LOOP_eq _ _ _ _ _ _).trans (by kernel_rfl)
end Go.Proofs.Ytcmeincdmphaoaa.es
