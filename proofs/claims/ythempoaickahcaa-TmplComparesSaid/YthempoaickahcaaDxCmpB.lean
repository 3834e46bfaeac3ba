import Derived.Test.YthempoaickahcaaDxCmpA
set_option linter.unusedVariables false
set_option linter.unusedSimpArgs false
namespace Go.Proofs.Ythempoaickahcaa.tm
open Go.Proofs.Ythempoaickahcaa.DS

/-! masthead/mastlaw1.TmplCompares -/
theorem enter3 (a0 : D) (b1 : D) : RUN E 3 [a0, b1] =
    opt (RUN E 6 [a0, b1]) fun r0 =>
  opt (RUN E 7 [a0, b1]) fun r1 =>
    some [D.bool (bif decide (D.toInt (List.getD r0 0 D.no) = D.toInt (List.getD r1 0 D.no)) then decide (D.toInt (List.getD r0 1 D.no) = D.toInt (List.getD r1 1 D.no)) else false)] := (RUN_eq _ _ _).trans (by kernel_rfl)
/-! masthead/tmpl.Compare -/
theorem enter6 (a0 : D) (b1 : D) : RUN E 6 [a0, b1] =
    cond (bif decide (D.toInt (D.cell a0 0) = 0) then decide (D.toInt (D.cell b1 0) = 0) else false)
  (some [D.int 0, D.int 0])
  (cond (bif decide (D.toInt (D.cell a0 0) = 1) then decide (D.toInt (D.cell b1 0) = 1) else false)
    (opt (RUN E 14 [D.bool (bif !D.toBool (D.cell a0 1) then D.toBool (D.cell b1 1) else false), D.bool (bif D.toBool (D.cell a0 1) then !D.toBool (D.cell b1 1) else false)]) fun r2 =>
      some [D.int (D.toInt (List.getD r2 0 D.no)), D.int 0])
    (cond (bif decide (D.toInt (D.cell a0 0) = 2) then decide (D.toInt (D.cell b1 0) = 2) else false)
      (cond (bif decide (D.toInt (D.cell a0 0) = 2) then decide (D.toInt (D.cell b1 0) = 2) else false)
        (opt (RUN E 14 [D.bool (decide (D.toInt (D.cell a0 2) < D.toInt (D.cell b1 2))), D.bool (decide (D.toInt (D.cell b1 2) < D.toInt (D.cell a0 2)))]) fun r4 =>
          some [D.int (D.toInt (List.getD r4 0 D.no)), D.int 0])
        (opt (RUN E 15 [a0]) fun r4 =>
          opt (cond (bif D.toBool (List.getD r4 0 D.no) then true else false)
              (RUN E 15 [b1])
              (some [])) fun r5 =>
            cond (bif D.toBool (List.getD r4 0 D.no) then D.toBool (List.getD r5 0 D.no) else false)
              (opt (RUN E 16 [D.str (D.toStr (D.cell a0 3)), D.str (D.toStr (D.cell b1 3))]) fun r7 =>
                some [D.int (D.toInt (List.getD r7 0 D.no)), D.int 0])
              (some [D.int 0, D.int 10])))
      (cond (bif decide (D.toInt (D.cell a0 0) = 4) then decide (D.toInt (D.cell b1 0) = 4) else false)
        (opt (RUN E 14 [D.bool (decide (D.toInt (D.cell a0 2) < D.toInt (D.cell b1 2))), D.bool (decide (D.toInt (D.cell b1 2) < D.toInt (D.cell a0 2)))]) fun r4 =>
          some [D.int (D.toInt (List.getD r4 0 D.no)), D.int 0])
        (opt (RUN E 15 [a0]) fun r4 =>
          opt (cond (bif D.toBool (List.getD r4 0 D.no) then true else false)
              (RUN E 15 [b1])
              (some [])) fun r5 =>
            cond (bif D.toBool (List.getD r4 0 D.no) then D.toBool (List.getD r5 0 D.no) else false)
              (opt (RUN E 16 [D.str (D.toStr (D.cell a0 3)), D.str (D.toStr (D.cell b1 3))]) fun r7 =>
                some [D.int (D.toInt (List.getD r7 0 D.no)), D.int 0])
              (some [D.int 0, D.int 10]))))) := (RUN_eq _ _ _).trans (by kernel_rfl)
/-! masthead/mastref1.Compared -/
theorem enter7 (a0 : D) (b1 : D) : RUN E 7 [a0, b1] =
    opt (RUN E 17 [a0]) fun r0 =>
  opt (cond (bif D.toBool (List.getD r0 0 D.no) then true else false)
      (RUN E 17 [b1])
      (some [])) fun r1 =>
    cond (bif D.toBool (List.getD r0 0 D.no) then D.toBool (List.getD r1 0 D.no) else false)
      (opt (RUN E 16 [D.str (D.toStr (D.cell a0 3)), D.str (D.toStr (D.cell b1 3))]) fun r3 =>
        some [D.int (D.toInt (List.getD r3 0 D.no)), D.int 0])
      (cond (bif decide (D.toInt (D.cell a0 0) = D.toInt (D.cell b1 0)) then false else true)
        (some [D.int 0, D.int 10])
        (cond (decide (D.toInt (D.cell a0 0) = 0))
          (some [D.int 0, D.int 0])
          (cond (decide (D.toInt (D.cell a0 0) = 2))
            (cond (decide (D.toInt (D.cell a0 0) = 2))
              (opt (RUN E 18 [D.int (D.toInt (D.cell a0 2)), D.int (D.toInt (D.cell b1 2))]) fun r7 =>
                some [D.int (D.toInt (List.getD r7 0 D.no)), D.int 0])
              (cond (bif decide (D.toInt (D.cell a0 0) = 1) then D.toBool (D.cell a0 1) == D.toBool (D.cell b1 1) else false)
                (some [D.int 0, D.int 0])
                (cond (bif decide (D.toInt (D.cell a0 0) = 1) then D.toBool (D.cell b1 1) else false)
                  (some [D.int (-1), D.int 0])
                  (cond (decide (D.toInt (D.cell a0 0) = 1))
                    (some [D.int 1, D.int 0])
                    (some [D.int 0, D.int 10])))))
            (cond (decide (D.toInt (D.cell a0 0) = 4))
              (opt (RUN E 18 [D.int (D.toInt (D.cell a0 2)), D.int (D.toInt (D.cell b1 2))]) fun r7 =>
                some [D.int (D.toInt (List.getD r7 0 D.no)), D.int 0])
              (cond (bif decide (D.toInt (D.cell a0 0) = 1) then D.toBool (D.cell a0 1) == D.toBool (D.cell b1 1) else false)
                (some [D.int 0, D.int 0])
                (cond (bif decide (D.toInt (D.cell a0 0) = 1) then D.toBool (D.cell b1 1) else false)
                  (some [D.int (-1), D.int 0])
                  (cond (decide (D.toInt (D.cell a0 0) = 1))
                    (some [D.int 1, D.int 0])
                    (some [D.int 0, D.int 10])))))))) := (RUN_eq _ _ _).trans (by kernel_rfl)
/-! masthead/tmpl.sign -/
theorem enter14 (less0 : Bool) (greater1 : Bool) : RUN E 14 [D.bool less0, D.bool greater1] =
    cond (less0)
  (some [D.int (-1)])
  (cond (greater1)
    (some [D.int 1])
    (some [D.int 0])) := (RUN_eq _ _ _).trans (by kernel_rfl)
/-! masthead/tmpl.isText -/
theorem enter15 (v0 : D) : RUN E 15 [v0] =
    some [D.bool (bif decide (D.toInt (D.cell v0 0) = 3) then true else decide (D.toInt (D.cell v0 0) = 7))] := (RUN_eq _ _ _).trans (by kernel_rfl)
/-! masthead/mastref1.isString -/
theorem enter17 (v0 : D) : RUN E 17 [v0] =
    some [D.bool (bif decide (D.toInt (D.cell v0 0) = 3) then true else decide (D.toInt (D.cell v0 0) = 7))] := (RUN_eq _ _ _).trans (by kernel_rfl)
/-! masthead/mastref1.order -/
theorem enter18 (a0 : Int) (b1 : Int) : RUN E 18 [D.int a0, D.int b1] =
    cond (decide (a0 < b1))
  (some [D.int (-1)])
  (cond (decide (b1 < a0))
    (some [D.int 1])
    (some [D.int 0])) := (RUN_eq _ _ _).trans (by kernel_rfl)
/-! strings.Compare -/
theorem enter16 (a0 : List UInt8) (b1 : List UInt8) : RUN E 16 [D.str a0, D.str b1] =
    some [D.int (Lib.compareBytes a0 b1)] := (RUN_eq _ _ _).trans (by kernel_rfl)
end Go.Proofs.Ythempoaickahcaa.tm
