/- A part of the proof. -/
import Derived.Test.YtbinmfenhbpdnaaDxJoinsA
set_option linter.unusedVariables false
set_option linter.unusedSimpArgs false
namespace Go.Proofs.Ytbinmfenhbpdnaa.tj
open Go.Proofs.Ytbinmfenhbpdnaa.DS

/-! masthead/mastlaw1.TmplJoins -/
theorem enter4 (l0 : List D) : RUN E 4 [D.list l0] =
    opt (RUN E 12 [D.list l0]) fun ρ0 =>
  opt (RUN E 13 [D.list l0]) fun ρ1 =>
    opt (cond (bif decide (D.toStr (List.getD ρ0 0 D.no) = D.toStr (List.getD ρ1 0 D.no)) then true else false)
        (RUN E 14 [D.list l0])
        (some [])) fun ρ2 =>
      opt (cond (bif decide (D.toStr (List.getD ρ0 0 D.no) = D.toStr (List.getD ρ1 0 D.no)) then true else false)
          (RUN E 15 [D.list l0])
          (some [])) fun ρ3 =>
        some [D.bool (bif decide (D.toStr (List.getD ρ0 0 D.no) = D.toStr (List.getD ρ1 0 D.no)) then decide (D.toStr (List.getD ρ2 0 D.no) = D.toStr (List.getD ρ3 0 D.no)) else false)] := (RUN_eq _ _ _).trans (by kernel_rfl)
/-! masthead/tmpl.String -/
def h12a (v6 : List D) (v7 : Int) (v8 : Int) (x700193s : List D) : St := mkSt 17 [(3, SV.bptr 3 47 0 (KT.agg 47)), (6, SV.val (KT.slice 49) (D.list v6)), (7, SV.val (KT.int IntKind.i64) (D.int v7)), (8, SV.val (KT.int IntKind.i64) (D.int v8))] [(3, Obj.box 47 (BC.cells [SV.selfn (Option.getD (Oper.dst { dst := some 3, op := Op.alloc 47, type := 0, pos := "run.go:212", after := #[], guard := none }) 0), SV.own 700193])), (700193, Obj.arr 5 x700193s)]
noncomputable def L12a (v6 : List D) (v7 : Int) (v8 : Int) (x700193s : List D) : R := LOOP E (RUN E) 12 Try.f12 [1, 1, 0, 1, 0] (h12a v6 v7 v8 x700193s)
theorem enter12 (l0 : List D) : RUN E 12 [D.list l0] =
    L12a l0 ((↑(List.length l0) : Int)) 0 [] := (RUN_eq _ _ _).trans (by kernel_rfl)
theorem round12a (v6 : List D) (v7 : Int) (v8 : Int) (x700193s : List D) : L12a v6 v7 v8 x700193s =
    cond (decide (v8 < v7))
  (cond (inb v8 (List.length v6))
    (opt (RUN E 28 [D.agg [D.no, D.list x700193s], D.str (D.toStr (D.cell (List.getD v6 (Int.toNat v8) D.no) 1))]) fun ρ2 =>
      L12a v6 v7 (IntKind.wrap IntKind.i64 (v8 + 1)) (D.toList (D.cell (List.getD ρ2 2 D.no) 1)))
    (none))
  (opt (RUN E 29 [D.agg [D.no, D.list x700193s]]) fun ρ1 =>
    some [D.str (D.toStr (List.getD ρ1 0 D.no))]) := (LOOP_eq _ _ _ _ _ _).trans (by kernel_rfl)
/-! masthead/mastref1.Joined -/
def h13a (v6 : List D) (v7 : Int) (v8 : Int) (parts3s : List D) : St := mkSt 20 [(3, SV.own 3), (6, SV.val (KT.slice 49) (D.list v6)), (7, SV.val (KT.int IntKind.i64) (D.int v7)), (8, SV.val (KT.int IntKind.i64) (D.int v8))] [(3, Obj.arr 9 parts3s)]
noncomputable def L13a (v6 : List D) (v7 : Int) (v8 : Int) (parts3s : List D) : R := LOOP E (RUN E) 13 Try.f13 [1, 1, 0, 1, 0] (h13a v6 v7 v8 parts3s)
theorem enter13 (l0 : List D) : RUN E 13 [D.list l0] =
    L13a l0 ((↑(List.length l0) : Int)) 0 [] := (RUN_eq _ _ _).trans (by kernel_rfl)
theorem round13a (v6 : List D) (v7 : Int) (v8 : Int) (parts3s : List D) : L13a v6 v7 v8 parts3s =
    cond (decide (v8 < v7))
  (cond (inb v8 (List.length v6))
    (cond (fitL (List.length parts3s) (List.length [D.str (D.toStr (D.cell (List.getD v6 (Int.toNat v8) D.no) 1))]))
      (L13a v6 v7 (IntKind.wrap IntKind.i64 (v8 + 1)) (parts3s ++ [D.str (D.toStr (D.cell (List.getD v6 (Int.toNat v8) D.no) 1))]))
      (none))
    (none))
  (opt (RUN E 30 [D.list parts3s, D.str (([] : List UInt8))]) fun ρ1 =>
    some [D.str (D.toStr (List.getD ρ1 0 D.no))]) := (LOOP_eq _ _ _ _ _ _).trans (by kernel_rfl)
/-! masthead/tmpl.Skeleton -/
def h14a (v6 : List D) (v7 : Int) (v8 : Int) (x700193s : List D) : St := mkSt 30 [(3, SV.bptr 3 47 0 (KT.agg 47)), (6, SV.val (KT.slice 49) (D.list v6)), (7, SV.val (KT.int IntKind.i64) (D.int v7)), (8, SV.val (KT.int IntKind.i64) (D.int v8))] [(3, Obj.box 47 (BC.cells [SV.selfn (Option.getD (Oper.dst { dst := some 3, op := Op.alloc 47, type := 0, pos := "run.go:221", after := #[], guard := none }) 0), SV.own 700193])), (700193, Obj.arr 5 x700193s)]
noncomputable def L14a (v6 : List D) (v7 : Int) (v8 : Int) (x700193s : List D) : R := LOOP E (RUN E) 14 Try.f14 [1, 1, 0, 1, 0] (h14a v6 v7 v8 x700193s)
theorem enter14 (l0 : List D) : RUN E 14 [D.list l0] =
    L14a l0 ((↑(List.length l0) : Int)) 0 [] := (RUN_eq _ _ _).trans (by kernel_rfl)
theorem round14a (v6 : List D) (v7 : Int) (v8 : Int) (x700193s : List D) : L14a v6 v7 v8 x700193s =
    cond (decide (v8 < v7))
  (cond (inb v8 (List.length v6))
    (cond (decide (D.toInt (D.cell (List.getD v6 (Int.toNat v8) D.no) 0) = 1))
      (cond (decide (D.toInt (D.cell (List.getD v6 (Int.toNat v8) D.no) 0) = 1))
        (opt (RUN E 31 [D.agg [D.no, D.list x700193s], D.int 120]) fun ρ4 =>
          L14a v6 v7 (IntKind.wrap IntKind.i64 (v8 + 1)) (D.toList (D.cell (List.getD ρ4 1 D.no) 1)))
        (cond (decide (D.toInt (D.cell (List.getD v6 (Int.toNat v8) D.no) 0) = 4))
          (opt (RUN E 31 [D.agg [D.no, D.list x700193s], D.int 47]) fun ρ5 =>
            L14a v6 v7 (IntKind.wrap IntKind.i64 (v8 + 1)) (D.toList (D.cell (List.getD ρ5 1 D.no) 1)))
          (cond (decide (D.toInt (D.cell (List.getD v6 (Int.toNat v8) D.no) 0) = 5))
            (opt (RUN E 31 [D.agg [D.no, D.list x700193s], D.int 48]) fun ρ6 =>
              L14a v6 v7 (IntKind.wrap IntKind.i64 (v8 + 1)) (D.toList (D.cell (List.getD ρ6 1 D.no) 1)))
            (opt (RUN E 28 [D.agg [D.no, D.list x700193s], D.str (D.toStr (D.cell (List.getD v6 (Int.toNat v8) D.no) 1))]) fun ρ6 =>
              L14a v6 v7 (IntKind.wrap IntKind.i64 (v8 + 1)) (D.toList (D.cell (List.getD ρ6 2 D.no) 1))))))
      (cond (decide (D.toInt (D.cell (List.getD v6 (Int.toNat v8) D.no) 0) = 2))
        (cond (decide (D.toInt (D.cell (List.getD v6 (Int.toNat v8) D.no) 0) = 2))
          (opt (RUN E 31 [D.agg [D.no, D.list x700193s], D.int 120]) fun ρ5 =>
            L14a v6 v7 (IntKind.wrap IntKind.i64 (v8 + 1)) (D.toList (D.cell (List.getD ρ5 1 D.no) 1)))
          (cond (decide (D.toInt (D.cell (List.getD v6 (Int.toNat v8) D.no) 0) = 4))
            (opt (RUN E 31 [D.agg [D.no, D.list x700193s], D.int 47]) fun ρ6 =>
              L14a v6 v7 (IntKind.wrap IntKind.i64 (v8 + 1)) (D.toList (D.cell (List.getD ρ6 1 D.no) 1)))
            (cond (decide (D.toInt (D.cell (List.getD v6 (Int.toNat v8) D.no) 0) = 5))
              (opt (RUN E 31 [D.agg [D.no, D.list x700193s], D.int 48]) fun ρ7 =>
                L14a v6 v7 (IntKind.wrap IntKind.i64 (v8 + 1)) (D.toList (D.cell (List.getD ρ7 1 D.no) 1)))
              (opt (RUN E 28 [D.agg [D.no, D.list x700193s], D.str (D.toStr (D.cell (List.getD v6 (Int.toNat v8) D.no) 1))]) fun ρ7 =>
                L14a v6 v7 (IntKind.wrap IntKind.i64 (v8 + 1)) (D.toList (D.cell (List.getD ρ7 2 D.no) 1))))))
        (cond (decide (D.toInt (D.cell (List.getD v6 (Int.toNat v8) D.no) 0) = 3))
          (opt (RUN E 31 [D.agg [D.no, D.list x700193s], D.int 120]) fun ρ5 =>
            L14a v6 v7 (IntKind.wrap IntKind.i64 (v8 + 1)) (D.toList (D.cell (List.getD ρ5 1 D.no) 1)))
          (cond (decide (D.toInt (D.cell (List.getD v6 (Int.toNat v8) D.no) 0) = 4))
            (opt (RUN E 31 [D.agg [D.no, D.list x700193s], D.int 47]) fun ρ6 =>
              L14a v6 v7 (IntKind.wrap IntKind.i64 (v8 + 1)) (D.toList (D.cell (List.getD ρ6 1 D.no) 1)))
            (cond (decide (D.toInt (D.cell (List.getD v6 (Int.toNat v8) D.no) 0) = 5))
              (opt (RUN E 31 [D.agg [D.no, D.list x700193s], D.int 48]) fun ρ7 =>
                L14a v6 v7 (IntKind.wrap IntKind.i64 (v8 + 1)) (D.toList (D.cell (List.getD ρ7 1 D.no) 1)))
              (opt (RUN E 28 [D.agg [D.no, D.list x700193s], D.str (D.toStr (D.cell (List.getD v6 (Int.toNat v8) D.no) 1))]) fun ρ7 =>
                L14a v6 v7 (IntKind.wrap IntKind.i64 (v8 + 1)) (D.toList (D.cell (List.getD ρ7 2 D.no) 1))))))))
    (none))
  (opt (RUN E 29 [D.agg [D.no, D.list x700193s]]) fun ρ1 =>
    some [D.str (D.toStr (List.getD ρ1 0 D.no))]) := (LOOP_eq _ _ _ _ _ _).trans (by kernel_rfl)
/-! masthead/mastref1.SkeletonOf -/
def h15a (v6 : List D) (v7 : Int) (v8 : Int) (parts3s : List D) : St := mkSt 39 [(3, SV.own 3), (6, SV.val (KT.slice 49) (D.list v6)), (7, SV.val (KT.int IntKind.i64) (D.int v7)), (8, SV.val (KT.int IntKind.i64) (D.int v8))] [(3, Obj.arr 9 parts3s)]
noncomputable def L15a (v6 : List D) (v7 : Int) (v8 : Int) (parts3s : List D) : R := LOOP E (RUN E) 15 Try.f15 [1, 1, 0, 1, 0] (h15a v6 v7 v8 parts3s)
theorem enter15 (l0 : List D) : RUN E 15 [D.list l0] =
    L15a l0 ((↑(List.length l0) : Int)) 0 [] := (RUN_eq _ _ _).trans (by kernel_rfl)
theorem round15a (v6 : List D) (v7 : Int) (v8 : Int) (parts3s : List D) : L15a v6 v7 v8 parts3s =
    cond (decide (v8 < v7))
  (cond (inb v8 (List.length v6))
    (cond (decide (D.toInt (D.cell (List.getD v6 (Int.toNat v8) D.no) 0) = 1))
      (cond (decide (D.toInt (D.cell (List.getD v6 (Int.toNat v8) D.no) 0) = 1))
        (cond (fitL (List.length parts3s) (List.length [D.str (([120] : List UInt8))]))
          (L15a v6 v7 (IntKind.wrap IntKind.i64 (v8 + 1)) (parts3s ++ [D.str (([120] : List UInt8))]))
          (none))
        (cond (decide (D.toInt (D.cell (List.getD v6 (Int.toNat v8) D.no) 0) = 4))
          (cond (fitL (List.length parts3s) (List.length [D.str (([47] : List UInt8))]))
            (L15a v6 v7 (IntKind.wrap IntKind.i64 (v8 + 1)) (parts3s ++ [D.str (([47] : List UInt8))]))
            (none))
          (cond (decide (D.toInt (D.cell (List.getD v6 (Int.toNat v8) D.no) 0) = 5))
            (cond (fitL (List.length parts3s) (List.length [D.str (([48] : List UInt8))]))
              (L15a v6 v7 (IntKind.wrap IntKind.i64 (v8 + 1)) (parts3s ++ [D.str (([48] : List UInt8))]))
              (none))
            (cond (fitL (List.length parts3s) (List.length [D.str (D.toStr (D.cell (List.getD v6 (Int.toNat v8) D.no) 1))]))
              (L15a v6 v7 (IntKind.wrap IntKind.i64 (v8 + 1)) (parts3s ++ [D.str (D.toStr (D.cell (List.getD v6 (Int.toNat v8) D.no) 1))]))
              (none)))))
      (cond (decide (D.toInt (D.cell (List.getD v6 (Int.toNat v8) D.no) 0) = 2))
        (cond (decide (D.toInt (D.cell (List.getD v6 (Int.toNat v8) D.no) 0) = 2))
          (cond (fitL (List.length parts3s) (List.length [D.str (([120] : List UInt8))]))
            (L15a v6 v7 (IntKind.wrap IntKind.i64 (v8 + 1)) (parts3s ++ [D.str (([120] : List UInt8))]))
            (none))
          (cond (decide (D.toInt (D.cell (List.getD v6 (Int.toNat v8) D.no) 0) = 4))
            (cond (fitL (List.length parts3s) (List.length [D.str (([47] : List UInt8))]))
              (L15a v6 v7 (IntKind.wrap IntKind.i64 (v8 + 1)) (parts3s ++ [D.str (([47] : List UInt8))]))
              (none))
            (cond (decide (D.toInt (D.cell (List.getD v6 (Int.toNat v8) D.no) 0) = 5))
              (cond (fitL (List.length parts3s) (List.length [D.str (([48] : List UInt8))]))
                (L15a v6 v7 (IntKind.wrap IntKind.i64 (v8 + 1)) (parts3s ++ [D.str (([48] : List UInt8))]))
                (none))
              (cond (fitL (List.length parts3s) (List.length [D.str (D.toStr (D.cell (List.getD v6 (Int.toNat v8) D.no) 1))]))
                (L15a v6 v7 (IntKind.wrap IntKind.i64 (v8 + 1)) (parts3s ++ [D.str (D.toStr (D.cell (List.getD v6 (Int.toNat v8) D.no) 1))]))
                (none)))))
        (cond (decide (D.toInt (D.cell (List.getD v6 (Int.toNat v8) D.no) 0) = 3))
          (cond (fitL (List.length parts3s) (List.length [D.str (([120] : List UInt8))]))
            (L15a v6 v7 (IntKind.wrap IntKind.i64 (v8 + 1)) (parts3s ++ [D.str (([120] : List UInt8))]))
            (none))
          (cond (decide (D.toInt (D.cell (List.getD v6 (Int.toNat v8) D.no) 0) = 4))
            (cond (fitL (List.length parts3s) (List.length [D.str (([47] : List UInt8))]))
              (L15a v6 v7 (IntKind.wrap IntKind.i64 (v8 + 1)) (parts3s ++ [D.str (([47] : List UInt8))]))
              (none))
            (cond (decide (D.toInt (D.cell (List.getD v6 (Int.toNat v8) D.no) 0) = 5))
              (cond (fitL (List.length parts3s) (List.length [D.str (([48] : List UInt8))]))
                (L15a v6 v7 (IntKind.wrap IntKind.i64 (v8 + 1)) (parts3s ++ [D.str (([48] : List UInt8))]))
                (none))
              (cond (fitL (List.length parts3s) (List.length [D.str (D.toStr (D.cell (List.getD v6 (Int.toNat v8) D.no) 1))]))
                (L15a v6 v7 (IntKind.wrap IntKind.i64 (v8 + 1)) (parts3s ++ [D.str (D.toStr (D.cell (List.getD v6 (Int.toNat v8) D.no) 1))]))
                (none)))))))
    (none))
  (opt (RUN E 30 [D.list parts3s, D.str (([] : List UInt8))]) fun ρ1 =>
    some [D.str (D.toStr (List.getD ρ1 0 D.no))]) := (LOOP_eq _ _ _ _ _ _).trans (by kernel_rfl)
/-! (*strings.Builder).WriteString -/
theorem enter28 (b0c1 : List D) (s1 : List UInt8) : RUN E 28 [D.agg [D.no, D.list b0c1], D.str s1] =
    opt (RUN E 50 [D.agg [D.no, D.list b0c1]]) fun ρ0 =>
  cond (fitL (List.length (D.toList (D.cell (List.getD ρ0 0 D.no) 1))) (List.length (bytesD s1)))
    (some [D.int (↑(List.length s1) : Int), D.no, D.agg [D.no, D.list (D.toList (D.cell (List.getD ρ0 0 D.no) 1) ++ bytesD s1)]])
    (none) := (RUN_eq _ _ _).trans (by kernel_rfl)
/-! (*strings.Builder).WriteByte -/
theorem enter31 (b0c1 : List D) (c1 : Int) : RUN E 31 [D.agg [D.no, D.list b0c1], D.int c1] =
    opt (RUN E 50 [D.agg [D.no, D.list b0c1]]) fun ρ0 =>
  cond (fitL (List.length (D.toList (D.cell (List.getD ρ0 0 D.no) 1))) (List.length [D.int c1]))
    (some [D.no, D.agg [D.no, D.list (D.toList (D.cell (List.getD ρ0 0 D.no) 1) ++ [D.int c1])]])
    (none) := (RUN_eq _ _ _).trans (by kernel_rfl)
end Go.Proofs.Ytbinmfenhbpdnaa.tj
