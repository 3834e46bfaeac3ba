/- What the program's (*parser).number does (tmpl/expr.go), in plain words: a function of its own, since the framework has no range over a string. Its soundness: DxExW. -/
import Derived.Test.YtcmeincdmphaoaaGreatDoorF9
set_option linter.unusedVariables false
set_option linter.unusedSimpArgs false
namespace Go.Proofs.YtcmeincdmphaoaaGreatDoor.DS
def isDig (c : UInt8) : Bool := decide (48 ≤ c.toNat) && decide (c.toNat ≤ 57)
def digs (l : List UInt8) : List UInt8 := l.takeWhile isDig
def numVal (l : List UInt8) : Int := l.foldl (fun n c => 10 * n + ((c.toNat : Int) - 48)) 0
def exprZ : D := .agg [.int 0, .str [], .int 0, .bool false, .int 0, .str [], .list [], .list [], .list []]
def exprN (n : Int) : D := .agg [.int 1, .str [], .int 2, .bool false, .int n, .str [], .list [], .list [], .list []]
def negAt (s : List UInt8) (i : Nat) : Bool := decide ((s.getD i 0).toNat = 45)
def firstAt (s : List UInt8) (i : Nat) : Nat := bif negAt s i then i + 1 else i
def badNum (neg : Bool) (l : List UInt8) : Bool := decide (l = []) || (decide (15 < l.length) || (decide (l.headD 0 = 48) && (decide (1 < l.length) || neg)))
def xNumber : List D → Option (List D)
  | [.agg [.str s, .int i, .bool b]] => cond (decide (0 ≤ i) && (decide (i ≤ (s.length : Int)) && decide (s.length ≤ 1073741824)))
      (cond (badNum (negAt s i.toNat) (digs (s.drop (firstAt s i.toNat))))
        (some [exprZ, .agg [.str s, .int ((firstAt s i.toNat + (digs (s.drop (firstAt s i.toNat))).length : Nat) : Int), .bool true]])
        (some [exprN (bif negAt s i.toNat then - numVal (digs (s.drop (firstAt s i.toNat))) else numVal (digs (s.drop (firstAt s i.toNat)))), .agg [.str s, .int ((firstAt s i.toNat + (digs (s.drop (firstAt s i.toNat))).length : Nat) : Int), .bool b]]))
      none
  | _ => none
end Go.Proofs.YtcmeincdmphaoaaGreatDoor.DS
