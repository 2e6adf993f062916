/-
What the functions of package approvals compute, as plain functions on lists. No condition.
-/
import Derived.Test.YtcpheagandpacaaP0
namespace Go.Proofs.Ytcpheagandpacaa.S
open Go.RowKit Go.Proofs.Ytcpheagandpacaa.P

/-- Does a number lie outside of 0 to m? -/
def outB (m n : Int) : Bool := decide (n < 0) || decide (m < n)
def withinF (m : Int) (l : List Int) : Bool := !l.any (outB m)
def rightF (x : S24) : Bool := withinF 1048576 [x.f0] && withinF 1099511627775 [x.f1, x.f2] && withinF 4095 [x.f3] && withinF 63 [x.f4, x.f5] && withinF 31 [x.f6]
/-- Are the entries from a number on right, and in order? -/
def okFrom : Int → List S24 → Bool
  | _, [] => true
  | last, x :: l => rightF x && decide (last < x.f0) && okFrom x.f0 l
def checkF (l : List S24) : Int := if 4096 < l.length then 2 else if okFrom (-1) l then 0 else 280
/-- where a number belongs. -/
def place (l : List S24) (no : Int) : Nat := (l.takeWhile fun x => decide (x.f0 < no)).length
def found (l : List S24) (no : Int) : Bool := decide (place l no < l.length) && decide ((l.getD (place l no) z24).f0 = no)
def addF (l : List S24) (x : S24) : List S24 × Int :=
  if checkF l ≠ 0 then ([], checkF l) else if rightF x = false then ([], 280) else if found l x.f0 = true then ([], 151) else if l.length = 4096 then ([], 2)
  else (l.take (place l x.f0) ++ x :: l.drop (place l x.f0), 0)
def countsF (doc at_ known : Int) (x : S24) : Bool := decide (x.f3 = doc) && decide (x.f1 ≤ at_) && decide (x.f2 ≤ known)
def sameSubj (x y : S24) : Bool := decide (x.f3 = y.f3) && decide (x.f4 = y.f4) && decide (x.f5 = y.f5) && decide (x.f6 = y.f6)
/-- the last one about the subject of an entry. -/
def lastF (y : S24) : Option S24 → List S24 → Option S24
  | o, [] => o
  | o, x :: l => lastF y (if sameSubj x y then (match o with | none => some x | some z => if z.f1 ≤ x.f1 then some x else some z) else o) l
deriving instance DecidableEq for S24
def standingF (l : List S24) (doc at_ known : Int) : List S24 :=
  (l.filter (countsF doc at_ known)).filter fun y => !y.f7 && decide (lastF y none (l.filter (countsF doc at_ known)) = some y)
def countingF (l : List S24) (doc begun think at_ known : Int) : List S24 × Int :=
  if checkF l ≠ 0 then ([], checkF l) else if withinF 4095 [doc] = false ∨ withinF 1099511627775 [begun, think, at_, known] = false then ([], 1)
  else ((standingF l doc at_ known).filter fun y => !(decide (y.f1 < begun) || decide (wrap64 (at_ - y.f1) < think)), 0)
end Go.Proofs.Ytcpheagandpacaa.S
