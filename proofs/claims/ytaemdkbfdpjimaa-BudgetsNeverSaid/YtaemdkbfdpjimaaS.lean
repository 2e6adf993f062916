/-
What the functions of package budgets compute, as plain functions on lists. No condition.
-/
import Derived.Test.YtaemdkbfdpjimaaP0
namespace Go.Proofs.Ytaemdkbfdpjimaa.S
open Go.RowKit Go.Proofs.Ytaemdkbfdpjimaa.P

/-- Does a number lie outside of a to m? -/
def outB (a m n : Int) : Bool := decide (n < a) || decide (m < n)
def betweenF (a m : Int) (l : List Int) : Bool := !l.any (outB a m)
def rightF (x : S24) : Bool := betweenF 0 1048576 [x.f0] && betweenF 0 1099511627775 [x.f1, x.f2] && betweenF (-1) 15 [x.f3] && betweenF 1 1099511627776 [x.f4] && betweenF 0 (if x.f7 = true then 0 else 1048576) [x.f5] && betweenF 0 (if x.f7 = true then 0 else 1099511627776) [x.f6]
/-- Are the entries from a number on right, and in order? -/
def okFrom : Int → List S24 → Bool
  | _, [] => true
  | last, x :: l => rightF x && decide (last < x.f0) && okFrom x.f0 l
def checkF (l : List S24) : Int := if 4096 < l.length then 2 else if okFrom (-1) l then 0 else 180
/-- where a number belongs. -/
def place (l : List S24) (no : Int) : Nat := (l.takeWhile fun x => decide (x.f0 < no)).length
def found (l : List S24) (no : Int) : Bool := decide (place l no < l.length) && decide ((l.getD (place l no) z24).f0 = no)
def addF (l : List S24) (x : S24) : List S24 × Int :=
  if checkF l ≠ 0 then ([], checkF l) else if rightF x = false then ([], 180) else if found l x.f0 = true then ([], 151) else if l.length = 4096 then ([], 2)
  else (l.take (place l x.f0) ++ x :: l.drop (place l x.f0), 0)
/-- does a budget count, for a kind? -/
def countsF (kind at_ known : Int) (x : S24) : Bool := decide (x.f1 ≤ at_) && decide (x.f2 ≤ known) && (decide (x.f3 = -1) || decide (x.f3 = kind))
def sameSubj (x y : S24) : Bool := decide (x.f3 = y.f3) && decide (x.f4 = y.f4)
/-- the last one about the subject of an entry. -/
def lastF (y : S24) : Option S24 → List S24 → Option S24
  | o, [] => o
  | o, x :: l => lastF y (if sameSubj x y then (match o with | none => some x | some z => if z.f1 ≤ x.f1 then some x else some z) else o) l
deriving instance DecidableEq for S24
/-- what the second loop asks: the map's zero value counts, where the key is not met -/
def standsF (c : List S24) (y : S24) : Bool := !y.f7 && decide ((lastF y none c).getD z24 = y)
def standingF (l : List S24) (kind at_ known : Int) : List S24 := l.filter (standsF (l.filter (countsF kind at_ known)))
def useF (x : S49) : Bool := betweenF 0 4095 [x.f0] && betweenF 0 15 [x.f1] && betweenF 0 1099511627776 [x.f2] && betweenF 0 1099511627775 [x.f3, x.f4]
def usesF : List Int → List S49 → Bool
  | _, [] => true
  | met, x :: u => !met.contains x.f0 && useF x && usesF (x.f0 :: met) u
/-- is a use one of a budget in a time's period? -/
def usedF (b : S24) (at_ known : Int) (x : S49) : Bool := decide (x.f4 ≤ known) && (decide (b.f3 = -1) || decide (b.f3 = x.f1)) && decide (wrap64 (Int.tdiv x.f3 b.f4) = wrap64 (Int.tdiv at_ b.f4))
def manyF (b : S24) (u : List S49) (at_ known : Int) : Int := 1 + ((u.filter (usedF b at_ known)).length : Int)
def sumF (b : S24) (u : List S49) (value at_ known : Int) : Int := value + ((u.filter (usedF b at_ known)).map (·.f2)).sum
def overF (b : S24) (u : List S49) (value at_ known : Int) : Bool := decide (b.f5 < manyF b u at_ known) || decide (b.f6 < sumF b u value at_ known)
/-- the first budget that is over -/
def firstF (s : List S24) (u : List S49) (value at_ known : Int) : Int × Bool × Int := match s.find? (fun b => overF b u value at_ known) with | some b => (b.f0, false, 0) | none => (-1, true, 0)
def roomF (l : List S24) (u : List S49) (kind value at_ known : Int) : Int × Bool × Int :=
  if checkF l ≠ 0 then (0, false, checkF l) else if 4096 < u.length then (0, false, 2) else if usesF [] u = false then (0, false, 180)
  else if betweenF 0 15 [kind] = false ∨ betweenF 0 1099511627776 [value] = false ∨ betweenF 0 1099511627775 [at_, known] = false then (0, false, 1)
  else firstF (standingF l kind at_ known) u value at_ known
end Go.Proofs.Ytaemdkbfdpjimaa.S
