/-
What the functions of package deputies compute, as plain functions on lists. No condition.
-/
import Derived.Test.YtoenefdjejkncaaP0
namespace Go.Proofs.Ytoenefdjejkncaa.S
open Go.RowKit Go.Proofs.Ytoenefdjejkncaa.P

/-- Does a number lie from a to m? -/
def inB (a m n : Int) : Bool := decide (a ≤ n) && decide (n ≤ m)
def rightF (x : S24) : Bool := inB 0 1048576 x.f0 && inB 0 1099511627775 x.f1 && inB 0 1099511627775 x.f2 && inB 0 63 x.f4 && inB 0 63 x.f5 && !decide (x.f4 = x.f5) && inB 0 31 x.f6 && inB (-1) 15 x.f7 &&
  (if x.f9 = true then decide (x.f3 = 0) && decide (x.f8 = 0) else decide (x.f1 < x.f3) && decide (x.f3 ≤ 1099511627776) && inB 0 1099511627776 x.f8)
/-- Are the entries from a number on right, and in order? -/
def okFrom : Int → List S24 → Bool
  | _, [] => true
  | last, x :: l => rightF x && decide (last < x.f0) && okFrom x.f0 l
def checkF (l : List S24) : Int := if 4096 < l.length then 2 else if okFrom (-1) l then 0 else 160
/-- where a number belongs. -/
def place (l : List S24) (no : Int) : Nat := (l.takeWhile fun x => decide (x.f0 < no)).length
def found (l : List S24) (no : Int) : Bool := decide (place l no < l.length) && decide ((l.getD (place l no) z24).f0 = no)
def addF (l : List S24) (x : S24) : List S24 × Int :=
  if checkF l ≠ 0 then ([], checkF l) else if rightF x = false then ([], 160) else if found l x.f0 = true then ([], 151) else if l.length = 4096 then ([], 2)
  else (l.take (place l x.f0) ++ x :: l.drop (place l x.f0), 0)
def countsF (at_ known : Int) (x : S24) : Bool := decide (x.f1 ≤ at_) && decide (x.f2 ≤ known)
def sameSubj (x y : S24) : Bool := decide (x.f4 = y.f4) && decide (x.f5 = y.f5) && decide (x.f6 = y.f6) && decide (x.f7 = y.f7)
/-- the last one about the subject of an entry. -/
def lastF (y : S24) : Option S24 → List S24 → Option S24
  | o, [] => o
  | o, x :: l => lastF y (if sameSubj x y then (match o with | none => some x | some z => if z.f1 ≤ x.f1 then some x else some z) else o) l
deriving instance DecidableEq for S24
/-- is one later than another? -/
def laterB (at_ known : Int) (x z : S24) : Bool := countsF at_ known z && sameSubj x z && (decide (x.f1 < z.f1) || (decide (z.f1 = x.f1) && decide (x.f0 < z.f0)))
/-- does one stand, as the reference asks it? -/
def standB (l : List S24) (at_ known : Int) (x : S24) : Bool := countsF at_ known x && !x.f9 && decide (at_ < x.f3) && !(l.any (laterB at_ known x))
def standF (l : List S24) (at_ known : Int) : List S24 := l.filter (standB l at_ known)
def coversF (office kind value at_ : Int) (x : S24) : Bool := !x.f9 && decide (at_ < x.f3) && decide (x.f6 = office) && (decide (x.f7 = -1) || decide (x.f7 = kind)) && decide (value ≤ x.f8)
/-- what the iterator asks: the map's zero value counts, where the key is not met -/
def yieldF (c : List S24) (office kind value at_ known : Int) (y : S24) : Bool := decide ((lastF y none c).getD z24 = y) && (countsF at_ known y && coversF office kind value at_ y)
def coverF (l : List S24) (office kind value at_ known : Int) : List S24 := l.filter (yieldF (l.filter (countsF at_ known)) office kind value at_ known)
def askF (l : List S24) (from_ to_ office kind value at_ known : Int) : Int :=
  if checkF l ≠ 0 then checkF l else if inB 0 63 from_ && inB 0 63 to_ && inB 0 31 office && inB 0 15 kind && inB 0 1099511627776 value && inB 0 1099511627775 at_ && inB 0 1099511627775 known then 0 else 1
/-- a map with one more entry -/
def upd {α : Type} (m : Int → Option α) (k : Int) (v : α) : Int → Option α := fun j => if k = j then some v else m j
def farStep (n : Int) (m : Int → Option Int) (x : S24) : Int → Option Int := if (m x.f4).isNone && decide (m x.f5 = some n) then upd m x.f4 (n + 1) else m
/-- how far each person is from one, after some rounds -/
def farN (c : List S24) (to_ : Int) : Nat → Int → Option Int
  | 0 => upd (fun _ => none) to_ 0
  | n + 1 => c.foldl (farStep n) (farN c to_ n)
def farF (c : List S24) (to_ : Int) : Int → Option Int := farN c to_ 8
def pathF (c : List S24) (m : Int → Option Int) : Nat → Int → List Int
  | 0, _ => []
  | n + 1, p => match c.find? (fun x => decide (x.f4 = p) && decide (m x.f5 = some (n : Int))) with
    | some x => x.f0 :: pathF c m n x.f5
    | none => pathF c m n p
def chainF (l : List S24) (from_ to_ office kind value at_ known : Int) : List Int × Bool × Int :=
  if askF l from_ to_ office kind value at_ known ≠ 0 then ([], false, askF l from_ to_ office kind value at_ known)
  else match farF (coverF l office kind value at_ known) to_ from_ with
    | none => ([], false, 0)
    | some n => (pathF (coverF l office kind value at_ known) (farF (coverF l office kind value at_ known) to_) n.toNat from_, true, 0)
def byF (c : List S24) : Int → Option S24 := c.foldl (fun m x => upd m x.f0 x) (fun _ => none)
/-- Do numbers lead on from a person, nobody met twice? -/
def leadF (by_ : Int → Option S24) (to_ : Int) : List Int → List Int → Int → Bool
  | [], _, p => decide (p = to_)
  | no :: path, met, p => match by_ no with
    | none => false
    | some x => if x.f4 = p ∧ met.contains x.f5 = false then leadF by_ to_ path (x.f5 :: met) x.f5 else false
def provesF (l : List S24) (from_ to_ office kind value at_ known : Int) (path : List Int) : Bool × Int :=
  if askF l from_ to_ office kind value at_ known ≠ 0 then (false, askF l from_ to_ office kind value at_ known)
  else if 8 < path.length then (false, 0)
  else (leadF (byF (coverF l office kind value at_ known)) to_ path [from_] from_, 0)
end Go.Proofs.Ytoenefdjejkncaa.S
