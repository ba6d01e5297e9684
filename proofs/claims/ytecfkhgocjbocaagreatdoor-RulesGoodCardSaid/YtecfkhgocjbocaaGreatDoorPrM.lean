/-
  Layer 6's commands (plain): what a text's words tell.
-/
import Derived.Test.YtecfkhgocjbocaaGreatDoorSrG
namespace Go.Proofs.YtecfkhgocjbocaaGreatDoor
set_option linter.unusedVariables false

structure Ln where
  head : Int
  name : List UInt8
  leaf : List UInt8
  value : List UInt8
structure Cmd where
  what : Int
  line : Ln
  n : Int
def ln0 : Ln := ⟨0, [], [], []⟩
def cmd0 : Cmd := ⟨0, ln0, 0⟩
def wShow : List UInt8 := [115, 104, 111, 119]
def wCompare : List UInt8 := [99, 111, 109, 112, 97, 114, 101]
def wCheck : List UInt8 := [99, 104, 101, 99, 107]
def wCommit : List UInt8 := [99, 111, 109, 109, 105, 116]
def wConfirm : List UInt8 := [99, 111, 110, 102, 105, 114, 109]
def wArea : List UInt8 := [97, 114, 101, 97]
def wInter : List UInt8 := [105, 110, 116, 101, 114, 102, 97, 99, 101]
def wCC : List UInt8 := [99, 111, 109, 109, 105, 116, 45, 99, 111, 110, 102, 105, 114, 109, 101, 100]
def wRoll : List UInt8 := [114, 111, 108, 108, 98, 97, 99, 107]
def wSet : List UInt8 := [115, 101, 116]
def wDelete : List UInt8 := [100, 101, 108, 101, 116, 101]
/-- a command of one word; 0: none's -/
def plainW (w : List UInt8) : Int := if w = wShow then 3 else if w = wCompare then 4 else if w = wCheck then 5 else if w = wCommit then 6 else if w = wConfirm then 8 else 0
def headW (w : List UInt8) : Int := if w = wArea then 1 else if w = wInter then 2 else 0
/-- a head and a name ahead, and what is left -/
def namedW (w : List (List UInt8)) : Option (Ln × List (List UInt8)) := match w with
  | [] => some (ln0, [])
  | h :: r => if headW h = 0 then some (ln0, h :: r) else match r with
    | [] => none
    | nm :: r2 => if namedR (headW h) nm = true then some (⟨headW h, nm, [], []⟩, r2) else none
def lineW (w : List (List UInt8)) : Option Ln := match namedW w with
  | some (l, [leaf, value]) => if ((findR l.head leaf).2 && rightR (findR l.head leaf).1 value) = true then some ⟨l.head, l.name, leaf, value⟩ else none
  | _ => none
def pathW (w : List (List UInt8)) : Option Ln := match namedW w with
  | some (l, []) => if l.head = 0 then none else some l
  | some (l, [leaf]) => if (findR l.head leaf).2 = true then some ⟨l.head, l.name, leaf, []⟩ else none
  | _ => none
def countW (what : Int) (w : List UInt8) (lo hi : Nat) : Option Cmd := if SC.decB w = true ∧ lo ≤ SC.decV w ∧ SC.decV w ≤ hi then some ⟨what, ln0, (SC.decV w : Nat)⟩ else none
/-- a command's words -/
def readL (w : List UInt8) (r : List (List UInt8)) : Option Cmd :=
  if plainW w ≠ 0 then (if r = [] then some ⟨plainW w, ln0, 0⟩ else none)
  else if w = wCC then (match r with
    | [x] => countW 7 x 1 65535
    | _ => none)
  else if w = wRoll then (match r with
    | [x] => countW 9 x 0 5
    | _ => none)
  else if w = wSet then (lineW r).map fun l => ⟨1, l, 0⟩
  else if w = wDelete then (pathW r).map fun l => ⟨2, l, 0⟩
  else none
/-- a text's command -/
def readT (s : List UInt8) : Option Cmd := match LX.run s 0 [] with
  | (w :: r, _, 0) => if (w :: r).any isSgn = true then none else readL w r
  | _ => none
theorem plainW_eq (w : List UInt8) : plainW w = 0 ∨ plainW w = 3 ∨ plainW w = 4 ∨ plainW w = 5 ∨ plainW w = 6 ∨ plainW w = 8 := by
  unfold plainW
  repeat' split
  all_goals decide
theorem headW_eq (w : List UInt8) : headW w = 0 ∨ headW w = 1 ∨ headW w = 2 := by
  unfold headW
  repeat' split
  all_goals decide
end Go.Proofs.YtecfkhgocjbocaaGreatDoor
