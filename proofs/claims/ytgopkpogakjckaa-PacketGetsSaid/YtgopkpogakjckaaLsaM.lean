/-
  Plain words of layer 10: numbers as bytes.
-/
import Derived.Test.YtgopkpogakjckaaSumsM
namespace Go.Proofs.Ytgopkpogakjckaa.LM
set_option linter.unusedVariables false
set_option linter.unusedSimpArgs false

/-- so many bytes of a number, the highest one first -/
def be : Nat → Nat → List UInt8
  | 0, _ => []
  | k + 1, x => UInt8.ofNat (x / 2 ^ (8 * k) % 256) :: be k x
theorem be_length (k x : Nat) : (be k x).length = k := by
  induction k with
  | zero => rfl
  | succ k ih => simp [be, ih]
theorem be_get (k x j : Nat) (h : j < k) : (be k x)[j]? = some (UInt8.ofNat (x / 2 ^ (8 * (k - 1 - j)) % 256)) := by
  induction k generalizing j with
  | zero => omega
  | succ k ih =>
    cases j with
    | zero => simp [be]
    | succ j => simp only [be, List.getElem?_cons_succ]; rw [ih j (by omega)]; rw [show k - 1 - j = k + 1 - 1 - (j + 1) from by omega]
theorem be_take_succ (k x j : Nat) (h : j < k) : (be k x).take (j + 1) = (be k x).take j ++ [UInt8.ofNat (x / 2 ^ (8 * (k - 1 - j)) % 256)] := by
  rw [List.take_add_one, be_get k x j h]; rfl

/-- what a router tells -/
structure Link where
  id : Nat
  data : Nat
  ty : Int
  cost : Int
structure Lsa where
  age : Int
  kty : Int
  kid : Nat
  kadv : Nat
  seq : Int
  links : List Link
  mask : Nat
  routers : List Nat
  cost : Int
def Link.wf (x : Link) : Prop := x.id < 4294967296 ∧ x.data < 4294967296 ∧ (-9223372036854775808 ≤ x.ty ∧ x.ty ≤ 9223372036854775807) ∧ (-9223372036854775808 ≤ x.cost ∧ x.cost ≤ 9223372036854775807)
def Link.ok (x : Link) : Bool := decide (1 ≤ x.ty ∧ x.ty ≤ 4) && decide (0 ≤ x.cost ∧ x.cost ≤ 65535)
def linksOk (l : List Link) : Bool := decide (l.length ≤ 40) && l.all Link.ok
def Lsa.right (L : Lsa) : Bool :=
  decide (0 ≤ L.age ∧ L.age ≤ 3600) && decide (-2147483647 ≤ L.seq ∧ L.seq ≤ 2147483647) &&
    (if L.kty = 1 then linksOk L.links && L.mask == 0 && L.routers.length == 0 && L.cost == 0
     else if L.kty = 2 then L.links.length == 0 && decide (1 ≤ L.routers.length ∧ L.routers.length ≤ 40) && L.cost == 0
     else if L.kty = 3 then L.links.length == 0 && L.routers.length == 0 && decide (0 ≤ L.cost ∧ L.cost ≤ 16777215)
     else false)

end Go.Proofs.Ytgopkpogakjckaa.LM
