/-
  bytes.Equal, bytes.Clone; a part of a slice of bytes.
-/
import Derived.Test.YtgopkpogakjckaaStr
import Derived.Test.YtgopkpogakjckaaLsa5
namespace Go.Proofs.Ytgopkpogakjckaa
set_option linter.unusedVariables false
set_option linter.unusedSimpArgs false
open Go Go.RowKit SM LM

theorem ba_loop (b : ByteArray) (i : Nat) (r : List UInt8) (hi : i ≤ b.data.toList.length) : ByteArray.toList.loop b i r = r.reverse ++ b.data.toList.drop i := by
  have hs : b.size = b.data.toList.length := Array.length_toList.symm
  generalize hk : b.data.toList.length - i = k
  induction k generalizing i r with
  | zero =>
    unfold ByteArray.toList.loop
    rw [if_neg (by omega), List.drop_of_length_le (by omega)]
    simp
  | succ k ih =>
    unfold ByteArray.toList.loop
    rw [if_pos (by omega), ih (i + 1) _ (by omega) (by omega)]
    have hlt : i < b.data.toList.length := by omega
    rw [List.drop_eq_getElem_cons hlt]
    have hget : b.get! i = b.data.toList[i] := by
      unfold ByteArray.get!
      simp at hlt
      simp [getElem!_pos, hlt]
    simp [hget]
theorem ba_toList (b : ByteArray) : b.toList = b.data.toList := by
  unfold ByteArray.toList
  rw [ba_loop b 0 [] (by omega)]
  simp
theorem S8_toList (l : List UInt8) : (S8 l).toList = l := ba_toList _

set_option maxRecDepth 100000 in
set_option maxHeartbeats 400000 in
theorem bytesEqual_any (A1 : Option Addr) (n1 c1 : Nat) (A2 : Option Addr) (n2 c2 : Nat) (l1 l2 : List UInt8) (w : World) (h1 : Sl w 1 (.slice A1 n1 c1) (B8 l1)) (h2 : Sl w 1 (.slice A2 n2 c2) (B8 l2)) :
    Calls Try.prog 49 #[.slice A1 n1 c1, .slice A2 n2 c2] w fun e w' => e = .returned (.bool (l1 == l2)) ∧ w = w' := by
  have hs1 := bstr h1
  have hs2 := bstr h2
  go_enter Try.func49, Try.ntmps49
  go_wp2_with fail
  go_ret
  refine ⟨ret_bool ?_, rfl⟩
  rw [S8_toList, S8_toList]

/-- a part of a slice of bytes -/
theorem sl_mid {w : World} {b off n c : Nat} {l : List UInt8} (h : Sl w 1 (.slice (some ⟨b, off, none⟩) n c) (B8 l)) (i j : Nat) (hij : i ≤ j) (hj : j ≤ n) (hi : i < n) :
    Sl w 1 (.slice (some ⟨b, off + i, none⟩) (j - i) (c - i)) (B8 ((l.drop i).take (j - i))) := by
  have h1 := sl_drop h i (by omega)
  have hc := h.len.2.1
  rw [if_neg (by omega)] at h1
  simp only [Option.map_some, addr_add] at h1
  exact h1.take (j - i) (by omega)
end Go.Proofs.Ytgopkpogakjckaa
