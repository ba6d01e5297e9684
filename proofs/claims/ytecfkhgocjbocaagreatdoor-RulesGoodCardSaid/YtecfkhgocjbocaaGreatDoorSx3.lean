/-
  Contracts of the reference's lex.
-/
import Derived.Test.YtecfkhgocjbocaaGreatDoorSx1
import Derived.Test.YtecfkhgocjbocaaGreatDoorRg1
namespace Go.Proofs.YtecfkhgocjbocaaGreatDoor
set_option linter.unusedVariables false
set_option linter.unusedSimpArgs false
open Go Go.RowKit

abbrev alpha : List UInt8 := [97, 98, 99, 100, 101, 102, 103, 104, 105, 106, 107, 108, 109, 110, 111, 112, 113, 114, 115, 116, 117, 118, 119, 120, 121, 122, 65, 66, 67, 68, 69, 70, 71, 72, 73, 74, 75, 76, 77, 78, 79, 80, 81, 82, 83, 84, 85, 86, 87, 88, 89, 90, 48, 49, 50, 51, 52, 53, 54, 55, 56, 57, 46, 47, 45, 95]
theorem alpha_all : ∀ n < 256, alpha.contains (UInt8.ofNat n) = LX.inW (UInt8.ofNat n) := by decide +kernel
theorem alpha_in (c : UInt8) : alpha.contains c = LX.inW c := by
  have := alpha_all c.toNat c.toNat_lt
  rw [UInt8.ofNat_toNat] at this
  exact this
theorem alpha_no (c : UInt8) (h : ∀ j < 66, alpha.getD j 0 ≠ c) : LX.inW c = false := by
  rw [← alpha_in]
  cases hc : alpha.contains c with
  | false => rfl
  | true =>
    obtain ⟨j, hj, he⟩ := List.getElem_of_mem (List.contains_iff_mem.1 hc)
    have h2 : alpha.length = 66 := rfl
    refine absurd ?_ (h j (by omega))
    rw [List.getD_eq_getElem?_getD, List.getElem?_eq_getElem hj]
    exact he
theorem alpha_yes (c : UInt8) (k : Nat) (hk : k < 66) (h : alpha.getD k 0 = c) : LX.inW c = true := by
  rw [← alpha_in, List.contains_iff_mem, ← h, List.getD_eq_getElem?_getD, List.getElem?_eq_getElem (show k < alpha.length from hk)]
  exact List.getElem_mem _
set_option maxRecDepth 100000 in
set_option maxHeartbeats 400000 in
theorem refIn_any (c : UInt8) (w : World) : Calls Tryz.prog 112 #[.int .u8 (c.toNat : Int)] w fun e w' => e = .returned (.bool (LX.inW c)) ∧ w' = w := by
  go_enter Tryz.func112, Tryz.ntmps112
  go_wp2_with fail
  go_loop [4] (fun i => ∃ k : Nat, k ≤ 66 ∧ i = .int .i64 k ∧ Hid (∀ j < k, alpha.getD j 0 ≠ c)) (fun i => 66 - (intOf i).toNat)
  case atStart => exact ⟨0, Nat.zero_le _, rfl, hid (by simp)⟩
  case round =>
    obtain ⟨k, hk, rfl, hn⟩ := hrel
    by_cases hlt : k < 66
    · have HG := bl_get ⟨alpha.toArray⟩ k hlt
      rw [show bl ⟨alpha.toArray⟩ = alpha from rfl] at HG
      by_cases h1 : alpha.getD k 0 = c
      · have t0 : ((((⟨alpha.toArray⟩ : ByteArray)[k]'hlt).toNat : Int) == (c.toNat : Int)) = true := by rw [HG.out, h1]; simp
        have hy := hid (alpha_yes c k hlt h1)
        clear h1 HG
        simp only [alpha] at t0
        go_wp2_with fail
        go_ret
        exact ⟨ret_bool hy.out.symm, rfl⟩
      · have t0 : ((((⟨alpha.toArray⟩ : ByteArray)[k]'hlt).toNat : Int) == (c.toNat : Int)) = false := by
          rw [HG.out, beq_eq_false_iff_ne]
          exact fun h => h1 (UInt8.toNat_inj.1 (by exact_mod_cast h))
        have H1 := hid h1
        clear h1 HG
        simp only [alpha] at t0
        go_wp2_with fail
        refine ⟨⟨k + 1, by omega, by go_num, hid fun j hj => ?_⟩, by simp [intOf]; omega⟩
        by_cases hjk : j < k
        · exact hn.out j hjk
        · obtain rfl : j = k := by omega
          exact H1.out
    · obtain rfl : k = 66 := by omega
      have hy := hid (alpha_no c hn.out)
      go_wp2_with fail
      go_ret
      exact ⟨ret_bool hy.out.symm, rfl⟩
end Go.Proofs.YtecfkhgocjbocaaGreatDoor
