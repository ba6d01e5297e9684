/-
  Contracts of disk's Write and Read where they err.
-/
import Derived.Test.YtfhlidlmipleaaaDkD
namespace Go.Proofs.Ytfhlidlmipleaaa
set_option linter.unusedVariables false
set_option linter.unusedSimpArgs false
open Go Go.RowKit

theorem mayE_vals (D : Dk) (i : Int) : mayE D i = 0 ∨ mayE D i = 1 ∨ mayE D i = 2 := by
  unfold mayE
  split
  · exact .inr (.inr rfl)
  · split
    · exact .inr (.inl rfl)
    · exact .inl rfl
set_option maxRecDepth 100000 in
set_option maxHeartbeats 800000 in
theorem read_err (base : Nat) (w : World) (D : Dk) (d gs cs r : Nat) (Ao : Option Addr) (co : Nat) (i k : Int) (h : DkAt base w D d gs cs r Ao co) (hm : mayE D i = k) (hk : k = 1 ∨ k = 2) :
    Calls Try.prog 15 #[.pointer (some ⟨d, 0, none⟩), .int .i64 i] w fun e w' => e = .returned (.tuple #[.slice none 0 0, .int .i64 k]) ∧ w' = w := by
  have HM := hid hm
  clear hm
  rcases hk with rfl | rfl
  · go_enter Try.func15, Try.ntmps15
    go_wp2_with fail
    refine (may_any base w D d gs cs r Ao co i h).mono ?_
    rintro e w1 ⟨rfl, rfl⟩
    rw [HM.out]
    go_wp2_with fail
    refine bodyPost_ret (v := .tuple #[.slice none 0 0, .int .i64 1]) (by simp [results, Try.results15, go_sem]) rfl ⟨rfl, rfl⟩
  · go_enter Try.func15, Try.ntmps15
    go_wp2_with fail
    refine (may_any base w D d gs cs r Ao co i h).mono ?_
    rintro e w1 ⟨rfl, rfl⟩
    rw [HM.out]
    go_wp2_with fail
    refine bodyPost_ret (v := .tuple #[.slice none 0 0, .int .i64 2]) (by simp [results, Try.results15, go_sem]) rfl ⟨rfl, rfl⟩
set_option maxRecDepth 100000 in
set_option maxHeartbeats 800000 in
theorem write_err (base : Nat) (w : World) (D : Dk) (d gs cs r : Nat) (Ao : Option Addr) (co : Nat) (i k : Int) (A : Option Addr) (n c : Nat) (h : DkAt base w D d gs cs r Ao co) (hm : mayE D i = k) (hk : k = 1 ∨ k = 2) :
    Calls Try.prog 17 #[.pointer (some ⟨d, 0, none⟩), .int .i64 i, .slice A n c] w fun e w' => e = .returned (.int .i64 k) ∧ w' = w := by
  have HM := hid hm
  clear hm
  rcases hk with rfl | rfl
  · go_enter Try.func17, Try.ntmps17
    go_wp2_with fail
    refine (may_any base w D d gs cs r Ao co i h).mono ?_
    rintro e w1 ⟨rfl, rfl⟩
    rw [HM.out]
    go_wp2_with fail
    go_ret
    exact ⟨rfl, rfl⟩
  · go_enter Try.func17, Try.ntmps17
    go_wp2_with fail
    refine (may_any base w D d gs cs r Ao co i h).mono ?_
    rintro e w1 ⟨rfl, rfl⟩
    rw [HM.out]
    go_wp2_with fail
    go_ret
    exact ⟨rfl, rfl⟩
set_option maxRecDepth 100000 in
set_option maxHeartbeats 800000 in
theorem write_len (base : Nat) (w : World) (D : Dk) (d gs cs r : Nat) (Ao : Option Addr) (co : Nat) (i : Int) (A : Option Addr) (n c : Nat) (h : DkAt base w D d gs cs r Ao co) (hm : mayE D i = 0) (hn : n < 64) :
    Calls Try.prog 17 #[.pointer (some ⟨d, 0, none⟩), .int .i64 i, .slice A n c] w fun e w' => e = .returned (.int .i64 1) ∧ w' = w := by
  have HM := hid hm
  have q : ((n : Int) != 64) = true := by rw [bne_iff_ne]; omega
  clear hm
  go_enter Try.func17, Try.ntmps17
  go_wp2_with fail
  refine (may_any base w D d gs cs r Ao co i h).mono ?_
  rintro e w1 ⟨rfl, rfl⟩
  rw [HM.out]
  go_wp2_with fail
  go_ret
  exact ⟨rfl, rfl⟩
set_option maxRecDepth 100000 in
set_option maxHeartbeats 800000 in
theorem write_stop (base : Nat) (w : World) (D : Dk) (d gs cs r : Nat) (Ao : Option Addr) (co : Nat) (i : Int) (A : Option Addr) (c : Nat) (h : DkAt base w D d gs cs r Ao co) (hm : mayE D i = 0) (hs : (stepD D).2 = 2) :
    Calls Try.prog 17 #[.pointer (some ⟨d, 0, none⟩), .int .i64 i, .slice A 64 c] w fun e w' => e = .returned (.int .i64 2) ∧ DkAt base w' (stepD D).1 d gs cs r Ao co ∧ Kept (fun b => b = d) w w' := by
  have HM := hid hm
  have HS := hid hs
  clear hm hs
  go_enter Try.func17, Try.ntmps17
  go_wp2_with fail
  refine (may_any base w D d gs cs r Ao co i h).mono ?_
  rintro e w1 ⟨rfl, rfl⟩
  rw [HM.out]
  go_wp2_with fail
  refine (step_any base w1 D d gs cs r Ao co h).mono ?_
  rintro e w2 ⟨rfl, h2, hk2⟩
  rw [HS.out]
  go_wp2_with fail
  go_ret
  exact ⟨rfl, h2, hk2⟩
end Go.Proofs.Ytfhlidlmipleaaa
