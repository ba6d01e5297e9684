/-
  Contracts of package parse and its reference: isSign, plain, heads; sign, head.
-/
import Derived.Test.YtecfkhgocjbocaaGreatDoorPrM
namespace Go.Proofs.YtecfkhgocjbocaaGreatDoor
set_option linter.unusedVariables false
set_option linter.unusedSimpArgs false
open Go Go.RowKit

theorem eqS (s : ByteArray) (l : List UInt8) : (s.toList == l) = decide (bl s = l) := by
  rw [tl_bl, Bool.eq_iff_iff]
  simp
theorem isSgn_s (s : ByteArray) : isSgn (bl s) = (s.toList == [123] || s.toList == [125] || s.toList == [59]) := by
  rw [tl_bl]
  rfl
set_option maxRecDepth 100000 in
set_option maxHeartbeats 800000 in
theorem isSign_any (s : ByteArray) (w : World) : Calls Tryz.prog 113 #[.string s] w fun e w' => e = .returned (.bool (isSgn (bl s))) ∧ w' = w := by
  have HI := hid (isSgn_s s)
  obtain ⟨b1, h1⟩ : ∃ b, (s.toList == [123]) = b := ⟨_, rfl⟩
  obtain ⟨b2, h2⟩ : ∃ b, (s.toList == [125]) = b := ⟨_, rfl⟩
  obtain ⟨b3, h3⟩ : ∃ b, (s.toList == [59]) = b := ⟨_, rfl⟩
  have HF : Hid (isSgn (bl s) = (b1 || b2 || b3)) := by
    show _ = _
    rw [HI.out, h1, h2, h3]
  clear HI
  cases b1 <;> cases b2 <;> cases b3
  all_goals
    simp only [Bool.or_true, Bool.or_false, Bool.true_or, Bool.false_or, Bool.or_self] at HF
    go_enter Tryz.func113, Tryz.ntmps113
    go_wp2_with fail
    go_ret
    exact ⟨ret_bool (by rw [HF.out]), rfl⟩
set_option maxRecDepth 100000 in
set_option maxHeartbeats 800000 in
theorem refSign_any (s : ByteArray) (w : World) : Calls Tryz.prog 83 #[.string s] w fun e w' => e = .returned (.bool (isSgn (bl s))) ∧ w' = w := by
  have HI := hid (isSgn_s s)
  obtain ⟨b1, h1⟩ : ∃ b, (s.toList == [123]) = b := ⟨_, rfl⟩
  obtain ⟨b2, h2⟩ : ∃ b, (s.toList == [125]) = b := ⟨_, rfl⟩
  obtain ⟨b3, h3⟩ : ∃ b, (s.toList == [59]) = b := ⟨_, rfl⟩
  have HF : Hid (isSgn (bl s) = (b1 || b2 || b3)) := by
    show _ = _
    rw [HI.out, h1, h2, h3]
  clear HI
  cases b1 <;> cases b2 <;> cases b3
  all_goals
    simp only [Bool.or_true, Bool.or_false, Bool.true_or, Bool.false_or, Bool.or_self] at HF
    go_enter Tryz.func83, Tryz.ntmps83
    go_wp2_with fail
    go_ret
    exact ⟨ret_bool (by rw [HF.out]), rfl⟩
set_option maxRecDepth 100000 in
set_option maxHeartbeats 800000 in
theorem plain_any (s : ByteArray) (w : World) : Calls Tryz.prog 132 #[.string s] w fun e w' => e = .returned (.int .i64 (plainW (bl s))) ∧ w' = w := by
  have e1 := eqS s wShow
  have e2 := eqS s wCompare
  have e3 := eqS s wCheck
  have e4 := eqS s wCommit
  have e5 := eqS s wConfirm
  have HP : Hid (plainW (bl s) = if bl s = wShow then 3 else if bl s = wCompare then 4 else if bl s = wCheck then 5 else if bl s = wCommit then 6 else if bl s = wConfirm then 8 else 0) := rfl
  by_cases h1 : bl s = wShow
  · rw [decide_eq_true h1] at e1
    have HF : Hid ((3 : Int) = plainW (bl s)) := by show _ = _; rw [HP.out, if_pos h1]
    clear e2 e3 e4 e5 HP h1
    simp only [wShow] at e1
    go_enter Tryz.func132, Tryz.ntmps132
    go_wp2_with fail
    go_ret
    exact ⟨ret_int HF.out, rfl⟩
  rw [decide_eq_false h1] at e1
  by_cases h2 : bl s = wCompare
  · rw [decide_eq_true h2] at e2
    have HF : Hid ((4 : Int) = plainW (bl s)) := by show _ = _; rw [HP.out, if_neg h1, if_pos h2]
    clear e3 e4 e5 HP h1 h2
    simp only [wShow, wCompare] at e1 e2
    go_enter Tryz.func132, Tryz.ntmps132
    go_wp2_with fail
    go_ret
    exact ⟨ret_int HF.out, rfl⟩
  rw [decide_eq_false h2] at e2
  by_cases h3 : bl s = wCheck
  · rw [decide_eq_true h3] at e3
    have HF : Hid ((5 : Int) = plainW (bl s)) := by show _ = _; rw [HP.out, if_neg h1, if_neg h2, if_pos h3]
    clear e4 e5 HP h1 h2 h3
    simp only [wShow, wCompare, wCheck] at e1 e2 e3
    go_enter Tryz.func132, Tryz.ntmps132
    go_wp2_with fail
    go_ret
    exact ⟨ret_int HF.out, rfl⟩
  rw [decide_eq_false h3] at e3
  by_cases h4 : bl s = wCommit
  · rw [decide_eq_true h4] at e4
    have HF : Hid ((6 : Int) = plainW (bl s)) := by show _ = _; rw [HP.out, if_neg h1, if_neg h2, if_neg h3, if_pos h4]
    clear e5 HP h1 h2 h3 h4
    simp only [wShow, wCompare, wCheck, wCommit] at e1 e2 e3 e4
    go_enter Tryz.func132, Tryz.ntmps132
    go_wp2_with fail
    go_ret
    exact ⟨ret_int HF.out, rfl⟩
  rw [decide_eq_false h4] at e4
  by_cases h5 : bl s = wConfirm
  · rw [decide_eq_true h5] at e5
    have HF : Hid ((8 : Int) = plainW (bl s)) := by show _ = _; rw [HP.out, if_neg h1, if_neg h2, if_neg h3, if_neg h4, if_pos h5]
    clear HP h1 h2 h3 h4 h5
    simp only [wShow, wCompare, wCheck, wCommit, wConfirm] at e1 e2 e3 e4 e5
    go_enter Tryz.func132, Tryz.ntmps132
    go_wp2_with fail
    go_ret
    exact ⟨ret_int HF.out, rfl⟩
  rw [decide_eq_false h5] at e5
  have HF : Hid ((0 : Int) = plainW (bl s)) := by show _ = _; rw [HP.out, if_neg h1, if_neg h2, if_neg h3, if_neg h4, if_neg h5]
  clear HP h1 h2 h3 h4 h5
  simp only [wShow, wCompare, wCheck, wCommit, wConfirm] at e1 e2 e3 e4 e5
  go_enter Tryz.func132, Tryz.ntmps132
  go_wp2_with fail
  go_ret
  exact ⟨ret_int HF.out, rfl⟩
set_option maxRecDepth 100000 in
set_option maxHeartbeats 800000 in
theorem heads_any (s : ByteArray) (w : World) : Calls Tryz.prog 108 #[.string s] w fun e w' => e = .returned (.int .i64 (headW (bl s))) ∧ w' = w := by
  have e1 := eqS s wArea
  have e2 := eqS s wInter
  have HP : Hid (headW (bl s) = if bl s = wArea then 1 else if bl s = wInter then 2 else 0) := rfl
  by_cases h1 : bl s = wArea
  · rw [decide_eq_true h1] at e1
    have HF : Hid ((1 : Int) = headW (bl s)) := by show _ = _; rw [HP.out, if_pos h1]
    clear e2 HP h1
    simp only [wArea] at e1
    go_enter Tryz.func108, Tryz.ntmps108
    go_wp2_with fail
    go_ret
    exact ⟨ret_int HF.out, rfl⟩
  rw [decide_eq_false h1] at e1
  by_cases h2 : bl s = wInter
  · rw [decide_eq_true h2] at e2
    have HF : Hid ((2 : Int) = headW (bl s)) := by show _ = _; rw [HP.out, if_neg h1, if_pos h2]
    clear HP h1 h2
    simp only [wArea, wInter] at e1 e2
    go_enter Tryz.func108, Tryz.ntmps108
    go_wp2_with fail
    go_ret
    exact ⟨ret_int HF.out, rfl⟩
  rw [decide_eq_false h2] at e2
  have HF : Hid ((0 : Int) = headW (bl s)) := by show _ = _; rw [HP.out, if_neg h1, if_neg h2]
  clear HP h1 h2
  simp only [wArea, wInter] at e1 e2
  go_enter Tryz.func108, Tryz.ntmps108
  go_wp2_with fail
  go_ret
  exact ⟨ret_int HF.out, rfl⟩
set_option maxRecDepth 100000 in
set_option maxHeartbeats 800000 in
theorem refHead_any (s : ByteArray) (w : World) : Calls Tryz.prog 82 #[.string s] w fun e w' => e = .returned (.int .i64 (headW (bl s))) ∧ w' = w := by
  have e1 := eqS s wArea
  have e2 := eqS s wInter
  have HP : Hid (headW (bl s) = if bl s = wArea then 1 else if bl s = wInter then 2 else 0) := rfl
  by_cases h1 : bl s = wArea
  · rw [decide_eq_true h1] at e1
    have HF : Hid ((1 : Int) = headW (bl s)) := by show _ = _; rw [HP.out, if_pos h1]
    clear e2 HP h1
    simp only [wArea] at e1
    go_enter Tryz.func82, Tryz.ntmps82
    go_wp2_with fail
    go_ret
    exact ⟨ret_int HF.out, rfl⟩
  rw [decide_eq_false h1] at e1
  by_cases h2 : bl s = wInter
  · rw [decide_eq_true h2] at e2
    have HF : Hid ((2 : Int) = headW (bl s)) := by show _ = _; rw [HP.out, if_neg h1, if_pos h2]
    clear HP h1 h2
    simp only [wArea, wInter] at e1 e2
    go_enter Tryz.func82, Tryz.ntmps82
    go_wp2_with fail
    go_ret
    exact ⟨ret_int HF.out, rfl⟩
  rw [decide_eq_false h2] at e2
  have HF : Hid ((0 : Int) = headW (bl s)) := by show _ = _; rw [HP.out, if_neg h1, if_neg h2]
  clear HP h1 h2
  simp only [wArea, wInter] at e1 e2
  go_enter Tryz.func82, Tryz.ntmps82
  go_wp2_with fail
  go_ret
  exact ⟨ret_int HF.out, rfl⟩
end Go.Proofs.YtecfkhgocjbocaaGreatDoor
