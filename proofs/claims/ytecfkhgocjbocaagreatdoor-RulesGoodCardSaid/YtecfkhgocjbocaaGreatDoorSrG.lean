/-
  Named, in the code and in the reference.
-/
import Derived.Test.YtecfkhgocjbocaaGreatDoorSrF
namespace Go.Proofs.YtecfkhgocjbocaaGreatDoor
set_option linter.unusedVariables false
set_option linter.unusedSimpArgs false
open Go Go.RowKit

/-- no slash -/
def noSl (l : List UInt8) : Bool := decide ((SC.cut 47 l).length = 1)
theorem noSl_ix (l : List UInt8) : decide (0 ≤ Lib.indexByte l 47) = !noSl l := by
  unfold noSl
  induction l with
  | nil => rfl
  | cons b r ih =>
    unfold Lib.indexByte SC.cut
    have hge := Lib.indexByte_ge r 47
    by_cases hb : b = 47
    · subst hb
      have h5 := List.length_pos_iff.2 (SC.cut_ne 47 r)
      have e : decide ((SC.cut 47 r).length + 1 = 1) = false := by rw [decide_eq_false_iff_not]; omega
      rw [if_pos (show ((47 : UInt8) == 47) = true by decide), if_pos (show (47 : UInt8) = 47 from rfl), List.length_cons, e]
      rfl
    · have h1 : (b == 47) = false := beq_eq_false_iff_ne.2 hb
      rw [h1, if_neg hb]
      cases hC : SC.cut 47 r with
      | nil => exact absurd hC (SC.cut_ne 47 r)
      | cons x y =>
      rw [hC] at ih
      show _ = !decide (((b :: x) :: y).length = 1)
      rw [show ((b :: x) :: y).length = (x :: y).length from rfl, ← ih]
      rw [Bool.eq_iff_iff]
      by_cases h3 : Lib.indexByte r 47 = -1
      · rw [h3]; decide
      · have h4 : (Lib.indexByte r 47 == -1) = false := beq_eq_false_iff_ne.2 h3
        rw [h4]
        simp
        omega
/-- may a name be a head's? -/
def namedR (head : Int) (l : List UInt8) : Bool := if head = 0 then decide (l = []) else if head = 1 then SC.addrB l else if head = 2 then LX.isW l && noSl l else false
theorem slash_any (s : ByteArray) (w : World) : Calls Tryz.prog 117 #[.string s, .string ⟨#[47]⟩] w fun e w' => e = .returned (.bool (!noSl (bl s))) ∧ w' = w := by
  have := Any.strings_Contains_one Tryz.lays144 s 47 w
  rw [show s.data.toList = bl s from rfl, noSl_ix] at this
  exact this
theorem emp_s (s : ByteArray) : s.toList.isEmpty = decide (bl s = []) := by
  rw [tl_bl]
  cases bl s <;> simp
set_option maxRecDepth 100000 in
set_option maxHeartbeats 1600000 in
theorem named_any (head : Int) (s : ByteArray) (w : World) (hs : s.size ≤ 2000000) (hen : Env w) : Calls Tryz.prog 85 #[.int .i64 head, .string s] w fun e w' => e = .returned (.bool (namedR head (bl s))) ∧ Below w.heap.size w w' := by
  by_cases h0 : head = 0
  · subst h0
    have HR : Hid (namedR 0 (bl s) = s.toList.isEmpty) := by show _ = _; unfold namedR; rw [if_pos rfl, emp_s]
    obtain ⟨be, hbe⟩ : ∃ b, s.toList.isEmpty = b := ⟨_, rfl⟩
    go_enter Tryz.func85, Tryz.ntmps85
    go_wp2_with fail
    go_ret
    refine ⟨ret_bool ?_, Below.refl _ _⟩
    rw [HR.out]
    exact hbe.symm
  have t0 : (head == 0) = false := by simpa using h0
  by_cases h1 : head = 1
  · subst h1
    have HR : Hid (namedR 1 (bl s) = SC.addrB (bl s)) := rfl
    go_enter Tryz.func85, Tryz.ntmps85
    go_wp2_with fail
    refine (addr_any s w hs hen).mono ?_
    rintro e w1 ⟨rfl, hb⟩
    go_wp2_with fail
    go_ret
    exact ⟨ret_bool HR.out.symm, hb⟩
  have t1 : (head == 1) = false := by simpa using h1
  by_cases h2 : head = 2
  · subst h2
    have HR : Hid (namedR 2 (bl s) = (LX.isW (bl s) && noSl (bl s))) := rfl
    go_enter Tryz.func85, Tryz.ntmps85
    go_wp2_with fail
    refine (isWord_any s w (by omega)).mono ?_
    rintro e w1 ⟨rfl, rfl⟩
    cases hd : LX.isW (bl s) with
    | false =>
      go_wp2_with fail
      go_ret
      exact ⟨ret_bool (by rw [HR.out, hd]; rfl), Below.refl _ _⟩
    | true =>
      go_wp2_with fail
      refine (slash_any s w1).mono ?_
      rintro e w2 ⟨rfl, rfl⟩
      obtain ⟨b, hb⟩ : ∃ b, noSl (bl s) = b := ⟨_, rfl⟩
      rw [hb]
      have HB := hid hb
      clear hb
      go_wp2_with fail
      go_ret
      exact ⟨ret_bool (by rw [HR.out, hd, HB.out]; simp), Below.refl _ _⟩
  have t2 : (head == 2) = false := by simpa using h2
  have HR : Hid (namedR head (bl s) = false) := by show _ = _; unfold namedR; rw [if_neg h0, if_neg h1, if_neg h2]
  clear h0 h1 h2
  go_enter Tryz.func85, Tryz.ntmps85
  go_wp2_with fail
  go_ret
  exact ⟨ret_bool HR.out.symm, Below.refl _ _⟩
set_option maxRecDepth 100000 in
set_option maxHeartbeats 1600000 in
theorem refNamed_any (head : Int) (s : ByteArray) (w : World) (hs : s.size ≤ 2000000) : Calls Tryz.prog 64 #[.int .i64 head, .string s] w fun e w' => e = .returned (.bool (namedR head (bl s))) ∧ Below w.heap.size w w' := by
  by_cases h0 : head = 0
  · subst h0
    have HR : Hid (namedR 0 (bl s) = s.toList.isEmpty) := by show _ = _; unfold namedR; rw [if_pos rfl, emp_s]
    obtain ⟨be, hbe⟩ : ∃ b, s.toList.isEmpty = b := ⟨_, rfl⟩
    go_enter Tryz.func64, Tryz.ntmps64
    go_wp2_with fail
    go_ret
    refine ⟨ret_bool ?_, Below.refl _ _⟩
    rw [HR.out]
    exact hbe.symm
  have t0 : (head == 0) = false := by simpa using h0
  by_cases h1 : head = 1
  · subst h1
    have HR : Hid (namedR 1 (bl s) = SC.addrB (bl s)) := rfl
    go_enter Tryz.func64, Tryz.ntmps64
    go_wp2_with fail
    refine (refAddr_any s w hs).mono ?_
    rintro e w1 ⟨rfl, hb⟩
    go_wp2_with fail
    go_ret
    exact ⟨ret_bool HR.out.symm, hb⟩
  have t1 : (head == 1) = false := by simpa using h1
  by_cases h2 : head = 2
  · subst h2
    have HR : Hid (namedR 2 (bl s) = (LX.isW (bl s) && noSl (bl s))) := rfl
    have hp := fun w => refParts_any s 47 w hs
    rw [show (((47 : UInt8).toNat : Nat) : Int) = 47 from rfl] at hp
    have HP := hid hp
    clear hp
    go_enter Tryz.func64, Tryz.ntmps64
    go_wp2_with fail
    refine (refWord_any s w hs).mono ?_
    rintro e w1 ⟨rfl, hb1⟩
    cases hd : LX.isW (bl s) with
    | false =>
      go_wp2_with fail
      go_ret
      exact ⟨ret_bool (by rw [HR.out, hd]; rfl), hb1⟩
    | true =>
      go_wp2_with fail
      refine (HP.out w1).mono ?_
      rintro e w2 ⟨A, c, rfl, ho, hb2⟩
      have hbw := hb1.trans (hb2.mono hb1.size)
      have HB : Hid (noSl (bl s) = decide ((SC.cut 47 (bl s)).length = 1)) := rfl
      generalize SC.cut 47 (bl s) = L at *
      clear ho hb1 hb2 HP
      go_wp2_with fail
      go_ret
      exact ⟨ret_bool (by rw [HR.out, hd, HB.out, Bool.eq_iff_iff]; simp; try omega), hbw⟩
  have t2 : (head == 2) = false := by simpa using h2
  have HR : Hid (namedR head (bl s) = false) := by show _ = _; unfold namedR; rw [if_neg h0, if_neg h1, if_neg h2]
  clear h0 h1 h2
  go_enter Tryz.func64, Tryz.ntmps64
  go_wp2_with fail
  go_ret
  exact ⟨ret_bool HR.out.symm, Below.refl _ _⟩
end Go.Proofs.YtecfkhgocjbocaaGreatDoor
