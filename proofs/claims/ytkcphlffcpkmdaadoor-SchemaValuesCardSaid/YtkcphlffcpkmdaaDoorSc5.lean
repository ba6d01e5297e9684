/-
  Contracts of layer 4's reference: Dotted.
-/
import Derived.Test.YtkcphlffcpkmdaaDoorSc4
namespace Go.Proofs.YtkcphlffcpkmdaaDoor
set_option linter.unusedVariables false
set_option linter.unusedSimpArgs false
open Go Go.RowKit

theorem cat8 {w : World} (a b c : List UInt8) (h : c = a ++ b) (hl : a.length + b.length ≤ 1000000000) : (Op.stringOp .add (S8 a) (S8 b)).run Tryd.prog w = .ok (.string (S8 c)) w := by
  rw [h, ← S8_add]
  exact run_string_add_sum w (S8 a) (S8 b) (by rw [S8_size, S8_size]; omega)
theorem u32_and_255 (x : Nat) (h : x < 4294967296) : wrap64 (bits .and .u32 (x : Int) 255) = ((x % 256 : Nat) : Int) := by
  have e1 : (BitVec.ofInt 32 (x : Int)).toNat = x := by rw [BitVec.toNat_ofInt]; omega
  have e2 : (BitVec.ofInt 32 (255 : Int)).toNat = 255 := by decide
  have h2 : bits .and .u32 (x : Int) 255 = ((x % 256 : Nat) : Int) := by
    show IntKind.u32.wrap ((BitVec.ofInt 32 (x : Int) &&& BitVec.ofInt 32 (255 : Int)).toNat : Int) = _
    rw [BitVec.toNat_and, e1, e2, show (255 : Nat) = 2 ^ 8 - 1 by decide, Nat.and_two_pow_sub_one_eq_mod, IntKind.wrap_u32]
    omega
  rw [h2]
  unfold wrap64
  omega
set_option maxRecDepth 100000 in
set_option maxHeartbeats 3200000 in
theorem refDotted_any (n : Nat) (w : World) (hn : n < 4294967296) : Calls Tryd.prog 13 #[.int .u32 (n : Int)] w fun e w' => e = .returned (.string (S8 (SC.dotted n))) ∧ Below w.heap.size w w' := by
  have l1 := SC.digs_len (n / 16777216) 2 (by omega)
  have l2 := SC.digs_len (n / 65536 % 256) 2 (by omega)
  have l3 := SC.digs_len (n / 256 % 256) 2 (by omega)
  have l4 := SC.digs_len (n % 256) 2 (by omega)
  have HD : Hid (SC.dotted n = (((((SC.digs (n / 16777216) ++ [46]) ++ SC.digs (n / 65536 % 256)) ++ [46]) ++ SC.digs (n / 256 % 256)) ++ [46]) ++ SC.digs (n % 256)) := by show _ = _; unfold SC.dotted; simp
  have hd1 := fun w => hid (refDigits_any (n / 16777216) w (by omega))
  have hd2 := fun w => hid (refDigits_any (n / 65536 % 256) w (by omega))
  have hd3 := fun w => hid (refDigits_any (n / 256 % 256) w (by omega))
  have hd4 := fun w => hid (refDigits_any (n % 256) w (by omega))
  generalize SC.digs (n / 16777216) = d1 at *
  generalize SC.digs (n / 65536 % 256) = d2 at *
  generalize SC.digs (n / 256 % 256) = d3 at *
  generalize SC.digs (n % 256) = d4 at *
  have HD2 := hid (rfl : SC.digs (n / 16777216) = SC.digs (n / 16777216))
  clear HD2
  obtain ⟨x1, h1⟩ : ∃ x, x = d1 ++ [46] := ⟨_, rfl⟩
  obtain ⟨x2, h2⟩ : ∃ x, x = x1 ++ d2 := ⟨_, rfl⟩
  obtain ⟨x3, h3⟩ : ∃ x, x = x2 ++ [46] := ⟨_, rfl⟩
  obtain ⟨x4, h4⟩ : ∃ x, x = x3 ++ d3 := ⟨_, rfl⟩
  obtain ⟨x5, h5⟩ : ∃ x, x = x4 ++ [46] := ⟨_, rfl⟩
  obtain ⟨x6, h6⟩ : ∃ x, x = x5 ++ d4 := ⟨_, rfl⟩
  have m1 : x1.length ≤ 4 := by rw [h1]; simp; omega
  have m2 : x2.length ≤ 7 := by rw [h2]; simp; omega
  have m3 : x3.length ≤ 8 := by rw [h3]; simp; omega
  have m4 : x4.length ≤ 11 := by rw [h4]; simp; omega
  have m5 : x5.length ≤ 12 := by rw [h5]; simp; omega
  have HX : Hid (x6 = SC.dotted n) := by show _ = _; rw [HD.out, h6, h5, h4, h3, h2, h1]
  have a1 := fun w' : World => cat8 (w := w') d1 [46] x1 h1 (by simp; omega)
  have a2 := fun w' : World => cat8 (w := w') x1 d2 x2 h2 (by omega)
  have a3 := fun w' : World => cat8 (w := w') x2 [46] x3 h3 (by simp; omega)
  have a4 := fun w' : World => cat8 (w := w') x3 d3 x4 h4 (by omega)
  have a5 := fun w' : World => cat8 (w := w') x4 [46] x5 h5 (by simp; omega)
  have a6 := fun w' : World => cat8 (w := w') x5 d4 x6 h6 (by omega)
  rw [show S8 [46] = (⟨#[46]⟩ : ByteArray) from rfl] at a1 a3 a5
  clear h1 h2 h3 h4 h5 h6 m1 m2 m3 m4 m5 HD
  have I1 : Hid ((n : Int) / 16777216 = ((n / 16777216 : Nat) : Int)) := by show _ = _; omega
  have I2 : Hid (wrap64 (bits BinOp.and IntKind.u32 ((n : Int) / 65536) 255) = ((n / 65536 % 256 : Nat) : Int)) := by show _ = _; rw [show (n : Int) / 65536 = ((n / 65536 : Nat) : Int) by omega]; exact u32_and_255 _ (by omega)
  have I3 : Hid (wrap64 (bits BinOp.and IntKind.u32 ((n : Int) / 256) 255) = ((n / 256 % 256 : Nat) : Int)) := by show _ = _; rw [show (n : Int) / 256 = ((n / 256 : Nat) : Int) by omega]; exact u32_and_255 _ (by omega)
  have I4 : Hid (wrap64 (bits BinOp.and IntKind.u32 (n : Int) 255) = ((n % 256 : Nat) : Int)) := by show _ = _; exact u32_and_255 _ (by omega)
  clear l1 l2 l3 l4
  go_enter Tryd.func13, Tryd.ntmps13
  go_wp2_with fail
  rw [I1.out]
  refine (hd1 w).out.mono ?_
  rintro e w1 ⟨rfl, hb1⟩
  go_wp2_with fail
  rw [I2.out]
  refine (hd2 w1).out.mono ?_
  rintro e w2 ⟨rfl, hb2⟩
  have hbw2 := hb1.trans (hb2.mono hb1.size)
  clear hb1 hb2
  go_wp2_with fail
  rw [I3.out]
  refine (hd3 w2).out.mono ?_
  rintro e w3 ⟨rfl, hb3⟩
  have hbw3 := hbw2.trans (hb3.mono hbw2.size)
  clear hbw2 hb3
  go_wp2_with fail
  rw [I4.out]
  refine (hd4 w3).out.mono ?_
  rintro e w4 ⟨rfl, hb4⟩
  have hbw4 := hbw3.trans (hb4.mono hbw3.size)
  clear hbw3 hb4
  go_wp2_with fail
  go_ret
  exact ⟨by rw [← HX.out]; rfl, hbw4⟩
end Go.Proofs.YtkcphlffcpkmdaaDoor
