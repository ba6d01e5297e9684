/-
  The walk of the law SchemaValues.
-/
import Derived.Test.YtkcphlffcpkmdaaDoorScB
namespace Go.Proofs.YtkcphlffcpkmdaaDoor
set_option linter.unusedVariables false
set_option linter.unusedSimpArgs false
open Go Go.RowKit

theorem dec_of {l : List UInt8} {o : Option Nat} (h : SC.dec l = o) : SC.decV l = o.getD 0 ∧ SC.decB l = o.isSome := by
  subst h
  unfold SC.decV SC.decB
  cases SC.dec l <;> exact ⟨rfl, rfl⟩
set_option maxRecDepth 100000 in
set_option maxHeartbeats 3200000 in
theorem schemaValues_walk (n : Nat) (k : Int) (w : World) (hn : n < 4294967296) (hen0 : Env w) : Calls Tryd.prog 4 #[.int .u32 (n : Int), .int .i64 k] w fun e w' => e = .returned (.bool true) ∧ Below w.heap.size w w' := by
  have hen := hid hen0
  have hw0 := Below.refl w.heap.size w
  clear hen0
  obtain ⟨N, hN⟩ : ∃ N, N = n % 1000000000 := ⟨_, rfl⟩
  have hNl : N < 1000000000 := by omega
  obtain ⟨L, hL, ek⟩ : ∃ L : Nat, L < 32 ∧ wrap64 ((IntKind.u64.wrap k).tmod 32) = (L : Int) := by
    refine ⟨((IntKind.u64.wrap k) % 32).toNat, by omega, ?_⟩
    rw [Int.tmod_eq_emod_of_nonneg (by rw [IntKind.wrap_u64]; omega)]
    unfold wrap64
    rw [IntKind.wrap_u64]
    omega
  have EK := hid ek
  have HNN : Hid ((n : Int) % 1000000000 = ((N : Nat) : Int)) := by show _ = _; omega
  clear ek
  have hdl := SC.digs_len N 8 (by omega)
  have hd2 := SC.digs_len (1 + L) 1 (by omega)
  have hdo := dotted_len n hn
  have q1 := dec_of (SC.dec_digs N hNl)
  have q2 := dec_of (SC.dec_zero (SC.digs N) (SC.digs_ne N))
  have q3 := dec_of (SC.dec_sign (SC.digs N))
  have q4 := net_of (SC.net_dotted n (1 + L) hn ⟨by omega, by omega⟩)
  have q5 := net_of (SC.net_slash n hn)
  have q6 := addr_of (SC.addr_dot n)
  have c1 := fun w' => hid (refDigits_any N w' (by omega))
  have c2 := fun w' => hid (decimal_any (S8 (SC.digs N)) w' (by rw [S8_size]; omega))
  rw [bl_S8, q1.1, q1.2] at c2
  have a3 := fun w' : World => cat8 (w := w') [48] (SC.digs N) (48 :: SC.digs N) rfl (by simp; omega)
  have c3 := fun w' => hid (decimal_any (S8 (48 :: SC.digs N)) w' (by rw [S8_size]; simp; omega))
  rw [bl_S8, q2.1, q2.2] at c3
  have a4 := fun w' : World => cat8 (w := w') [43] (SC.digs N) (43 :: SC.digs N) rfl (by simp; omega)
  have c4 := fun w' => hid (decimal_any (S8 (43 :: SC.digs N)) w' (by rw [S8_size]; simp; omega))
  rw [bl_S8, q3.1, q3.2] at c4
  have c5 := fun w' h' => hid (dotted_any n w' hn h')
  have c6 := fun w' => hid (refDigits_any (1 + L) w' (by omega))
  obtain ⟨y1, hy1⟩ : ∃ y, y = SC.dotted n ++ [47] := ⟨_, rfl⟩
  have a7 := fun w' : World => cat8 (w := w') (SC.dotted n) [47] y1 hy1 (by simp; omega)
  obtain ⟨y2, hy2⟩ : ∃ y, y = y1 ++ SC.digs (1 + L) := ⟨_, rfl⟩
  have hy1l : y1.length ≤ 16 := by rw [hy1]; simp; omega
  have hy2l : y2.length ≤ 18 := by rw [hy2]; simp; omega
  have a8 := fun w' : World => cat8 (w := w') y1 (SC.digs (1 + L)) y2 hy2 (by omega)
  have hy3 : y2 = SC.dotted n ++ 47 :: SC.digs (1 + L) := by rw [hy2, hy1]; simp
  rw [← hy3] at q4
  rw [← hy1] at q5
  have c7 := fun w' h' => hid (net_any (S8 y2) w' (by rw [S8_size]; omega) h')
  rw [bl_S8, q4.1, q4.2.1, q4.2.2] at c7
  have c8 := fun w' h' => hid (net_any (S8 y1) w' (by rw [S8_size]; omega) h')
  rw [bl_S8, q5.1, q5.2.1, q5.2.2] at c8
  obtain ⟨y4, hy4⟩ : ∃ y, y = SC.dotted n ++ [46] := ⟨_, rfl⟩
  have hy4l : y4.length ≤ 16 := by rw [hy4]; simp; omega
  have a9 := fun w' : World => cat8 (w := w') (SC.dotted n) [46] y4 hy4 (by simp; omega)
  rw [← hy4] at q6
  have c9 := fun w' h' => hid (addr_any (S8 y4) w' (by rw [S8_size]; omega) h')
  rw [bl_S8, q6.1, q6.2] at c9
  rw [show S8 [48] = (⟨#[48]⟩ : ByteArray) from rfl] at a3
  rw [show S8 [43] = (⟨#[43]⟩ : ByteArray) from rfl] at a4
  rw [show S8 [47] = (⟨#[47]⟩ : ByteArray) from rfl] at a7
  rw [show S8 [46] = (⟨#[46]⟩ : ByteArray) from rfl] at a9
  simp only [Option.getD_some, Option.isSome_some, Option.getD_none, Option.isSome_none, Option.map_some, Option.map_none] at c2 c3 c4 c7 c8 c9
  clear q1 q2 q3 q4 q5 q6 hy1 hy2 hy3 hy4 hdl hd2 hdo hy1l hy2l hy4l
  generalize SC.digs N = dN at *
  generalize SC.digs (1 + L) = dL at *
  generalize SC.dotted n = d at *
  generalize 48 :: dN = z3 at *
  generalize 43 :: dN = z4 at *
  go_enter Tryd.func4, Tryd.ntmps4
  go_wp2_with fail
  rw [HNN.out]
  refine (c1 w).out.mono ?_
  rintro e w1 ⟨rfl, hbw1⟩
  have hww1 := hw0.trans (hbw1.mono hw0.size)
  clear hw0 hbw1
  have heww1 := hen.out.below hww1
  go_wp2_with fail
  refine (c2 w1).out.mono ?_
  rintro e w2 ⟨rfl, hbw2⟩
  have hww2 := hww1.trans (hbw2.mono hww1.size)
  clear hww1 hbw2
  have heww2 := hen.out.below hww2
  go_wp2_with fail
  refine (c3 w2).out.mono ?_
  rintro e w3 ⟨rfl, hbw3⟩
  have hww3 := hww2.trans (hbw3.mono hww2.size)
  clear hww2 hbw3
  have heww3 := hen.out.below hww3
  go_wp2_with fail
  refine (c4 w3).out.mono ?_
  rintro e w4 ⟨rfl, hbw4⟩
  have hww4 := hww3.trans (hbw4.mono hww3.size)
  clear hww3 hbw4
  have heww4 := hen.out.below hww4
  go_wp2_with fail
  refine (c5 w4 heww4).out.mono ?_
  rintro e w5 ⟨rfl, hbw5⟩
  have hww5 := hww4.trans (hbw5.mono hww4.size)
  clear hww4 hbw5
  have heww5 := hen.out.below hww5
  go_wp2_with fail
  rw [EK.out, show wrap64 (1 + (L : Int)) = ((1 + L : Nat) : Int) by unfold wrap64; omega]
  clear hN
  refine (c6 w5).out.mono ?_
  rintro e w6 ⟨rfl, hbw6⟩
  have hww6 := hww5.trans (hbw6.mono hww5.size)
  clear hww5 hbw6
  have heww6 := hen.out.below hww6
  go_wp2_with fail
  refine (c7 w6 heww6).out.mono ?_
  rintro e w7 ⟨rfl, hbw7⟩
  have hww7 := hww6.trans (hbw7.mono hww6.size)
  clear hww6 hbw7
  have heww7 := hen.out.below hww7
  go_wp2_with fail
  refine (c8 w7 heww7).out.mono ?_
  rintro e w8 ⟨rfl, hbw8⟩
  have hww8 := hww7.trans (hbw8.mono hww7.size)
  clear hww7 hbw8
  have heww8 := hen.out.below hww8
  go_wp2_with fail
  refine (c9 w8 heww8).out.mono ?_
  rintro e w9 ⟨rfl, hbw9⟩
  have hww9 := hww8.trans (hbw9.mono hww8.size)
  clear hww8 hbw9
  have heww9 := hen.out.below hww9
  go_wp2_with fail
  refine (reads_any w9 heww9).mono ?_
  rintro e wA ⟨rfl, hbA⟩
  have hwwA := hww9.trans (hbA.mono hww9.size)
  clear hww9 hbA
  have t1 : ((N : Int) == (n : Int) % 1000000000) = true := by rw [HNN.out]; simp
  go_wp2_with fail
  go_ret
  exact ⟨rfl, hwwA⟩
end Go.Proofs.YtkcphlffcpkmdaaDoor
