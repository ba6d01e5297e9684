/-
  The walks of the laws SchemaTexts and SchemaValues.
-/
import Derived.Test.YtkcphlffcpkmdaaDoorScA
namespace Go.Proofs.YtkcphlffcpkmdaaDoor
set_option linter.unusedVariables false
set_option linter.unusedSimpArgs false
open Go Go.RowKit

theorem addr_dottedV (n : Nat) (hn : n < 4294967296) : SC.addrV (SC.dotted n) = n ∧ SC.addrB (SC.dotted n) = true := by
  obtain ⟨e1, e2⟩ := addr_of (SC.addr_dotted n hn)
  exact ⟨e1, e2⟩
theorem dotted_len (n : Nat) (hn : n < 4294967296) : (SC.dotted n).length ≤ 15 := by
  have h1 := SC.digs_len (n / 16777216) 2 (by omega)
  have h2 := SC.digs_len (n / 65536 % 256) 2 (by omega)
  have h3 := SC.digs_len (n / 256 % 256) 2 (by omega)
  have h4 := SC.digs_len (n % 256) 2 (by omega)
  unfold SC.dotted
  simp
  omega
set_option maxRecDepth 100000 in
set_option maxHeartbeats 3200000 in
theorem schemaTexts_walk (s0 : ByteArray) (n : Nat) (w : World) (h0 : s0.size ≤ 9223372036854775807) (hn : n < 4294967296) (hen0 : Env w) : Calls Tryd.prog 3 #[.string s0, .int .u32 (n : Int)] w fun e w' => e = .returned (.bool true) ∧ Below w.heap.size w w' := by
  obtain ⟨m, hm, hm1, hm2⟩ : ∃ m : Nat, min (s0.size : Int) 60 = (m : Int) ∧ m ≤ s0.size ∧ m ≤ 60 := ⟨min s0.size 60, by omega, by omega, by omega⟩
  have hsz : (s0.extract 0 m).size ≤ 60 := by rw [ByteArray.size_extract]; omega
  have hen := hid hen0
  have hw0 := Below.refl w.heap.size w
  clear hen0
  generalize hs : s0.extract 0 m = s at *
  have HS := hid hs
  clear hs
  have c1 := fun w' h' => hid (addr_any s w' (by omega) h')
  have c2 := fun w' => hid (refAddr_any s w' (by omega))
  have c3 := fun w' h' => hid (net_any s w' (by omega) h')
  have c4 := fun w' => hid (refNet_any s w' (by omega))
  have c5 := fun w' => hid (decimal_any s w' (by omega))
  have c6 := fun w' => hid (refDecimal_any s w' (by omega))
  have c7 := fun w' h' => hid (dotted_any n w' hn h')
  have hdl := dotted_len n hn
  have hda := addr_dottedV n hn
  have c8 := fun w' h' => hid (addr_any (S8 (SC.dotted n)) w' (by rw [S8_size]; omega) h')
  rw [bl_S8, hda.1, hda.2] at c8
  have c9 := fun w' => hid (refDotted_any n w' hn)
  clear hda hdl
  have hadl := SC.addrV_lt (bl s)
  have hdvl := SC.decV_lt (bl s)
  generalize SC.addrV (bl s) = av at *
  generalize SC.addrB (bl s) = ab at *
  generalize SC.netA (bl s) = na at *
  generalize SC.netL (bl s) = nl at *
  generalize SC.netB (bl s) = nb at *
  generalize SC.decV (bl s) = dv at *
  generalize SC.decB (bl s) = db at *
  generalize SC.dotted n = d at *
  have t1 : ((S8 d).toList == (S8 d).toList) = true := by simp
  go_enter Tryd.func3, Tryd.ntmps3
  go_wp2_with fail
  rw [HS.out]
  refine (c1 w hen.out).out.mono ?_
  rintro e w1 ⟨rfl, hbw1⟩
  have hww1 := hw0.trans (hbw1.mono hw0.size)
  clear hw0 hbw1
  have heww1 := hen.out.below hww1
  go_wp2_with fail
  refine (c2 w1).out.mono ?_
  rintro e w2 ⟨rfl, hbw2⟩
  have hww2 := hww1.trans (hbw2.mono hww1.size)
  clear hww1 hbw2
  have heww2 := hen.out.below hww2
  go_wp2_with fail
  refine (c3 w2 heww2).out.mono ?_
  rintro e w3 ⟨rfl, hbw3⟩
  have hww3 := hww2.trans (hbw3.mono hww2.size)
  clear hww2 hbw3
  have heww3 := hen.out.below hww3
  go_wp2_with fail
  refine (c4 w3).out.mono ?_
  rintro e w4 ⟨rfl, hbw4⟩
  have hww4 := hww3.trans (hbw4.mono hww3.size)
  clear hww3 hbw4
  have heww4 := hen.out.below hww4
  go_wp2_with fail
  refine (c5 w4).out.mono ?_
  rintro e w5 ⟨rfl, hbw5⟩
  have hww5 := hww4.trans (hbw5.mono hww4.size)
  clear hww4 hbw5
  have heww5 := hen.out.below hww5
  go_wp2_with fail
  refine (c6 w5).out.mono ?_
  rintro e w6 ⟨rfl, rfl⟩
  go_wp2_with fail
  refine (c7 w6 heww5).out.mono ?_
  rintro e w7 ⟨rfl, hbw7⟩
  have hww7 := hww5.trans (hbw7.mono hww5.size)
  clear hww5 hbw7
  have heww7 := hen.out.below hww7
  go_wp2_with fail
  refine (c8 w7 heww7).out.mono ?_
  rintro e w8 ⟨rfl, hbw8⟩
  have hww8 := hww7.trans (hbw8.mono hww7.size)
  clear hww7 hbw8
  have heww8 := hen.out.below hww8
  go_wp2_with fail
  refine (reads_any w8 heww8).mono ?_
  rintro e w9 ⟨rfl, hb9⟩
  have hww9 := hww8.trans (hb9.mono hww8.size)
  have heww9 := hen.out.below hww9
  clear hww8 hb9
  go_wp2_with fail
  refine (c7 w9 heww9).out.mono ?_
  rintro e wA ⟨rfl, hbwA⟩
  have hwwA := hww9.trans (hbwA.mono hww9.size)
  clear hww9 hbwA
  have hewwA := hen.out.below hwwA
  go_wp2_with fail
  refine (c9 wA).out.mono ?_
  rintro e wB ⟨rfl, hbwB⟩
  have hwwB := hwwA.trans (hbwB.mono hwwA.size)
  clear hwwA hbwB
  have hewwB := hen.out.below hwwB
  go_wp2_with fail
  go_ret
  exact ⟨rfl, hwwB⟩
end Go.Proofs.YtkcphlffcpkmdaaDoor
