/-
  Contract of slot.
-/
import Derived.Test.YtfhlidlmipleaaaJn1
import Derived.Test.YtfhlidlmipleaaaApp
import Derived.Test.YtfhlidlmipleaaaRegE
import Derived.Test.YtfhlidlmipleaaaStr
namespace Go.Proofs.Ytfhlidlmipleaaa
set_option linter.unusedVariables false
set_option linter.unusedSimpArgs false
open Go Go.RowKit LM

def slotB (gen half : Nat) : List UInt8 := [87, 65, 89, 83] ++ be 8 gen ++ [UInt8.ofNat half] ++ List.replicate 47 0
def slotJ (gen half : Nat) : List UInt8 := slotB gen half ++ be 4 (crcOf (slotB gen half))
theorem slotB_len (gen half : Nat) : (slotB gen half).length = 60 := by simp [slotB, be_length]
theorem slotJ_len (gen half : Nat) : (slotJ gen half).length = 64 := by simp [slotJ, slotB_len, be_length]
theorem crcOf_lt (l : List UInt8) : crcOf l < 4294967296 := by unfold crcOf; omega
theorem info_u8 : (Try.prog.info? 5).map (fun i => i.zero) = some (some (.int .u8 0)) := by kernel_rfl
theorem und_str : Try.prog.underlying 9 = some .string := by kernel_rfl
theorem und_int : Try.prog.underlying 3 = some (.int .i64) := by kernel_rfl
theorem mk0 (w : World) (c : Nat) (hc : c ≤ 1099511627776) : ∃ w1, (Instr.makeSlice 27 (.int .i64 0) (.int .i64 (c : Int))).run Try.prog w = .ok (.slice (some ⟨w.heap.size, 0, none⟩) 0 c) w1 ∧ w1.ownsRow w.heap.size 5 1 (.slice (some ⟨w.heap.size, 0, none⟩) 0 c) 0 (B8 []) ∧ w.grownBy w1 none := by
  obtain ⟨ht, _, i, z, hi, hz, hsi, hby, hzs⟩ := st_bytes
  exact run_make_own (P := Try.prog) w w.heap.size 27 5 i z 1 ht hi hz hsi .i64 .i64 c (by rw [hby]; omega) (by simp [maxLen]; omega) (Nat.le_refl _)
theorem grown_none_below {w w' : World} (h : w.grownBy w' none) : Below w.heap.size w w' := (Below.refl _ _).grown h (Nat.le_refl _) (by intro k hk; cases hk)
set_option maxRecDepth 100000 in
set_option maxHeartbeats 800000 in
theorem slot_any (gen half : Nat) (w : World) (hg : gen < 18446744073709551616) (hh : half < 256) :
    Calls Try.prog 112 #[.int .u64 gen, .int .i64 half] w fun e w' => ∃ A c, e = .returned (.slice A 64 c) ∧ w'.ownsRow w.heap.size 5 1 (.slice A 64 c) 64 (B8 (slotJ gen half)) ∧ Below w.heap.size w w' := by
  obtain ⟨w1, hm0, hown, hgr⟩ := mk0 w 64 (by omega)
  have hm : (Instr.makeSlice 27 (.int .i64 0) (.int .i64 64)).run Try.prog w = .ok (.slice (some ⟨w.heap.size, 0, none⟩) 0 64) w1 := hm0
  clear hm0
  have hz1 := hgr.size
  have HS : Hid ([87, 65, 89, 83] ++ be 8 gen ++ [UInt8.ofNat half] ++ List.replicate 47 0 = slotB gen half) := hid rfl
  have HJ : Hid (slotB gen half ++ be 4 (crcOf (slotB gen half)) = slotJ gen half) := hid rfl
  have hbw := grown_none_below hgr
  generalize hbs : w.heap.size = B at *
  go_enter Try.func112, Try.ntmps112
  go_wp2_with (at_builtin; refine wpList_app_str rfl (.tmp 7) (.const (.string ⟨#[87, 65, 89, 83]⟩)) st_bytes info_u8 und_str rfl B rfl hown [87, 65, 89, 83] rfl (by simp) hz1 ?_)
  intro A2 c2 w2 hown2 hg2 hf2
  have hz2 : B ≤ w2.heap.size := Nat.le_trans hz1 hg2.size
  have hb2 := hbw.trans (grown_below hown hg2 hz1)
  rw [← B8_append, List.nil_append] at hown2
  clear hf2 hg2 hown hgr hm hbw
  go_wp2_with fail
  refine (numJ_any B 4 c2 8 A2 _ gen w2 hown2 hz2 hg (by omega) (by omega)).mono ?_
  rintro e w3 ⟨A3, c3, rfl, hown3, hg3, hf3⟩
  have hz3 : B ≤ w3.heap.size := Nat.le_trans hz2 hg3.size
  have hb3 := hb2.trans (grown_below hown2 hg3 hz2)
  clear hf3 hg3 hown2 hb2
  have hsl : Sl (w3.alloc (.cells #[.int .u8 (half : Int)] 5)) 1 (.slice (some ⟨w3.heap.size, 0, none⟩) 1 1) (B8 [UInt8.ofNat half]) := by
    refine sl_new _ _ _ _ _ _ rfl ?_ rfl (by simp)
    simp [B8]; omega
  have hbb := hb3.alloc hz3 (.cells #[.int .u8 (half : Int)] 5)
  have hzz : B ≤ (w3.alloc (.cells #[.int .u8 (half : Int)] 5)).heap.size := by simp; omega
  have hoo := hown3.alloc (.cells #[.int .u8 (half : Int)] 5)
  go_wp2_with (at_builtin; refine wpList_app rfl (.tmp 10) (.tmp 13) st_bytes rfl B rfl hoo rfl hsl (B8_one _) (by simp [maxLen]) (by omega) (by simp; omega) ?_)
  intro A4 c4 w4 hown4 hg4 hf4
  have hb4 := hbb.trans (grown_below hoo hg4 hzz)
  rw [← B8_append] at hown4
  clear hsl hoo hbb hown3 hb3 hg4 hf4
  have hz4 : B ≤ w4.heap.size := by rw [← hbs]; exact hb4.size
  go_wp2_with (at_builtin; refine wpList_app_zeros rfl (.tmp 15) (.tmp 18) st_bytes info_u8 und_str und_int rfl B rfl hown4 47 rfl (by omega) hz4 ?_)
  intro A5 c5 w5 hown5 hg5 hf5
  have hb5 := hb4.trans (grown_below hown4 hg5 hz4)
  have hz5 : B ≤ w5.heap.size := by rw [← hbs]; exact hb5.size
  rw [← B8_append] at hown5
  replace hown5 : w5.ownsRow B 5 1 (.slice A5 60 c5) 60 (B8 (slotB gen half)) := hown5
  clear hown4 hb4 hg5 hf5
  go_wp2_with fail
  refine (Crc_any A5 _ c5 _ w5 (own_sl hown5)).mono ?_
  rintro e w6 ⟨rfl, rfl⟩
  have hcl := crcOf_lt (slotB gen half)
  have HJ2 : Hid (slotB gen half ++ be 4 (crcOf (slotB gen half)) = slotJ gen half) := hid rfl
  generalize crcOf (slotB gen half) = cr at *
  go_wp2_with fail
  refine (numJ_any B 60 c5 4 A5 _ cr w6 hown5 hz5 (by omega) (by omega) (by omega)).mono ?_
  rintro e w7 ⟨A7, c7, rfl, hown7, hg7, hf7⟩
  have hb7 := hb5.trans (grown_below hown5 hg7 hz5)
  rw [HJ2.out] at hown7
  clear hf7 hg7 hown5 hb5
  go_wp2_with fail
  go_ret
  exact ⟨A7, c7, rfl, hown7, hb7⟩
end Go.Proofs.Ytfhlidlmipleaaa
