/-
  Contract of frame.
-/
import Derived.Test.YtfhlidlmipleaaaJn5
namespace Go.Proofs.Ytfhlidlmipleaaa
set_option linter.unusedVariables false
set_option linter.unusedSimpArgs false
open Go Go.RowKit LM

def headJ (gen idx n : Nat) : List UInt8 := [70] ++ be 8 gen ++ be 4 idx ++ be 2 n
def sumJ (gen idx : Nat) (l : List UInt8) : Nat := crcOf (headJ gen idx l.length ++ l)
def frameJ (gen idx : Nat) (l : List UInt8) : List UInt8 := (headJ gen idx l.length ++ be 4 (sumJ gen idx l) ++ l) ++ List.replicate (takesN l.length * 64 - (19 + l.length)) 0
theorem headJ_len (gen idx n : Nat) : (headJ gen idx n).length = 15 := by simp [headJ, be_length]
theorem takesN_ge (n : Nat) : n + 19 ≤ takesN n * 64 := by unfold takesN; omega
theorem frameJ_len (gen idx : Nat) (l : List UInt8) : (frameJ gen idx l).length = takesN l.length * 64 := by
  have := takesN_ge l.length
  simp [frameJ, headJ_len, be_length]
  omega
theorem sumJ_eq (gen idx : Nat) (l : List UInt8) : ((4294967295 ^^^ crcL (crcL 4294967295 (headJ gen idx l.length)) l : Nat)) = sumJ gen idx l := by
  rw [← crcL_app, not32 _ (crcL_lt (by omega) _)]
  rfl
set_option maxRecDepth 100000 in
set_option maxHeartbeats 1600000 in
theorem frame_any (base : Nat) (w : World) (J : Jn) (j d : Nat) (K : Nat → Prop) (h : Jrn base w J j d K) (hg : J.gen < 18446744073709551616) (ha : J.all.length ≤ 1099511627776) (A : Option Addr) (n c : Nat) (l : List UInt8) (hl : Sl w 1 (.slice A n c) (B8 l)) (hn : n ≤ 1099511627776) :
    Calls Try.prog 114 #[.pointer (some ⟨j, 0, none⟩), .slice A n c] w fun e w' => ∃ A' c', e = .returned (.slice A' (takesN n * 64) c') ∧ w'.ownsRow w.heap.size 5 1 (.slice A' (takesN n * 64) c') (takesN n * 64) (B8 (frameJ J.gen J.all.length l)) ∧ Below w.heap.size w w' := by
  obtain ⟨Aa, ca, hjl, hca1, hca2, q0, q1, q2, q3, q4, q5⟩ := h.cells
  have hll := hl.len.1
  have htk := takesN_ge n
  have htk2 : takesN n * 64 ≤ n + 82 := by unfold takesN; omega
  have HF : Hid ((headJ J.gen J.all.length l.length ++ be 4 (sumJ J.gen J.all.length l) ++ l) ++ List.replicate (takesN l.length * 64 - (19 + l.length)) 0 = frameJ J.gen J.all.length l) := hid rfl
  rw [hll] at HF
  have HS := hid (sumJ_eq J.gen J.all.length l)
  rw [hll] at HS
  have hsl : sumJ J.gen J.all.length l < 4294967296 := crcOf_lt _
  clear q0 q2 q4 q5
  have hrow : (w.alloc (.cells #[.int .u8 70] 5)).ownsRow w.heap.size 5 1 (.slice (some ⟨w.heap.size, 0, none⟩) 1 1) 1 (B8 [70]) := World.ownsRow_lit (size := 1) w #[.int .u8 70] 1 (Nat.le_refl _) (by simp [maxLen]) (by simp)
  have hal := (Below.refl w.heap.size w).alloc (Nat.le_refl _) (.cells #[.int .u8 70] 5)
  have hz1 : w.heap.size ≤ (w.alloc (.cells #[.int .u8 70] 5)).heap.size := by simp
  have q3' := (hal.cell (p := ⟨j, 3, none⟩) hjl).trans q3
  go_enter Try.func114, Try.ntmps114
  go_wp2_with fail
  generalize hB : w.heap.size = B at *
  generalize w.alloc (.cells #[.int .u8 70] 5) = w1 at *
  refine (numJ_any B 1 1 8 _ _ J.gen w1 hrow hz1 hg (by omega) (by omega)).mono ?_
  rintro e w2 ⟨A2, c2, rfl, hown2, hg2, hf2⟩
  have hz2 : B ≤ w2.heap.size := Nat.le_trans hz1 hg2.size
  have hb2 := hal.trans (grown_below hrow hg2 hz1)
  have q32 := (hb2.cell (p := ⟨j, 3, none⟩) hjl).trans q3
  clear hf2 hg2 hrow hal q3' q1
  go_wp2_with fail
  refine (numJ_any B 9 c2 4 A2 _ J.all.length w2 hown2 hz2 (by omega) (by omega) (by omega)).mono ?_
  rintro e w3 ⟨A3, c3, rfl, hown3, hg3, hf3⟩
  have hz3 : B ≤ w3.heap.size := Nat.le_trans hz2 hg3.size
  have hb3 := hb2.trans (grown_below hown2 hg3 hz2)
  clear hf3 hg3 hown2 hb2 q32 q3
  go_wp2_with fail
  refine (numJ_any B 13 c3 2 A3 _ n w3 hown3 hz3 (by omega) (by omega) (by omega)).mono ?_
  rintro e w4 ⟨A4, c4, rfl, hown4, hg4, hf4⟩
  have hz4 : B ≤ w4.heap.size := Nat.le_trans hz3 hg4.size
  have hb4 := hb3.trans (grown_below hown3 hg4 hz3)
  replace hown4 : w4.ownsRow B 5 1 (.slice A4 15 c4) 15 (B8 (headJ J.gen J.all.length n)) := hown4
  clear hf4 hg4 hown3 hb3
  have hl4 := hl.below (hB ▸ hb4)
  go_wp2_with fail
  refine (crc_any 4294967295 (by omega) A4 15 c4 _ w4 (own_sl hown4)).mono ?_
  rintro e w5 ⟨rfl, rfl⟩
  have hcl := crcL_lt (n := 4294967295) (by omega) (headJ J.gen J.all.length n)
  have hcl2 := crcL_lt hcl l
  go_wp2_with fail
  refine (crc_any _ hcl A n c l w5 hl4).mono ?_
  rintro e w6 ⟨rfl, rfl⟩
  have eb : bits BinOp.xor IntKind.u32 IntKind.u32.max ((crcL (crcL 4294967295 (headJ J.gen J.all.length n)) l : Nat) : Int) = ((sumJ J.gen J.all.length l : Nat) : Int) := by
    rw [show IntKind.u32.max = ((4294967295 : Nat) : Int) from rfl, xor32 _ _ (by omega) hcl2, HS.out]
  clear HS hcl
  generalize crcL (crcL 4294967295 (headJ J.gen J.all.length n)) l = cl at *
  generalize sumJ J.gen J.all.length l = sm at *
  have ew : IntKind.u64.wrap (sm : Int) = sm := by rw [IntKind.wrap_u64]; omega
  go_wp2_with fail
  refine (numJ_any B 15 c4 4 A4 _ sm w6 hown4 hz4 (by omega) (by omega) (by omega)).mono ?_
  rintro e w7 ⟨A7, c7, rfl, hown7, hg7, hf7⟩
  have hz7 : B ≤ w7.heap.size := Nat.le_trans hz4 hg7.size
  have hb7 := hb4.trans (grown_below hown4 hg7 hz4)
  have hl7 := hl.below (hB ▸ hb7)
  clear hf7 hg7 hown4 hb4 hl4 eb hcl2
  go_wp2_with (at_builtin; refine wpList_app rfl (.tmp 34) (.tmp 35) st_bytes rfl B rfl hown7 rfl hl7 (B8_one _) (by simp [maxLen]; omega) (by omega) hz7 ?_)
  intro A8 c8 w8 hown8 hg8 hf8
  have hz8 : B ≤ w8.heap.size := Nat.le_trans hz7 hg8.size
  have hb8 := hb7.trans (grown_below hown7 hg8 hz7)
  rw [← B8_append] at hown8
  clear hf8 hg8 hown7 hb7 hl7
  obtain ⟨kz, hkz⟩ : ∃ kz : Nat, takesN n * 64 - (19 + n) = kz := ⟨_, rfl⟩
  have ez : (takesN n : Int) * 64 - (19 + (n : Int)) = (kz : Int) := by omega
  rw [hkz] at HF
  go_wp2_with fail
  refine (takes_any n hn w8).mono ?_
  rintro e w9 ⟨rfl, rfl⟩
  go_wp2_with (at_builtin; refine wpList_app_zeros rfl (.tmp 37) (.tmp 44) st_bytes info_u8 und_str und_int rfl B rfl hown8 kz rfl (by omega) hz8 ?_)
  intro A10 c10 w10 hown10 hg10 hf10
  have hb10 := hb8.trans (grown_below hown8 hg10 hz8)
  have e19 : 19 + n + kz = takesN n * 64 := by omega
  rw [← B8_append, ← List.append_assoc (headJ J.gen J.all.length n) (be 4 sm) l, HF.out, e19] at hown10
  rw [e19]
  clear hg10 hown8 hb8 ez hkz HF e19 hf10
  go_wp2_with fail
  go_ret
  exact ⟨A10, c10, rfl, by rw [hB]; exact hown10, by rw [hB]; exact hb10⟩
end Go.Proofs.Ytfhlidlmipleaaa
