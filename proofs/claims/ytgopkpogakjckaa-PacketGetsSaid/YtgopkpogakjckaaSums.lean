/-
  Contracts of package sums and of the reference's sums.
-/
import Derived.Test.YtgopkpogakjckaaProg
import Derived.Test.YtgopkpogakjckaaBase
import Derived.Test.YtgopkpogakjckaaSumsM
namespace Go.Proofs.Ytgopkpogakjckaa
set_option linter.unusedVariables false
set_option linter.unusedSimpArgs false
open Go.RowKit SM

theorem st_bytes : ST Try.prog 31 5 1 1 := .mk Try.underlying31 (z := .int .u8 0) (by kernel_rfl) rfl (by omega)

set_option maxRecDepth 100000 in
set_option maxHeartbeats 400000 in
theorem internet_any (A : Option Addr) (n c : Nat) (l : List UInt8) (w : World) (h : Sl w 1 (.slice A n c) (B8 l)) (hn : n ≤ 4294967296) :
    Calls Try.prog 78 #[.slice A n c] w fun e w' => e = .returned (.int .u16 (inet l : Nat)) ∧ w = w' := by
  have hl := h.len
  obtain ⟨hl1, hl2, hl3⟩ := hl
  have HL := hid hl1
  clear hl1
  go_enter Try.func78, Try.ntmps78
  go_wp2
  go_loop [3, 8] (fun s i => ∃ k : Nat, k ≤ n ∧ i = .int .i64 k ∧ s = .int .u64 (isum l k : Nat)) (fun _ i => n - (intOf i).toNat)
  case atStart => exact ⟨0, Nat.zero_le _, rfl, rfl⟩
  case round =>
    obtain ⟨k, hk, rfl, rfl⟩ := hrel
    have hs1 := isum_le l k
    by_cases hlt : k < n
    · obtain ⟨b, off, rfl, _, hc⟩ := h.byte hlt
      have hx := byt_lt l k
      have H1 := hid (show isum l (k + 1) = isum l k + isumAt l k from rfl)
      go_wp2
      all_goals
        go_light
        refine ⟨⟨k + 1, by omega, by go_num, ?_⟩, by simp [intOf]; omega⟩
        have H2 := H1.out
        have H3 : isumAt l k = if k % 2 = 0 then byt l k * 256 else byt l k := rfl
        rename_i hpar
        simp at hpar
        refine congrArg _ ?_
        split at H3 <;> omega
    · go_wp2
      go_loop [3] (fun s => ∃ m : Nat, fold m = fold (isum l n) ∧ m ≤ 65280 * n ∧ s = .int .u64 (m : Nat)) (fun s => (intOf s).toNat)
      case atStart => exact ⟨isum l k, by rw [show k = n from by omega], by rw [show k = n from by omega] at hs1 ⊢; exact hs1, rfl⟩
      case round =>
        obtain ⟨m, hf, hm, rfl⟩ := hrel
        have HF := hid hf
        clear hf
        have hand : bits .and .u64 (m : Int) 65535 = ((m % 65536 : Nat) : Int) := by
          have := u64_and_nat m 65535 (by omega) (by omega)
          rw [show m &&& 65535 = m % 65536 from Nat.and_two_pow_sub_one_eq_mod m 16] at this
          exact this
        have HX : Hid (m ≤ 65535 → bits .xor .u16 IntKind.u16.max (m : Int) = ((65535 - m : Nat) : Int)) := fun hm => by
          have := u16_xor_nat 65535 m (by omega) (by omega)
          rw [not16 m (by omega)] at this
          exact this
        go_wp2
        · go_light
          have HF' := HF.out
          have h65 : 65535 < m := by omega
          refine ⟨⟨m / 65536 + m % 65536, by rw [fold_step h65]; exact HF', by omega, by go_num⟩, ?_⟩
          simp [intOf]
          omega
        · have h65 : m ≤ 65535 := by omega
          go_ret
          refine ⟨ret_int ?_, rfl⟩
          rw [HX.out h65]
          have h1 := HF.out
          rw [fold_small h65] at h1
          unfold inet
          rw [HL.out, ← h1]

set_option maxRecDepth 100000 in
set_option maxHeartbeats 400000 in
theorem refInternet_any (A : Option Addr) (n c : Nat) (l : List UInt8) (w : World) (h : Sl w 1 (.slice A n c) (B8 l)) :
    Calls Try.prog 45 #[.slice A n c] w fun e w' => e = .returned (.int .u16 (inet l : Nat)) ∧ w = w' := by
  obtain ⟨hl1, hl2, hl3⟩ := h.len
  have HL := hid hl1
  clear hl1
  go_enter Try.func45, Try.ntmps45
  go_wp2
  go_loop [3, 4] (fun s i => ∃ k : Nat, k ≤ n ∧ i = .int .i64 k ∧ s = .int .i64 (wide l k : Nat)) (fun _ i => n - (intOf i).toNat)
  case atStart => exact ⟨0, Nat.zero_le _, rfl, rfl⟩
  case round =>
    obtain ⟨k, hk, rfl, rfl⟩ := hrel
    have hs1 := fold_le (isum l k)
    have hs2 : wide l k ≤ 65535 := hs1
    clear hs1
    by_cases hlt : k < n
    · obtain ⟨b, off, rfl, _, hc⟩ := h.byte hlt
      have hx := byt_lt l k
      have H1 := hid (wide_succ l k)
      go_wp2
      all_goals
        go_light
        refine ⟨⟨k + 1, by omega, by go_num, ?_⟩, by simp [intOf]; omega⟩
        have H2 := H1.out
        have H3 : isumAt l k = if k % 2 = 0 then byt l k * 256 else byt l k := rfl
        simp at *
        split at H2 <;> split at H3 <;> omega
    · go_wp2
      have h1 : wide l k = fold (isum l n) := by rw [show k = n from by omega]; rfl
      have h2 := fold_le (isum l n)
      go_ret
      refine ⟨ret_int ?_, rfl⟩
      unfold inet
      rw [HL.out]
      go_num

set_option maxRecDepth 100000 in
set_option maxHeartbeats 400000 in
theorem both_any (A : Option Addr) (n c : Nat) (l : List UInt8) (w : World) (h : Sl w 1 (.slice A n c) (B8 l)) :
    Calls Try.prog 116 #[.slice A n c] w fun e w' => e = .returned (.tuple #[.int .i64 (c0 l n : Nat), .int .i64 (c1 l n : Nat)]) ∧ w = w' := by
  obtain ⟨hl1, hl2, hl3⟩ := h.len
  have HL := hid hl1
  clear hl1
  go_enter Try.func116, Try.ntmps116
  go_wp2
  go_loop [4, 5, 10] (fun x y i => ∃ k : Nat, k ≤ n ∧ i = .int .i64 k ∧ x = .int .i64 (c0 l k : Nat) ∧ y = .int .i64 (c1 l k : Nat)) (fun _ _ i => n - (intOf i).toNat)
  case atStart => exact ⟨0, Nat.zero_le _, rfl, rfl, rfl⟩
  case round =>
    obtain ⟨k, hk, rfl, rfl, rfl⟩ := hrel
    have hx0 := c0_lt l k
    have hx1 := c1_lt l k
    by_cases hlt : k < n
    · obtain ⟨b, off, rfl, _, hc⟩ := h.byte hlt
      have hx := byt_lt l k
      have H1 := hid (show c0 l (k + 1) = (c0 l k + byt l k) % 255 from rfl)
      have H2 := hid (show c1 l (k + 1) = (c1 l k + c0 l (k + 1)) % 255 from rfl)
      go_wp2
      go_light
      refine ⟨⟨k + 1, by omega, by go_num, ?_, ?_⟩, by simp [intOf]; omega⟩
      · rw [H1.out]; go_num
      · rw [H2.out, H1.out]; go_num
    · go_wp2
      obtain rfl : k = n := by omega
      go_ret2
      exact ⟨rfl, rfl⟩

set_option maxRecDepth 100000 in
set_option maxHeartbeats 400000 in
theorem right_any (A : Option Addr) (n c : Nat) (l : List UInt8) (w : World) (h : Sl w 1 (.slice A n c) (B8 l)) :
    Calls Try.prog 118 #[.slice A n c] w fun e w' => e = .returned (.bool (right l)) ∧ w = w' := by
  obtain ⟨hl1, hl2, hl3⟩ := h.len
  subst hl1
  go_enter Try.func118, Try.ntmps118
  go_wp2_with (go_at_call 116; refine (both_any _ _ _ _ _ h).mono ?_; rintro e w' ⟨rfl, rfl⟩)
  all_goals
    go_light
    go_ret
    refine ⟨ret_bool ?_, rfl⟩
    unfold right
    simp [*, beq0]

theorem right_q (A : Option Addr) (n c : Nat) (l : List UInt8) (w : World) (h : Sl w 1 (.slice A n c) (B8 l)) :
    Calls Try.prog 118 #[.slice A n c] w fun e w' => e = .returned (.bool (right l)) ∧ w' = w :=
  (right_any A n c l w h).mono fun _ _ ⟨h1, h2⟩ => ⟨h1, h2.symm⟩

set_option maxRecDepth 100000 in
set_option maxHeartbeats 400000 in
theorem refRight_any (A : Option Addr) (n c : Nat) (l : List UInt8) (w : World) (h : Sl w 1 (.slice A n c) (B8 l)) :
    Calls Try.prog 85 #[.slice A n c] w fun e w' => e = .returned (.bool (right l)) ∧ w = w' := by
  obtain ⟨hl1, hl2, hl3⟩ := h.len
  subst hl1
  go_enter Try.func85, Try.ntmps85
  go_wp2
  go_loop [3, 4, 5] (fun x y i => ∃ k : Nat, k ≤ l.length ∧ i = .int .i64 k ∧ x = .int .i64 (c0 l k : Nat) ∧ y = .int .i64 (c1 l k : Nat)) (fun _ _ i => l.length - (intOf i).toNat)
  case atStart => exact ⟨0, Nat.zero_le _, rfl, rfl, rfl⟩
  case round =>
    obtain ⟨k, hk, rfl, rfl, rfl⟩ := hrel
    have hx0 := c0_lt l k
    have hx1 := c1_lt l k
    by_cases hlt : k < l.length
    · obtain ⟨b, off, rfl, _, hc⟩ := h.byte hlt
      have hx := byt_lt l k
      have H1 := hid (show c0 l (k + 1) = (c0 l k + byt l k) % 255 from rfl)
      have H2 := hid (show c1 l (k + 1) = (c1 l k + c0 l (k + 1)) % 255 from rfl)
      go_wp2
      go_light
      refine ⟨⟨k + 1, by omega, by go_num, ?_, ?_⟩, by simp [intOf]; omega⟩
      · rw [H1.out]; go_num
      · rw [H2.out, H1.out]; go_num
    · obtain rfl : k = l.length := by omega
      go_wp2
      all_goals
        go_light
        go_ret
        refine ⟨ret_bool ?_, rfl⟩
        unfold right
        simp [*, beq0]

theorem held_any (n : Int) (w : World) (h : -1000000000 ≤ n ∧ n ≤ 1000000000) :
    Calls Try.prog 117 #[.int .i64 n] w fun e w' => e = .returned (.int .u8 (n % 255)) ∧ w = w' := by
  go_enter Try.func117, Try.ntmps117
  go_wp2
  go_ret
  refine ⟨ret_int ?_, rfl⟩
  have h1 : wrap64 (n.tmod 255 + 255) = n.tmod 255 + 255 := IntWalk.wrap64_in _ (by rcases tmod_cases n 255 (by omega) with ⟨_, h1⟩ | ⟨_, h1⟩ <;> omega)
  rw [h1]
  rcases tmod_cases n 255 (by omega) with ⟨h0, h2⟩ | ⟨h0, h2⟩ <;> rw [h2, Int.tmod_eq_emod_of_nonneg (by omega)] <;> omega

set_option maxRecDepth 100000 in
set_option maxHeartbeats 400000 in
theorem fletcher_yes (A : Option Addr) (n c k : Nat) (l : List UInt8) (w : World) (h : Sl w 1 (.slice A n c) (B8 l)) (hk : k + 1 < n) (hn : n ≤ 100000) :
    Calls Try.prog 103 #[.slice A n c, .int .i64 (k : Nat)] w fun e w' => e = .returned (.tuple #[.int .u8 (fX l k), .int .u8 (fY l k)]) ∧ Below w.heap.size w w' := by
  obtain ⟨hl1, hl2, hl3⟩ := h.len
  have HL := hid hl1
  clear hl1
  have t1 : decide ((k : Int) < 0) = false := by simp
  have t2 : decide ((n : Int) - 2 < k) = false := by simp; omega
  go_enter Try.func103, Try.ntmps103
  obtain ⟨b, off, rfl, hb, hc⟩ := h.byte (show 0 < n by omega)
  clear hc
  go_wp2_with (at_builtin; refine wpList_app rfl (.tmp 20) (.tmp 21) st_bytes rfl w.heap.size rfl (own_empty _ _ _ _ _ rfl (Nat.le_refl _)) rfl (h.below ((Below.refl _ _).alloc (Nat.le_refl _) _)) (B8_one _) (by simp [maxLen]; omega) (by omega) (by simp) ?_)
  intro A1 cc1 w1 hown hg _
  have hb1 : Below w.heap.size w w1 := ((Below.refl _ _).alloc (Nat.le_refl _) _).trans (grown_below (own_empty _ _ 5 1 _ rfl (Nat.le_refl _)) hg (by simp))
  clear hg
  obtain ⟨g, rfl, hg1, hg2⟩ := own_some hown (by omega)
  obtain ⟨k0, f0⟩ := own_byte hown k (by omega)
  obtain ⟨k1, f1⟩ := own_byte hown (k + 1) (by omega)
  go_wp2_with fail
  have hown2 := ((hown.stored k (.int .u8 0)).1.stored (k + 1) (.int .u8 0)).1
  rw [show Value.int .u8 0 = .int .u8 ((0 : UInt8).toNat : Int) from rfl, B8_set, B8_set] at hown2
  refine (both_any _ _ _ (zap l k) _ (own_sl hown2)).mono ?_
  rintro e w' ⟨rfl, rfl⟩
  have hx0 := c0_lt (zap l k) n
  have hx1 := c1_lt (zap l k) n
  have hm1 : 0 ≤ ((n : Int) - k - 1) % 255 * (c0 (zap l k) n : Int) := Int.mul_nonneg (by omega) (by omega)
  have hm2 : ((n : Int) - k - 1) % 255 * (c0 (zap l k) n : Int) ≤ 255 * 255 := Int.mul_le_mul (by omega) (by omega) (by omega) (by omega)
  go_wp2_with fail
  refine (held_any _ _ (by omega)).mono ?_
  rintro e w' ⟨rfl, rfl⟩
  go_wp2_with fail
  refine (held_any _ _ (by omega)).mono ?_
  rintro e w' ⟨rfl, rfl⟩
  go_wp2
  go_ret2
  have hq : ((n : Int) - k - 1) % 255 = (((n - k - 1) % 255 : Nat) : Int) := by omega
  have hL := HL.out
  refine ⟨ret_int2 ?_ ?_, (hb1.setCell (p := ⟨g, k, none⟩) hg1 _).setCell (p := ⟨g, k + 1, none⟩) hg1 _⟩
  · unfold fX
    rw [hL, hq]
  · unfold fY
    rw [hL, hq]

set_option maxRecDepth 100000 in
set_option maxHeartbeats 400000 in
theorem fletcher_no (A : Option Addr) (n c : Nat) (k : Int) (w : World) (hk : k < 0 ∨ (n : Int) - 2 < k) (hn : n ≤ 100000) :
    Calls Try.prog 103 #[.slice A n c, .int .i64 k] w fun e w' => e = .returned (.tuple #[.int .u8 0, .int .u8 0]) ∧ w = w' := by
  by_cases h0 : k < 0
  · go_enter Try.func103, Try.ntmps103
    go_wp2_with fail
    go_ret2
    exact ⟨rfl, rfl⟩
  · have h1 : (n : Int) - 2 < k := by omega
    clear hk
    go_enter Try.func103, Try.ntmps103
    go_wp2_with fail
    go_ret2
    exact ⟨rfl, rfl⟩

set_option maxRecDepth 100000 in
set_option maxHeartbeats 400000 in
theorem refFletcher_no (A : Option Addr) (n c : Nat) (k : Int) (w : World) (hk : k < 0 ∨ (n : Int) - 2 < k) (hn : n ≤ 100000) :
    Calls Try.prog 81 #[.slice A n c, .int .i64 k] w fun e w' => e = .returned (.tuple #[.int .u8 0, .int .u8 0]) ∧ w = w' := by
  by_cases h0 : k < 0
  · go_enter Try.func81, Try.ntmps81
    go_wp2_with fail
    go_ret2
    exact ⟨rfl, rfl⟩
  · have h1 : (n : Int) - 2 < k := by omega
    clear hk
    go_enter Try.func81, Try.ntmps81
    go_wp2_with fail
    go_ret2
    exact ⟨rfl, rfl⟩

set_option maxRecDepth 100000 in
set_option maxHeartbeats 800000 in
theorem refFletcher_yes (A : Option Addr) (n c k : Nat) (l : List UInt8) (w : World) (h : Sl w 1 (.slice A n c) (B8 l)) (hk : k + 1 < n) (hn : n ≤ 100000) :
    Calls Try.prog 81 #[.slice A n c, .int .i64 (k : Nat)] w fun e w' => e = .returned (.tuple #[.int .u8 (fX l k), .int .u8 (fY l k)]) ∧ w = w' := by
  obtain ⟨hl1, hl2, hl3⟩ := h.len
  have HL := hid hl1
  clear hl1
  have t1 : decide ((k : Int) < 0) = false := by simp
  have t2 : decide ((n : Int) - 2 < k) = false := by simp; omega
  go_enter Try.func81, Try.ntmps81
  go_wp2_with fail
  go_loop [6, 7, 8] (fun s t i => ∃ j : Nat, j ≤ n ∧ i = .int .i64 j ∧ s = .int .i64 (rs l k j : Nat) ∧ t = .int .i64 (rt l k n j : Nat)) (fun _ _ i => n - (intOf i).toNat)
  case atStart => exact ⟨0, Nat.zero_le _, rfl, rfl, rfl⟩
  case round =>
    obtain ⟨j, hj, rfl, rfl, rfl⟩ := hrel
    have hx0 := rs_lt l k j
    have hx1 := rt_lt l k n j
    by_cases hlt : j < n
    · by_cases he : j = k ∨ j = k + 1
      · have H1 := hid (show rs l k (j + 1) = rs l k j by simp only [rs]; rw [if_pos he])
        have H2 := hid (show rt l k n (j + 1) = rt l k n j by simp only [rt]; rw [if_pos he])
        by_cases he1 : j = k
        · have e1 : ((j : Int) == k) = true := by simp; omega
          clear he he1
          go_wp2_with fail
          go_light
          refine ⟨⟨j + 1, by omega, by go_num, by rw [H1.out], by rw [H2.out]⟩, by simp [intOf]; omega⟩
        · have e1 : ((j : Int) == k) = false := by simp; omega
          have e2 : ((j : Int) == k + 1) = true := by simp; omega
          clear he he1
          go_wp2_with fail
          go_light
          refine ⟨⟨j + 1, by omega, by go_num, by rw [H1.out], by rw [H2.out]⟩, by simp [intOf]; omega⟩
      · have H1 := hid (show rs l k (j + 1) = (rs l k j + byt l j) % 255 by simp only [rs]; rw [if_neg he])
        have H2 := hid (show rt l k n (j + 1) = (rt l k n j + byt l j * ((n - j) % 255)) % 255 by simp only [rt]; rw [if_neg he])
        have e1 : ((j : Int) == k) = false := by simp; omega
        have e2 : ((j : Int) == k + 1) = false := by simp; omega
        clear he
        obtain ⟨b, off, rfl, _, hc⟩ := h.byte hlt
        have hx := byt_lt l j
        have hm1 : 0 ≤ (byt l j : Int) * (((n : Int) - j) % 255) := Int.mul_nonneg (by omega) (by omega)
        have hm2 : (byt l j : Int) * (((n : Int) - j) % 255) ≤ 256 * 255 := Int.mul_le_mul (by omega) (by omega) (by omega) (by omega)
        go_wp2_with fail
        go_light
        refine ⟨⟨j + 1, by omega, by go_num, by rw [H1.out]; go_num, ?_⟩, by simp [intOf]; omega⟩
        rw [H2.out]
        refine congrArg _ ?_
        rw [show ((n : Int) - j) % 255 = (((n - j) % 255 : Nat) : Int) by omega, ← Int.natCast_mul]
        omega
    · obtain rfl : j = n := by omega
      go_wp2_with fail
      have bX := fX_bd l k
      have HX := hid (fX_ref l k (by have := HL.out; omega))
      have HY := hid (fY_ref l k (by have := HL.out; omega))
      go_loop [11] (fun i => ∃ x : Nat, x ≤ (fX l k).toNat ∧ i = .int .i64 x) (fun i => 255 - (intOf i).toNat)
      case atStart => exact ⟨0, Nat.zero_le _, rfl⟩
      case round =>
        obtain ⟨x, hx, rfl⟩ := hrel
        have p1 : 0 ≤ (x : Int) * (((j : Int) - k) % 255) := Int.mul_nonneg (by omega) (by omega)
        have p2 : (x : Int) * (((j : Int) - k) % 255) ≤ 255 * 255 := Int.mul_le_mul (by omega) (by omega) (by omega) (by omega)
        have p3 : 0 ≤ (510 - (rs l k j : Int) - x) % 255 * (((j : Int) - k - 1) % 255) := Int.mul_nonneg (by omega) (by omega)
        have p4 : (510 - (rs l k j : Int) - x) % 255 * (((j : Int) - k - 1) % 255) ≤ 255 * 255 := Int.mul_le_mul (by omega) (by omega) (by omega) (by omega)
        have HT := hid (tried (rs l k j) (rt l k j j) (((j : Int) - k) % 255) (((j : Int) - k - 1) % 255) x (by omega))
        have HX' : Hid (fX l k = ((rs l k j : Int) * (((j : Int) - k - 1) % 255) - (rt l k j j : Int)) % 255) := by
          have h1 := HX.out
          rw [HL.out] at h1
          rw [show ((j : Int) - k - 1) % 255 = (((j - k - 1) % 255 : Nat) : Int) by omega]
          exact h1
        by_cases hxe : x = (fX l k).toNat
        · have e1 : (((rt l k j j : Int) + (x : Int) * (((j : Int) - k) % 255) + (510 - (rs l k j : Int) - x) % 255 * (((j : Int) - k - 1) % 255)) % 255 == 0) = true := by
            rw [HT.out, beq_iff_eq]
            have := HX'.out
            omega
          clear hxe
          have HE : Hid ((x : Int) = fX l k) := by
            rw [HT.out, beq_iff_eq] at e1
            have := HX'.out
            show _ = _
            omega
          go_wp2_with fail
          go_light
          go_ret2
          have hy := HY.out
          rw [HL.out, ← HE.out] at hy
          refine ⟨ret_int2 ?_ ?_, rfl⟩
          · have := HE.out
            omega
          · rw [hy]
        · have e1 : (((rt l k j j : Int) + (x : Int) * (((j : Int) - k) % 255) + (510 - (rs l k j : Int) - x) % 255 * (((j : Int) - k - 1) % 255)) % 255 == 0) = false := by
            rw [HT.out, beq_eq_false_iff_ne]
            have := HX'.out
            omega
          go_wp2_with fail
          go_light
          refine ⟨⟨x + 1, by omega, by go_num⟩, by simp [intOf]; omega⟩
end Go.Proofs.Ytgopkpogakjckaa
