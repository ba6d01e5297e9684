/-
  Contracts of entry, lists, none; of what an entry's later sectors begin with.
  What an act leaves: as it should be, refused, or power went.
  The walk of JournalActs.
-/
import Derived.Test.YtfhlidlmipleaaaJzT
import Derived.Lib.ConvBytes
import Derived.Deep.Cut
import Derived.Deep.CutRange
import Derived.Deep.CutBlock
namespace Go.Proofs.Ytfhlidlmipleaaa
set_option linter.unusedVariables false
set_option linter.unusedSimpArgs false
open Go Go.RowKit LM

/-- '[]byte(s)' -/
theorem sbytes (w : World) (l : List UInt8) (hl : l.length ≤ 1099511627776) : ∃ c w1, (convert 9 27 (.string (S8 l))).run Try.prog w = .ok (.slice (some ⟨w.heap.size, 0, none⟩) l.length c) w1 ∧ Sl w1 1 (.slice (some ⟨w.heap.size, 0, none⟩) l.length c) (B8 l) ∧ Below w.heap.size w w1 ∧ w1.heap.size = w.heap.size + 1 := by
  have h := Lib.run_convert_string_bytes (P := Try.prog) w 9 27 5 (S8 l) Try.underlying9 Try.underlying27 Try.underlying5
  rw [S8_len] at h
  have hsz := Lib.bytesWorld_size w 5 (S8 l)
  refine ⟨_, _, h, ⟨_, _, _, rfl, by simp [B8], by have := grownCap_ge w l.length 0 5; exact this, grownCap_le_maxLen w l.length 0 5 (by simp [maxLen]; omega), fun hn => ⟨w.heap.size, 0, rfl, by omega, fun i hi => ?_⟩⟩, ⟨rfl, rfl, rfl, by omega, fun b hb => Lib.bytesWorld_at_old w _ _ b hb⟩, hsz⟩
  have hc := Lib.bytesWorld_cell w 5 (S8 l) i (by rw [S8_len]; omega)
  rw [Nat.zero_add]
  rw [hc]
  have he : (S8 l).data.toList = l := by simp [S8]
  rw [he]
  simp [B8, List.getElem?_map, List.getD_eq_getElem?_getD, List.getElem?_eq_getElem (show i < l.length by omega)]
set_option maxRecDepth 100000 in
set_option maxHeartbeats 400000 in
theorem noneJ_any (w : World) : Calls Try.prog 67 #[] w fun e w' => e = .returned (.pointer none) ∧ w' = w := by
  go_enter Try.func67, Try.ntmps67
  go_wp2_with fail
  go_ret
  exact ⟨rfl, rfl⟩
set_option maxRecDepth 100000 in
set_option maxHeartbeats 1600000 in
theorem lists_any (w : World) (A : Option Addr) (n c : Nat) (ls : List (List UInt8)) (h : Sl w 1 (.slice A n c) (STd ls)) (hn : ls.length ≤ 1048576) (hls : ∀ l ∈ ls, l.length ≤ 1048576) :
    Calls Try.prog 70 #[.slice A n c] w fun e w' => ∃ A' c' vs E, e = .returned (.slice A' ls.length c') ∧ w'.ownsRow w.heap.size 27 1 (.slice A' ls.length c') ls.length vs ∧ Entv w' vs ls E ∧ (∀ b, E b → w.heap.size ≤ b) ∧ Below w.heap.size w w' := by
  have e1 : n = ls.length := by have := (sl_lens h).1; simp [STd] at this; omega
  have hc1 := (sl_lens h).2
  subst e1
  go_enter Try.func70, Try.ntmps70
  go_wp2_with fail
  go_loopw [3, 4] (fun v i wr => ∃ (k : Nat) (A' : Option Addr) (c' : Nat) (vs : List Value) (E : Nat → Prop), k ≤ ls.length ∧ i = .int .i64 k ∧ v = .slice A' k c' ∧ wr.ownsRow w.heap.size 27 1 (.slice A' k c') k vs ∧ Entv wr vs (ls.take k) E ∧ (∀ b, E b → w.heap.size ≤ b ∧ b < wr.heap.size ∧ Value.ownBlock (.slice A' k c') ≠ some b) ∧ Below w.heap.size w wr) (fun _ i _ => ls.length - (intOf i).toNat)
  case atStart => exact ⟨0, none, 0, [], fun _ => False, Nat.zero_le _, rfl, rfl, World.ownsRow_nil _ _ _ _, fun k hk => absurd hk (by simp), fun _ h => h.elim, Below.refl _ _⟩
  case round =>
    obtain ⟨k, A1, c1, vs, E, hk, rfl, rfl, hown, hev, hE, hb⟩ := hrel
    by_cases hkn : k < ls.length
    · obtain ⟨b1, o1, rfl, hb1, q1⟩ := ST_cell h hkn
      have r1 := (hb.cell (p := ⟨b1, o1 + k, none⟩) hb1).trans q1
      have hx := hls (ls.getD k []) (by rw [List.getD_eq_getElem?_getD, List.getElem?_eq_getElem hkn]; exact List.getElem_mem _)
      have htk : ls.take (k + 1) = ls.take k ++ [ls.getD k []] := by
        rw [List.take_add_one, List.getElem?_eq_getElem hkn, List.getD_eq_getElem?_getD, List.getElem?_eq_getElem hkn]
        rfl
      have HT := hid htk
      have hvl : vs.length = (ls.take k).length := by have := hown.1; simp at this ⊢; omega
      clear htk q1 h
      generalize ls.getD k [] = x at *
      obtain ⟨c5, w5, hcv, hs5, hb5, hz5⟩ := sbytes wr x (by omega)
      have hb6 := hb.trans (hb5.mono hb.size)
      have ho6 := own_below hown hb5
      have hev5 := hev.below hb5
      have hbsz := hb.size
      have hrowlt : ∀ b, Value.ownBlock (.slice A1 k c1) = some b → b < wr.heap.size := fun b hb => (hown.lt b hb).2
      obtain ⟨g5, hg5⟩ : ∃ g5, wr.heap.size = g5 := ⟨_, rfl⟩
      rw [hg5] at hcv hs5 hbsz hrowlt hz5
      have HZ5 := hid hz5
      have hE5 : ∀ b, E b → w.heap.size ≤ b ∧ b < g5 ∧ Value.ownBlock (.slice A1 k c1) ≠ some b := fun b hb => by rw [← hg5]; exact hE b hb
      have hF5 : 0 < x.length → ∀ ad, (some ⟨g5, 0, none⟩ : Option Addr) = some ad → (E ad.block ∨ ad.block = g5) := fun h0 ad had => by
        injection had with had
        subst had
        exact .inr rfl
      have hsl : Sl (w5.alloc (.cells #[.slice (some ⟨g5, 0, none⟩) x.length c5] 27)) 1 (.slice (some ⟨w5.heap.size, 0, none⟩) 1 1) [.slice (some ⟨g5, 0, none⟩) x.length c5] := by
        refine ⟨_, _, _, rfl, by simp, Nat.le_refl _, by simp [maxLen], fun _ => ⟨w5.heap.size, 0, rfl, by simp, fun i hi => ?_⟩⟩
        obtain rfl : i = 0 := by omega
        rw [World.cell?_alloc_at _ _ _ _ rfl]
        rfl
      have hrow := ho6.alloc (.cells #[.slice (some ⟨g5, 0, none⟩) x.length c5] 27)
      have hz : w.heap.size ≤ (w5.alloc (.cells #[.slice (some ⟨g5, 0, none⟩) x.length c5] 27)).heap.size := by simp; omega
      have hba := hb6.alloc hb6.size (.cells #[.slice (some ⟨g5, 0, none⟩) x.length c5] 27)
      have hsn : Entv (w5.alloc (.cells #[.slice (some ⟨g5, 0, none⟩) x.length c5] 27)) (vs ++ [.slice (some ⟨g5, 0, none⟩) x.length c5]) (ls.take (k + 1)) (fun b => E b ∨ b = g5) := by
        rw [HT.out]
        exact (Entv.snoc (hev5.weak (fun b hb => .inl hb)) hvl hs5 hF5).below ((Below.refl _ _).alloc (Nat.le_refl _) _)
      clear hev hev5 hs5 hown ho6 hb hE hg5 hb5 hz5
      go_wp2_with (at_builtin; refine wpList_app rfl (.tmp 11) (.tmp 17) st_rows rfl w.heap.size rfl hrow rfl hsl (by simp [Value.oneCell']) (by simp [maxLen]; omega) (by omega) hz ?_)
      intro A7 c7 w7 hown7 hg7 hf7
      have hb7 := hba.trans (grown_below hrow hg7 hz)
      have hk7 : Kept (fun b => Value.ownBlock (.slice A1 k c1) = some b) (w5.alloc (.cells #[.slice (some ⟨g5, 0, none⟩) x.length c5] 27)) w7 := (Kept.of_row hg7).wider (fun b hb => hb.symm)
      have hz5 := HZ5.out
      have hnew : ∀ b, Value.ownBlock (.slice A7 (k + 1) c7) = some b → Value.ownBlock (.slice A1 k c1) = some b ∨ w5.heap.size ≤ b := fun b hb => by
        rcases hf7 with e | e
        · exact .inl (e ▸ hb)
        · rw [hb] at e
          injection e with e
          try simp at e
          exact .inr (by omega)
      have hEE : ∀ b, (E b ∨ b = g5) → w.heap.size ≤ b ∧ b < w5.heap.size ∧ Value.ownBlock (.slice A1 k c1) ≠ some b := by
        rintro b (e | rfl)
        · exact ⟨(hE5 b e).1, by have := (hE5 b e).2.1; omega, (hE5 b e).2.2⟩
        · exact ⟨by omega, by omega, fun e => by have := hrowlt _ e; omega⟩
      have hev7 := hsn.kept hk7 (fun b hb _ => (hEE b hb).2.2)
      have hE7 : ∀ b, (E b ∨ b = g5) → w.heap.size ≤ b ∧ b < w7.heap.size ∧ Value.ownBlock (.slice A7 (k + 1) c7) ≠ some b := fun b hb => by
        obtain ⟨e1, e2, e3⟩ := hEE b hb
        have := hg7.size
        simp at this
        refine ⟨e1, by omega, fun e => ?_⟩
        rcases hnew b e with h | h
        · exact e3 h
        · omega
      clear hz5 HZ5 hsn hk7 hEE hnew hg7 hf7 hrow hba hF5 hE5 hsl hcv hb6 hvl hrowlt
      go_wp2_with fail
      go_light
      exact ⟨⟨k + 1, A7, c7, _, _, by omega, by go_num, rfl, hown7, hev7, hE7, hb7⟩, by simp [intOf]; omega⟩
    · obtain rfl : k = ls.length := by omega
      rw [List.take_length] at hev
      go_wp2_with fail
      go_ret
      exact ⟨A1, c1, vs, E, rfl, hown, hev, fun b hb => (hE b hb).1, hb⟩
/-- the bytes of an act's entry -/
def entA (b : UInt8) (n : Nat) : List UInt8 := (List.range n).map fun i => b + UInt8.ofNat (i * 3)
theorem entA_len (b : UInt8) (n : Nat) : (entA b n).length = n := by simp [entA]
def entTo (b : UInt8) (n k : Nat) : List UInt8 := entA b k ++ List.replicate (n - k) 0
theorem entTo_len (b : UInt8) (n k : Nat) (h : k ≤ n) : (entTo b n k).length = n := by simp [entTo, entA_len]; omega
theorem entTo_succ (b : UInt8) (n k : Nat) (h : k < n) : (entTo b n k).set k (b + UInt8.ofNat (k * 3)) = entTo b n (k + 1) := by
  refine List.ext_getElem? fun i => ?_
  unfold entTo
  have e : entA b (k + 1) = entA b k ++ [b + UInt8.ofNat (k * 3)] := by simp [entA, List.range_succ]
  rw [e, List.getElem?_set]
  by_cases hi : k = i
  · subst hi
    rw [if_pos rfl, if_pos (by simp [entA_len]; omega), List.getElem?_append_left (by simp [entA_len]), List.getElem?_append_right (by simp [entA_len])]
    simp [entA_len]
  · rw [if_neg hi]
    by_cases h1 : i < k
    · rw [List.getElem?_append_left (by rw [entA_len]; exact h1), List.getElem?_append_left (by simp [entA_len]; omega), List.getElem?_append_left (by rw [entA_len]; exact h1)]
    · rw [List.getElem?_append_right (by rw [entA_len]; omega), List.getElem?_append_right (by simp [entA_len]; omega), List.getElem?_replicate, List.getElem?_replicate]
      simp only [entA_len, List.length_append, List.length_singleton]
      by_cases h2 : i < n
      · rw [if_pos (by omega), if_pos (by omega)]
      · rw [if_neg (by omega), if_neg (by omega)]
def entN (z : Int) : Nat := if Int.tmod z 41 = 40 then (8192 + Int.tmod z 2).toNat else ((IntKind.u64.wrap z) % 260).toNat
def entL (x : Ac) : List UInt8 := entA x.b (entN x.i)
theorem entN_le (z : Int) (h : -9223372036854775808 ≤ z ∧ z ≤ 9223372036854775807) : entN z ≤ 8193 := by
  unfold entN
  split
  · have : Int.tmod z 2 ≤ 1 := by have := Int.tmod_lt_of_pos z (show (0 : Int) < 2 by omega); omega
    omega
  · omega
theorem frame_get (gen idx : Nat) (l : List UInt8) (p : Nat) (hp : 19 ≤ p) : (frameJ gen idx l).getD p 0 = if p - 19 < l.length then l.getD (p - 19) 0 else 0 := by
  unfold frameJ
  have hA : (headJ gen idx l.length ++ be 4 (sumJ gen idx l)).length = 19 := by simp [headJ_len, be_length]
  by_cases h : p - 19 < l.length
  · rw [if_pos h, getD_appL (by rw [List.length_append, hA]; omega), getD_appR (by omega), hA]
  · rw [if_neg h, getD_appR (by rw [List.length_append, hA]; omega)]
    rw [List.getD_eq_getElem?_getD, List.getElem?_replicate]
    split <;> rfl
theorem chunk_get (f : List UInt8) (k j : Nat) (hj : j < 64) : (chunk f k).getD j 0 = f.getD (64 * k + j) 0 := by
  unfold chunk
  rw [List.getD_eq_getElem?_getD, List.getD_eq_getElem?_getD, List.getElem?_take, if_pos hj, List.getElem?_drop]
theorem entA_get (b : UInt8) (n i : Nat) (h : i < n) : (entA b n).getD i 0 = b + UInt8.ofNat (i * 3) := by
  unfold entA
  rw [List.getD_eq_getElem?_getD, List.getElem?_map, List.getElem?_range h]
  rfl
/-- what a later sector of an entry's begins with is no frame's begin -/
theorem entA_rest (gen idx : Nat) (b : UInt8) (n : Nat) : ∀ k, 1 ≤ k → k < takesN (entA b n).length → Dead (chunk (frameJ gen idx (entA b n)) k) := by
  intro k h1 _ g hg1 hg2 hc
  have hv : ∀ j, j < 9 → (frameJ gen idx (entA b n)).getD (64 * k + j) 0 = (70 :: be 8 g).getD j 0 := fun j hj => by
    rw [← chunk_get _ _ _ (by omega), ← hc, List.getD_eq_getElem?_getD, List.getD_eq_getElem?_getD, List.getElem?_take, if_pos hj]
  have hf : ∀ j, j < 9 → (70 :: be 8 g).getD j 0 = if 64 * k + j - 19 < n then b + UInt8.ofNat ((64 * k + j - 19) * 3) else 0 := fun j hj => by
    rw [← hv j hj, frame_get _ _ _ _ (by omega), entA_len]
    split
    · rename_i h; exact entA_get b n _ h
    · rfl
  have hb0 : (70 :: be 8 g).getD 1 0 = 0 := by
    have e : (be 8 g)[0]? = some (UInt8.ofNat (g / 2 ^ (8 * (8 - 1 - 0)) % 256)) := be_get 8 g 0 (by omega)
    rw [show g / 2 ^ (8 * (8 - 1 - 0)) = 0 by omega] at e
    rw [List.getD_eq_getElem?_getD, List.getElem?_cons_succ, e]
    rfl
  have h0 := hf 0 (by omega)
  have h1' := hf 1 (by omega)
  rw [hb0] at h1'
  have h0' : (70 :: be 8 g).getD 0 0 = 70 := rfl
  rw [h0'] at h0
  by_cases hq : 64 * k + 0 - 19 < n
  · rw [if_pos hq] at h0
    by_cases hq1 : 64 * k + 1 - 19 < n
    · rw [if_pos hq1] at h1'
      have e1 := congrArg UInt8.toNat h0
      have e2 := congrArg UInt8.toNat h1'
      rw [UInt8.toNat_add, UInt8.toNat_ofNat'] at e1 e2
      have e3 : (70 : UInt8).toNat = 70 := rfl
      have e4 : (0 : UInt8).toNat = 0 := rfl
      rw [e3] at e1
      rw [e4] at e2
      omega
    · have hz : be 8 g = List.replicate 8 0 := by
        apply List.ext_getElem?
        intro j
        by_cases hj : j < 8
        · have hj1 := hf (j + 1) (by omega)
          rw [if_neg (by omega)] at hj1
          rw [List.getElem?_replicate, if_pos hj]
          rw [List.getD_eq_getElem?_getD, List.getElem?_cons_succ, List.getElem?_eq_getElem (by rw [be_length]; exact hj), Option.getD_some] at hj1
          rw [List.getElem?_eq_getElem (by rw [be_length]; exact hj), hj1]
        · rw [List.getElem?_eq_none (by rw [be_length]; omega), List.getElem?_eq_none (by simp; omega)]
      have hgn := getN_be 8 g (by omega) (by omega)
      rw [hz] at hgn
      have : getN (List.replicate 8 0) = 0 := rfl
      omega
  · rw [if_neg hq] at h0
    cases h0
set_option maxRecDepth 100000 in
set_option maxHeartbeats 3200000 in
theorem entry_any (x : Ac) (hi : -9223372036854775808 ≤ x.i ∧ x.i ≤ 9223372036854775807) (w : World) : Calls Try.prog 69 #[.agg #[.int .i64 x.what, .int .i64 x.i, .int .u8 (x.b.toNat : Int), .int .i64 x.size, .slice x.K x.nk x.ck]] w fun e w' => e = .returned (.string (S8 (entL x))) ∧ Below w.heap.size w w' := by
  obtain ⟨wh, z, b, m, K, nk, ck, kl⟩ := x
  simp only [entL]
  have hba := (Below.refl w.heap.size w).alloc (Nat.le_refl _) (.cells #[.int .i64 wh, .int .i64 z, .int .u8 (b.toNat : Int), .int .i64 m, .slice K nk ck] 134)
  have q1 : (w.alloc (.cells #[.int .i64 wh, .int .i64 z, .int .u8 (b.toNat : Int), .int .i64 m, .slice K nk ck] 134)).cell? ⟨w.heap.size, 1, none⟩ = some (.int .i64 z) := by rw [World.cell?_alloc_at _ _ _ _ rfl]; simp
  have q2 : (w.alloc (.cells #[.int .i64 wh, .int .i64 z, .int .u8 (b.toNat : Int), .int .i64 m, .slice K nk ck] 134)).cell? ⟨w.heap.size, 2, none⟩ = some (.int .u8 (b.toNat : Int)) := by rw [World.cell?_alloc_at _ _ _ _ rfl]; simp
  have hn := entN_le z hi
  have hty : wrap64 ((IntKind.u64.wrap z).tmod 260) = (((IntKind.u64.wrap z) % 260).toNat : Int) := by
    rw [Int.tmod_eq_emod_of_nonneg (by rw [IntKind.wrap_u64]; omega)]
    unfold wrap64
    rw [IntKind.wrap_u64]
    omega
  have hbt := b.toNat_lt
  obtain ⟨wa, hwa⟩ : ∃ wa, w.alloc (.cells #[.int .i64 wh, .int .i64 z, .int .u8 (b.toNat : Int), .int .i64 m, .slice K nk ck] 134) = wa := ⟨_, rfl⟩
  obtain ⟨y0, hy0⟩ : ∃ y0, ((IntKind.u64.wrap z) % 260).toNat = y0 := ⟨_, rfl⟩
  have hy260 : y0 < 260 := by rw [← hy0]; omega
  rw [hwa] at hba q1 q2
  rw [hy0] at hty
  by_cases h41 : Int.tmod z 41 = 40
  · have hz0 : 0 ≤ z := by
      rcases Int.lt_or_le z 0 with h | h
      · have h2 := Int.neg_tmod (-z) 41
        have h3 := Int.tmod_nonneg (a := -z) 41 (by omega)
        rw [Int.neg_neg] at h2
        omega
      · exact h
    obtain ⟨r, hr⟩ : ∃ r : Nat, Int.tmod z 2 = (r : Int) := ⟨(Int.tmod z 2).toNat, by have := Int.tmod_nonneg 2 hz0; omega⟩
    have hr2 : r ≤ 1 := by have := Int.tmod_lt_of_pos z (show (0 : Int) < 2 by omega); omega
    have hN : entN z = 8192 + r := by unfold entN; rw [if_pos h41, hr]; omega
    rw [hN]
    obtain ⟨n, hnn⟩ : ∃ n, 8192 + r = n := ⟨_, rfl⟩
    have hni : 8192 + (r : Int) = (n : Int) := by omega
    rw [hnn]
    have hn8 : n ≤ 8193 := by omega
    clear hN hnn hn hr2 hi hz0
    obtain ⟨w1, hm, hown, hb1⟩ := mkz wa n (by omega)
    go_enter Try.func69, Try.ntmps69
    go_wp2_with fail
    have hsw := hba.size
    have hsb := hb1.size
    go_loopw [5] (fun i wr => ∃ k : Nat, k ≤ n ∧ i = .int .i64 k ∧ wr.ownsRow wa.heap.size 5 1 (.slice (some ⟨wa.heap.size, 0, none⟩) n n) n (B8 (entTo b n k)) ∧ Below wa.heap.size wa wr) (fun i _ => n - (intOf i).toNat)
    case atStart => exact ⟨0, Nat.zero_le _, rfl, by simpa [entTo, entA] using hown, hb1⟩
    case round =>
      clear hown hm
      obtain ⟨k, hk, rfl, ho, hbr⟩ := hrel
      have q2r := (hbr.cell (p := ⟨w.heap.size, 2, none⟩) (World.block_lt_of_cell? wa _ q2)).trans q2
      clear hb1
      by_cases hkn : k < n
      · obtain ⟨p0, p1⟩ := own_byte ho k hkn
        have ho2 := (ho.stored k (.int .u8 ((b + UInt8.ofNat (k * 3)).toNat : Int))).1
        rw [B8_set, entTo_succ b n k hkn] at ho2
        have hb2 := hbr.setCell (p := ⟨wa.heap.size, k, none⟩) (Nat.le_refl _) (.int .u8 ((b + UInt8.ofNat (k * 3)).toNat : Int))
        have hadd : ((b + UInt8.ofNat (k * 3)).toNat : Int) = ((b.toNat : Int) + (k : Int) * 3) % 256 := by
          rw [UInt8.toNat_add, UInt8.toNat_ofNat']
          omega
        rw [hadd] at ho2 hb2
        clear hadd
        go_wp2_with fail
        go_light
        exact ⟨⟨k + 1, by omega, by go_num, ho2, hb2⟩, by simp [intOf]; omega⟩
      · obtain rfl : k = n := by omega
        have he : entTo b k k = entA b k := by simp [entTo]
        rw [he] at ho
        have st := bstr (own_sl ho)
        go_wp2_with fail
        go_ret
        exact ⟨rfl, hba.trans (hbr.mono hsw)⟩
  · have hN : entN z = y0 := by unfold entN; rw [if_neg h41, hy0]
    rw [hN]
    have hn8 : y0 ≤ 8193 := by omega
    have h41b : (Int.tmod z 41 == 40) = false := by simpa using h41
    generalize y0 = n at *
    clear hN hn hi
    obtain ⟨w1, hm, hown, hb1⟩ := mkz wa n (by omega)
    go_enter Try.func69, Try.ntmps69
    go_wp2_with fail
    have hsw := hba.size
    have hsb := hb1.size
    go_loopw [5] (fun i wr => ∃ k : Nat, k ≤ n ∧ i = .int .i64 k ∧ wr.ownsRow wa.heap.size 5 1 (.slice (some ⟨wa.heap.size, 0, none⟩) n n) n (B8 (entTo b n k)) ∧ Below wa.heap.size wa wr) (fun i _ => n - (intOf i).toNat)
    case atStart => exact ⟨0, Nat.zero_le _, rfl, by simpa [entTo, entA] using hown, hb1⟩
    case round =>
      clear hown hm
      obtain ⟨k, hk, rfl, ho, hbr⟩ := hrel
      have q2r := (hbr.cell (p := ⟨w.heap.size, 2, none⟩) (World.block_lt_of_cell? wa _ q2)).trans q2
      clear hb1
      by_cases hkn : k < n
      · obtain ⟨p0, p1⟩ := own_byte ho k hkn
        have ho2 := (ho.stored k (.int .u8 ((b + UInt8.ofNat (k * 3)).toNat : Int))).1
        rw [B8_set, entTo_succ b n k hkn] at ho2
        have hb2 := hbr.setCell (p := ⟨wa.heap.size, k, none⟩) (Nat.le_refl _) (.int .u8 ((b + UInt8.ofNat (k * 3)).toNat : Int))
        have hadd : ((b + UInt8.ofNat (k * 3)).toNat : Int) = ((b.toNat : Int) + (k : Int) * 3) % 256 := by
          rw [UInt8.toNat_add, UInt8.toNat_ofNat']
          omega
        rw [hadd] at ho2 hb2
        clear hadd
        go_wp2_with fail
        go_light
        exact ⟨⟨k + 1, by omega, by go_num, ho2, hb2⟩, by simp [intOf]; omega⟩
      · obtain rfl : k = n := by omega
        have he : entTo b k k = entA b k := by simp [entTo]
        rw [he] at ho
        have st := bstr (own_sl ho)
        go_wp2_with fail
        go_ret
        exact ⟨rfl, hba.trans (hbr.mono hsw)⟩
end Go.Proofs.Ytfhlidlmipleaaa
namespace Go.Proofs.Ytfhlidlmipleaaa
set_option linter.unusedVariables false
set_option linter.unusedSimpArgs false
open Go Go.RowKit LM

set_option maxRecDepth 100000 in
set_option maxHeartbeats 400000 in
theorem compact_none (w : World) (v : Value) : Calls Try.prog 63 #[.pointer none, v] w fun e w' => e = .returned (.int .i64 1) ∧ w' = w := by
  go_enter Try.func63, Try.ntmps63
  go_wp2_with fail
  go_ret
  exact ⟨rfl, rfl⟩
def wantE (n : Nat) (next : List (List UInt8)) : Int := if rightB next = true then (if (n - 2) / 2 < sumT next then 5 else 0) else 1
/-- what is there behind power's going -/
def Back (n G : Nat) (l0 next : List (List UInt8)) (D : Dk) : Prop := ∃ Jx, Inv D Jx n ∧ Jx.gen ≤ G ∧ (Jx.all = l0 ∨ (wantE n next = 0 ∧ Jx.all = next))
def Out (n G : Nat) (l0 next : List (List UInt8)) (D : Dk) (J : Jn) (E : Int) : Prop :=
  (E ≠ 2 ∧ Inv D J n ∧ J.gen ≤ G ∧ E = wantE n next ∧ J.all = (if E = 0 then next else l0)) ∨ (E = 2 ∧ FitK D n ∧ ∀ kl, Back n G l0 next (crashD D kl))
theorem wantE_zero {n : Nat} {next : List (List UInt8)} (h : wantE n next = 0) : (∀ x ∈ next, 1 ≤ x.length ∧ x.length ≤ 8192) ∧ sumT next ≤ (n - 2) / 2 := by
  unfold wantE at h
  split at h
  · rename_i hr
    split at h
    · cases h
    · exact ⟨(rightB_iff _).1 hr, by omega⟩
  · cases h
theorem wantE_may (n : Nat) (pre ls : List (List UInt8)) (u : Nat) (hp : ∀ l ∈ pre, 1 ≤ l.length ∧ l.length ≤ 8192) (hu : u = sumT pre) : wantE n (pre ++ ls) = mayL ((n - 2) / 2) ls u := by
  subst hu
  unfold wantE
  by_cases h : ∀ l ∈ ls, 1 ≤ l.length ∧ l.length ≤ 8192
  · have hr : rightB (pre ++ ls) = true := (rightB_iff _).2 (fun x hx => by
      rcases List.mem_append.1 hx with hx | hx
      · exact hp x hx
      · exact h x hx)
    rw [if_pos hr, sumT_app]
    by_cases h2 : (n - 2) / 2 < sumT pre + sumT ls
    · rw [if_pos h2, mayL_full _ _ _ h h2]
    · rw [if_neg h2, mayL_ok _ _ _ h (by omega)]
  · rw [if_neg (fun e => h (fun x hx => (rightB_iff _).1 e x (List.mem_append_right _ hx))), mayL_arg _ _ _ h]
theorem mayL_cases (sz : Nat) (ls : List (List UInt8)) (u : Nat) : mayL sz ls u = 0 ∨ mayL sz ls u = 1 ∨ mayL sz ls u = 5 := by
  by_cases h : ∀ l ∈ ls, 1 ≤ l.length ∧ l.length ≤ 8192
  · by_cases h2 : sz < u + sumT ls
    · exact .inr (.inr (mayL_full _ _ _ h h2))
    · exact .inl (mayL_ok _ _ _ h (by omega))
  · exact .inr (.inl (mayL_arg _ _ _ h))
theorem app_out {D : Dk} {J : Jn} {n G : Nat} (h : Inv D J n) (hn : 4 ≤ n ∧ n ≤ 1000) (hG : J.gen ≤ G) (b : UInt8) (m : Nat) : Out n (G + 1) J.all (J.all ++ [entA b m]) (appS D J (entA b m)).1 (appS D J (entA b m)).2.1 (appS D J (entA b m)).2.2 := by
  have hw := wantE_may n J.all [entA b m] J.used h.frm.ok.ent h.frm.us
  rw [← h.may] at hw
  by_cases hm : mayJ D J [entA b m] J.used = 0
  · rcases app_law h hn _ hm (entA_rest _ _ b m) with ⟨e1, e2⟩ | ⟨e1, e2, e3⟩
    · refine .inl ⟨by rw [e1]; simp, ?_, ?_, ?_, ?_⟩
      · rw [e1]; exact e2
      · rw [e1]; show J.gen ≤ _; omega
      · rw [e1, hw, hm]
      · rw [e1]; rfl
    · refine .inr ⟨e1, e2, fun kl => ?_⟩
      rcases e3 kl with e | e
      · exact ⟨J, e, by omega, .inl rfl⟩
      · exact ⟨addJ J (entA b m), e, by show J.gen ≤ _; omega, .inr ⟨by rw [hw, hm], rfl⟩⟩
  · have hA : appS D J (entA b m) = (D, J, mayJ D J [entA b m] J.used) := by unfold appS; rw [if_pos hm]
    rw [hA]
    have hc := mayL_cases ((n - 2) / 2) [entA b m] J.used
    rw [← h.may] at hc
    refine .inl ⟨?_, h, by show J.gen ≤ _; omega, hw.symm, by rw [if_neg hm]⟩
    simp only []
    omega
theorem comp_out {D : Dk} {J : Jn} {n G : Nat} (h : Inv D J n) (hn : 4 ≤ n ∧ n ≤ 1000) (hG : J.gen ≤ G) (hG2 : G < 1099511627775) (next : List (List UInt8)) : Out n (G + 1) J.all next (compS D J next).1 (compS D J next).2.1 (compS D J next).2.2 := by
  have hw := wantE_may n [] next 0 (by simp) rfl
  rw [List.nil_append, ← h.may] at hw
  by_cases hm : mayJ D J next 0 = 0
  · rcases comp_law h hn (by omega) next hm with ⟨e1, e2, _⟩ | ⟨e1, e2, e3⟩
    · refine .inl ⟨by rw [e1]; simp, ?_, ?_, ?_, ?_⟩
      · rw [e1]; exact e2
      · rw [e1]; show J.gen + 1 ≤ _; omega
      · rw [e1, hw, hm]
      · rw [e1]; rfl
    · refine .inr ⟨e1, e2, fun kl => ?_⟩
      have e3' : Inv (crashD (compS D J next).1 kl) J n ∨ Inv (crashD (compS D J next).1 kl) (packJ J next) n := by
        rcases e3 with e | ⟨_, e⟩
        · exact .inl (e kl)
        · exact e kl
      rcases e3' with e | e
      · exact ⟨J, e, by omega, .inl rfl⟩
      · exact ⟨packJ J next, e, by show J.gen + 1 ≤ _; omega, .inr ⟨by rw [hw, hm], rfl⟩⟩
  · have hA : compS D J next = (D, J, mayJ D J next 0) := by unfold compS; rw [if_pos hm]
    rw [hA]
    have hc := mayL_cases ((n - 2) / 2) next 0
    rw [← h.may] at hc
    refine .inl ⟨?_, h, by show J.gen ≤ _; omega, hw.symm, by rw [if_neg hm]⟩
    simp only []
    omega
theorem Inv.want {D : Dk} {J : Jn} {n : Nat} (h : Inv D J n) : wantE n J.all = 0 := by
  have hr : rightB J.all = true := (rightB_iff _).2 h.frm.ok.ent
  have := h.frm.us
  have := h.frm.room
  unfold wantE
  rw [if_pos hr, if_neg (by omega)]
theorem same_out {D : Dk} {J : Jn} {n G : Nat} (h : Inv D J n) (hG : J.gen ≤ G) : Out n (G + 1) J.all J.all D J 0 :=
  .inl ⟨by decide, h, by omega, h.want.symm, by rw [if_pos rfl]⟩
theorem gone_out {D : Dk} {J : Jn} {n G : Nat} (h : Inv D J n) (hG : J.gen ≤ G) : Out n (G + 1) J.all J.all D J 2 := by
  refine .inr ⟨rfl, h.fit, fun kl => ⟨J, ?_, by omega, .inl rfl⟩⟩
  have hs : ∀ s, stD (crashD D kl) s = stD D s := fun s => by
    rcases crash_st h.fit kl s with e | ⟨v, e, _⟩
    · exact e
    · rw [h.wt] at e; cases e
  exact h.same (h.fit.crash kl) rfl rfl rfl (fun s _ => hs s) (fun s _ _ => hs s) (fun s h1 h2 => by rw [hs]; exact h.tail s h1 h2)
end Go.Proofs.Ytfhlidlmipleaaa
namespace Go.Proofs.Ytfhlidlmipleaaa
set_option linter.unusedVariables false
set_option linter.unusedSimpArgs false
open Go Go.RowKit LM

theorem actA_info : (Try.prog.info? 134).map (·.size) = some 5 := by kernel_rfl
theorem actA_one (x : Ac) : (#[.int .i64 x.what, .int .i64 x.i, .int .u8 (x.b.toNat : Int), .int .i64 x.size, .slice x.K x.nk x.ck] : Array Value).all (·.oneCell') = true := by
  rw [Array.all_eq_true]
  intro i hi
  simp at hi
  rcases (by omega : i = 0 ∨ i = 1 ∨ i = 2 ∨ i = 3 ∨ i = 4) with e | e | e | e | e <;> subst e <;> rfl
abbrev actC (x : Ac) : Array Value := #[.int .i64 x.what, .int .i64 x.i, .int .u8 (x.b.toNat : Int), .int .i64 x.size, .slice x.K x.nk x.ck]
theorem kept_of {B : Nat} {w w' : World} (h : Below B w w') : Kept (fun b => B ≤ b) w w' := ⟨h.os, h.tape, h.output, h.size, fun b _ hn => h.block b (by omega)⟩
theorem Jd.kept {base : Nat} {w w' : World} {D : Dk} {J : Jn} {j d : Nat} {I K S : Nat → Prop} (h : Jd base w D J j d I K) (hk : Kept S w w') (hd : ∀ b, I b ∨ K b → ¬ S b) : Jd base w' D J j d I K :=
  ⟨h.dk.kept hk (fun b hb => hd b (.inl hb)), h.jn.kept hk (fun b hb => hd b (.inr hb)), h.dis⟩
theorem act_range {w : World} {g : Nat} {x : Ac} (h : w.heap[g]? = some (.cells (actC x) 134 (0, 0))) : w.rangeAt g 0 (acC x) := fun j v hj => by
  have := (blk_cells h).1 j
  rw [Nat.zero_add, this]
  rw [← hj]
  simp [acC, actC]
theorem sl_one (w : World) (e : TypeId) (v : Value) (hv : v.oneCell' = true) : Sl (w.alloc (.cells #[v] e)) 1 (.slice (some ⟨w.heap.size, 0, none⟩) 1 1) [v] := by
  refine ⟨_, _, _, rfl, by simp, Nat.le_refl _, by simp [maxLen], fun _ => ⟨w.heap.size, 0, rfl, by simp, fun i hi => ?_⟩⟩
  obtain rfl : i = 0 := by omega
  rw [World.cell?_alloc_at _ _ _ _ rfl]
  rfl
/-- behind an act: what it made of the journal, and the list that should be -/
structure MidAct (base n G d : Nat) (wb wx : World) (l0 next : List (List UInt8)) (E : Int) (D : Dk) (J : Jn) (j : Nat) (I K : Nat → Prop) (A : Option Addr) (c : Nat) (Al : Option Addr) (cl : Nat) (g : Nat) (x : Ac) : Prop where
  nx : wx.ownsRow base 9 1 (.slice A next.length c) next.length (STd next)
  nd : ∀ b, Value.ownBlock (.slice A next.length c) = some b → ¬ (I b ∨ K b)
  lx : wx.ownsRow base 9 1 (.slice Al l0.length cl) l0.length (STd l0)
  ld : ∀ b, Value.ownBlock (.slice Al l0.length cl) = some b → ¬ (I b ∨ K b)
  hg : wx.heap[g]? = some (.cells (actC x) 134 (0, 0))
  gd : ¬ (I g ∨ K g)
  few : next.length ≤ 100
  ent : ∀ y ∈ next, y.length ≤ 8193
  out : Out n G l0 next D J E
  jd : Jd base wx D J j d I K
  bl : Below base wb wx
/-- the journal, the list and the world between two acts -/
def ActsAt (base n G : Nat) (d : Nat) (w : World) (D : Dk) (J : Jn) (j : Nat) (I K : Nat → Prop) (A : Option Addr) (c : Nat) : Prop :=
  w.ownsRow base 9 1 (.slice A J.all.length c) J.all.length (STd J.all) ∧ (∀ b, Value.ownBlock (.slice A J.all.length c) = some b → ¬ (I b ∨ K b)) ∧ Inv D J n ∧ J.gen ≤ G ∧ Jd base w D J j d I K
set_option maxRecDepth 100000 in
set_option maxHeartbeats 12800000 in
theorem journalActs_walk (x1 : Int) (Ar : Option Addr) (nr cr : Nat) (row : List Ac) (w : World) (hS : Sl w 5 (.slice Ar nr cr) (AC row)) (hok : ∀ y ∈ row, y.ok w) :
    Calls Try.prog 11 #[.int .i64 x1, .slice Ar nr cr] w fun e w' => e = .returned (.bool true) ∧ Below w.heap.size w w' := by
  obtain ⟨y0, hy0, ey0'⟩ := modU x1 80 (by omega) (by omega)
  have ey0 : wrap64 ((IntKind.u64.wrap x1).tmod 80) = (y0 : Int) := ey0'
  clear ey0'
  obtain ⟨n, hn0⟩ : ∃ n, 1 + y0 = n := ⟨_, rfl⟩
  have en0 : 1 + (y0 : Int) = (n : Int) := by omega
  have hn1 : 1 ≤ n ∧ n ≤ 80 := by omega
  clear hn0 hy0
  have hlenr : row.length = nr := by have := (sl_lens hS).1; rw [AC_length] at this; omega
  have hcr := (sl_lens hS).2
  go_enter Try.func11, Try.ntmps11
  go_wp2_with fail
  refine (begin_nil w).mono ?_
  rintro e w1 ⟨rfl, rfl⟩
  go_wp2_with fail
  refine (open_nil w1).mono ?_
  rintro e w2 ⟨rfl, rfl⟩
  go_wp2_with fail
  refine (stays_any w2).mono ?_
  rintro e w3 ⟨rfl, hb3⟩
  go_wp2_with fail
  refine (noneJ_any w3).mono ?_
  rintro e w4 ⟨rfl, rfl⟩
  go_wp2_with fail
  refine (append_none _ _).mono ?_
  rintro e w5 ⟨rfl, rfl⟩
  go_wp2_with fail
  refine (noneJ_any _).mono ?_
  rintro e w6 ⟨rfl, rfl⟩
  go_wp2_with fail
  refine (compact_none _ _).mono ?_
  rintro e w7 ⟨rfl, rfl⟩
  go_wp2_with fail
  refine (noneJ_any _).mono ?_
  rintro e w8 ⟨rfl, rfl⟩
  go_wp2_with fail
  refine (all_none _).mono ?_
  rintro e w9 ⟨rfl, rfl⟩
  go_wp2_with fail
  refine (noneJ_any _).mono ?_
  rintro e w10 ⟨rfl, rfl⟩
  go_wp2_with fail
  refine (free_none _).mono ?_
  rintro e w11 ⟨rfl, rfl⟩
  have hb4 := hb3.alloc hb3.size (.cells #[.int .u8 1] 5)
  go_wp2_with fail
  generalize hwb : w4.alloc (.cells #[.int .u8 1] 5) = wb at *
  clear hwb hb3
  have hsb := hb4.size
  refine (newDsk n wb (by omega) (by omega)).mono ?_
  rintro e w12 ⟨d, I0, rfl, hd, hb12⟩
  have hs12 := hb12.size
  have hb12' := hb4.trans (hb12.mono hsb)
  have hlnew := newD_len n
  by_cases hsm : n < 4
  · go_wp2_with fail
    refine (open_small wb.heap.size w12 (newD n) d I0 hd (by omega)).mono ?_
    rintro e w13 ⟨rfl, rfl⟩
    go_wp2_with fail
    refine (begin_small wb.heap.size w13 (newD n) d I0 hd (by omega)).mono ?_
    rintro e w14 ⟨rfl, rfl⟩
    go_wp2_with fail
    go_ret
    exact ⟨rfl, hb12'⟩
  have hn2 : 4 ≤ n ∧ n ≤ 80 := by omega
  clear hsm hn1
  have hc0 : (curN (newD n) 2).1 = 0 := by rw [curN_new n (by omega)]
  go_wp2_with fail
  refine (open_form wb.heap.size w12 (newD n) d I0 hd (by omega) rfl hc0).mono ?_
  rintro e w13 ⟨rfl, hb13⟩
  have hd13 := hd.below hb13
  have hb13' := hb12.trans (hb13.mono hs12)
  have hs13 := hb13'.size
  clear hd hb13 hb12 hb12'
  go_wp2_with fail
  refine (begin_new wb.heap.size n w13 d I0 hd13 hs13 (by omega)).mono ?_
  rintro e w14 ⟨j, I2, K2, rfl, hjd2, hK2, hI2, hk2'⟩
  have hb14 : Below wb.heap.size wb w14 := hb13'.trans (hk2'.below_of hs13 (fun b hb => (hd13.bd b hb).1))
  have hinv := inv_begin n hn2.1
  have hs14 := hb14.size
  replace hjd2 : Jd wb.heap.size w14 (beginD (newD n)) jn0 j d I2 K2 := hjd2
  generalize beginD (newD n) = D0 at *
  clear hd13 hb13' hk2' hK2 hI2 hc0 hs12 hs13 hlnew
  obtain ⟨rm, hrm⟩ : ∃ rm, (n - 2) / 2 = rm := ⟨_, rfl⟩
  have erm : ((n : Int) - 2) / 2 = (rm : Int) := by omega
  have HRM := hid hrm
  have hrm39 : rm ≤ 39 := by omega
  clear hrm
  have hSb := hS.below hb4
  have hokb : ∀ y ∈ row, Ac.ok wb y := fun y hy => by
    have h := hok y hy
    exact ⟨h.what, h.i, h.size, h.sl.below hb4⟩
  clear hS hok
  go_wp2_with fail
  rw [erm]
  go_loopw [14, 16, 18] (fun v14 v16 v18 wr => ∃ (k : Nat) (D : Dk) (J : Jn) (j : Nat) (I K : Nat → Prop) (A : Option Addr) (c : Nat), k ≤ 40 ∧ k ≤ nr ∧ v18 = .int .i64 k ∧ v14 = .pointer (some ⟨j, 0, none⟩) ∧ v16 = .slice A J.all.length c ∧ ActsAt wb.heap.size n (k + 1) d wr D J j I K A c ∧ Below wb.heap.size wb wr) (fun _ _ i _ => 40 - (intOf i).toNat)
  case atStart => exact ⟨0, D0, jn0, j, I2, K2, none, 0, by omega, by omega, rfl, rfl, rfl, ⟨World.ownsRow_nil _ _ _ _, by simp [Value.ownBlock, jn0], hinv, by decide, hjd2⟩, hb14⟩
  case round =>
    clear hinv hjd2 hb14 hs14
    obtain ⟨k, D, J, j, I, K, A, c, hk40, hkn, rfl, rfl, rfl, hAt, hb⟩ := hrel
    by_cases hkr : k < nr
    · by_cases hk4 : k < 40
      · have hxm : acAt row k ∈ row := by
          unfold acAt
          rw [List.getD_eq_getElem?_getD, List.getElem?_eq_getElem (by omega)]
          exact List.getElem_mem _
        have hxo := hokb _ hxm
        have hrow := hSb.below hb
        obtain ⟨b, off, rfl, hbl, hcell⟩ : ∃ b off, Ar = some ⟨b, off, none⟩ ∧ b < wr.heap.size ∧ wr.rangeAt b (off + k * 5) (acC (acAt row k)) := by
          obtain ⟨A', n', c', he, h1, h2, h3, h4⟩ := hrow
          injection he with e1 e2 e3
          subst e1; subst e2; subst e3
          obtain ⟨b, off, rfl, hlt, hc⟩ := h4 (by omega)
          refine ⟨b, off, rfl, hlt, fun j v hj => ?_⟩
          have hj5 : j < 5 := by have := (List.getElem?_eq_some_iff.1 hj).1; simpa [acC] using this
          rw [show off + k * 5 + j = off + (k * 5 + j) by omega, hc (k * 5 + j) (by omega), AC_get row k j (by omega) hj5, hj]
        have hx2 := hxo.i
        have hK := hxo.sl
        have hKlt : 0 < (acAt row k).nk → ∀ ad, (acAt row k).K = some ad → ad.block < wb.heap.size := by
          intro h0 ad had
          obtain ⟨bk, ok, hk1, hk2, _⟩ := BO_cell hxo.sl h0
          rw [had] at hk1
          injection hk1 with hk1
          rw [hk1]
          exact hk2
        generalize acAt row k = x at *
        clear hxo hxm hrow
        obtain ⟨hrw, hdj, hI, hG, hjd⟩ := hAt
        have hl39 : J.all.length ≤ 39 := by
          have h1 := sumT_len J.all
          have h2 := hI.frm.us
          have h3 := hI.frm.room
          have h4 := HRM.out
          omega
        have hsl := own_sl hrw
        have hbs := hb.size
        have hrlt : ∀ b, Value.ownBlock (.slice A J.all.length c) = some b → b < wr.heap.size := fun b hb => (hrw.lt b hb).2
        have hwa := (Below.refl wr.heap.size wr).alloc (Nat.le_refl _) (.cells #[.int .i64 x.what, .int .i64 x.i, .int .u8 (x.b.toNat : Int), .int .i64 x.size, .slice x.K x.nk x.ck] 134)
        have hg : (wr.alloc (.cells #[.int .i64 x.what, .int .i64 x.i, .int .u8 (x.b.toNat : Int), .int .i64 x.size, .slice x.K x.nk x.ck] 134)).heap[wr.heap.size]? = some (.cells #[.int .i64 x.what, .int .i64 x.i, .int .u8 (x.b.toNat : Int), .int .i64 x.size, .slice x.K x.nk x.ck] 134 (0, 0)) := heap_alloc_new wr _
        have hinf := actA_info
        go_upto_region 21 with (first | (refine wpList_load_mid rfl 134 (.tmp 126) rfl b (off + k * 5) rfl (acC x) _ hcell Try.underlying134 rfl hinf ?_) | (refine wpList_store_new rfl 134 (.tmp 19) (.tmp 127) rfl #[.int .i64 x.what, .int .i64 x.i, .int .u8 (x.b.toNat : Int), .int .i64 x.size, .slice x.K x.nk x.ck] rfl rfl hinf rfl (actA_one x) ?_))
        have hsza : (wr.alloc (.cells #[.int .i64 x.what, .int .i64 x.i, .int .u8 (x.b.toNat : Int), .int .i64 x.size, .slice x.K x.nk x.ck] 134)).heap.size = wr.heap.size + 1 := by simp
        generalize wr.alloc (.cells #[.int .i64 x.what, .int .i64 x.i, .int .u8 (x.b.toNat : Int), .int .i64 x.size, .slice x.K x.nk x.ck] 134) = wa at *
        have hba := hb.trans (hwa.mono hbs)
        have hjda := hjd.below hwa
        have hrwa := own_below hrw hwa
        have hgI : ¬ (I wr.heap.size ∨ K wr.heap.size) := fun e => by have := (hjd.lt _ e).2; omega
        have hlt : ∀ b, I b ∨ K b → b < wr.heap.size := fun b e => (hjd.lt b e).2
        have hsla := hsl.below hwa
        obtain ⟨g, hgg⟩ : ∃ g, wr.heap.size = g := ⟨_, rfl⟩
        rw [hgg] at hg hgI hlt hrlt hsza ⊢
        have HSZ := hid hsza
        have HGG := hid hgg
        have hga : g < wa.heap.size := by omega
        have hga' : wb.heap.size ≤ g := by omega
        have hown0 : (wa.alloc (.cells #[] 9)).ownsRow wa.heap.size 9 1 (.slice (some ⟨wa.heap.size, 0, none⟩) 0 0) 0 [] := own_empty wa _ _ _ _ rfl (Nat.le_refl _)
        have hwe := (Below.refl wa.heap.size wa).alloc (Nat.le_refl _) (.cells #[] 9)
        have hsl2 := hsla.below hwe
        have hze : wa.heap.size ≤ (wa.alloc (.cells #[] 9)).heap.size := by simp
        clear hsza hgg hcell hinf hwa hjd hrw hsl hb hbs
        go_wp2_with (at_builtin; refine wpList_app rfl (.tmp 128) (.tmp 129) st_strd rfl wa.heap.size rfl hown0 rfl hsl2 (STd_one _) (by simp [maxLen]; omega) (by omega) hze ?_)
        intro A2 c2 w2 hown2 hg2 hf2
        have hb2 : Below wa.heap.size wa w2 := hwe.trans (grown_below hown0 hg2 hze)
        clear hown0 hg2 hf2 hsl2 hze hwe hsla
        have hjd2 := hjda.below hb2
        have hrw2 := own_below hrwa hb2
        have hg2 := blk_below hg hb2 hga
        have hba2 := hba.trans (hb2.mono hba.size)
        have hs2 := hb2.size
        have hsb2 := hba2.size
        have hsba := hba.size
        obtain ⟨s0, hs0⟩ : ∃ s0, wa.heap.size = s0 := ⟨_, rfl⟩
        rw [hs0] at hown2 hs2 hga hsba
        clear hs0 hb2 hba hg hjda hrwa HSZ HGG
        obtain ⟨y, hy8, ek⟩ := modU x.what 8 (by omega) (by omega)
        have ek2 : wrap64 ((IntKind.u64.wrap x.what).tmod 8) = (y : Int) := ek
        clear ek
        have hF : FitJ D n := hI.fit.fit
        have hO : JOk J := hI.frm.ok
        have q0 := (blk_cells hg2).1 0
        simp at q0
        go_upto_block 2 with fail
        rw [ek2]
        clear q0 ek2
        go_cut [14, 20, 21] from 114 to 309 (fun s14 s20 s21 wx => ∃ (E : Int) (next : List (List UInt8)) (D' : Dk) (J' : Jn) (j' : Nat) (I' K' : Nat → Prop) (A' : Option Addr) (c' : Nat), s14 = .pointer (some ⟨j', 0, none⟩) ∧ s20 = .slice A' next.length c' ∧ s21 = .int .i64 E ∧ MidAct wb.heap.size n (k + 2) d wb wx J.all next E D' J' j' I' K' A' c' A c g x)
        case first =>
          have hy : y = 0 ∨ y = 1 ∨ y = 2 ∨ y = 3 ∨ y = 4 ∨ y = 5 ∨ y = 6 ∨ y = 7 := by omega
          clear hy8
          rcases hy with rfl | rfl | rfl | rfl | rfl | rfl | rfl | rfl
          · as_aux_lemma =>
            have hcg := act_range hg2
            have hinf := actA_info
            go_wp2_with (refine wpList_load_mid rfl 134 (.tmp 19) rfl g 0 rfl (acC x) _ hcg Try.underlying134 rfl hinf ?_)
            refine (entry_any x hx2 w2).mono ?_
            rintro e w3 ⟨rfl, hb3⟩
            have hll : (J.all ++ [entL x]).length = J.all.length + 1 := by simp
            have hse : STd (J.all ++ [entL x]) = STd J.all ++ [.string (S8 (entL x))] := by simp [STd]
            have hel : (entL x).length ≤ 8193 := by unfold entL; rw [entA_len]; exact entN_le _ hx2
            have hout := app_out hI ⟨hn2.1, (by omega : n ≤ 1000)⟩ hG x.b (entN x.i)
            have hee : entA x.b (entN x.i) = entL x := rfl
            rw [hee] at hout
            clear hee
            obtain ⟨el, hel0⟩ : ∃ el, entL x = el := ⟨_, rfl⟩
            rw [hel0] at hll hse hel hout ⊢
            have HEL := hid hel0
            clear hel0
            have HLL := hid hll
            have HSE := hid hse
            have hsl := sl_one w3 9 (.string (S8 el)) rfl
            have hrow := (own_below hown2 hb3).alloc (.cells #[.string (S8 el)] 9)
            have hs3 := hb3.size
            have hz : s0 ≤ (w3.alloc (.cells #[.string (S8 el)] 9)).heap.size := by simp; omega
            have hba3 : Below s0 w2 (w3.alloc (.cells #[.string (S8 el)] 9)) := (hb3.mono hs2).alloc (Nat.le_trans hs2 hs3) _
            clear hll hse hown2 hcg hb3
            go_wp2_with (at_builtin; refine wpList_app rfl (.tmp 141) (.tmp 144) st_strd rfl s0 rfl hrow rfl hsl (by simp [Value.oneCell']) (by simp [maxLen]; omega) (by omega) hz ?_)
            intro A4 c4 w4' hown4 hg4 hf4
            have hb4' : Below s0 w2 w4' := hba3.trans (grown_below hrow hg4 hz)
            have hk4 := kept_of hb4'
            have hIK : ∀ b, I b ∨ K b → ¬ s0 ≤ b := fun b hb e => by have := hlt b hb; omega
            have hjd4 := hjd2.kept hk4 hIK
            have hlw4 := ownsRow_kept hrw2 hk4 (fun b hb e => by have := hrlt b hb; omega)
            have hg4' := blk_kept hg2 hk4 (by omega)
            have hba4 := hba2.trans (hb4'.mono (by omega))
            have hs4 := hb4'.size
            have hcg := act_range hg4'
            clear hsl hrow hz hba3 hg4 hf4 hb4' hk4 hjd2 hrw2 hg2 hba2
            go_wp2_with (refine wpList_load_mid rfl 134 (.tmp 19) rfl g 0 rfl (acC x) _ hcg Try.underlying134 rfl hinf ?_)
            refine (entry_any x hx2 w4').mono ?_
            rintro e w5 ⟨rfl, hb5⟩
            have hee2 : entL x = el := HEL.out
            rw [hee2]
            obtain ⟨c6, w6, hcv, hs6, hb6, hz6⟩ := sbytes w5 el (by omega)
            have hb56 : Below w4'.heap.size w4' w6 := hb5.trans (hb6.mono hb5.size)
            have hjd6 := hjd4.below hb56
            have hlw6 := own_below hlw4 hb56
            have hown6 := own_below hown4 hb56
            have hg6 := blk_below hg4' hb56 (by omega)
            have hsb4 := hba4.size
            have hba6 := hba4.trans (hb56.mono hsb4)
            have hsb6 := hba6.size
            have hnb : ¬ (I w5.heap.size ∨ K w5.heap.size) := fun e => by have := (hjd4.lt _ e).2; have := hb5.size; omega
            have HZ6 := hid hz6
            clear hb5 hb6 hb56 hjd4 hlw4 hown4 hg4' hba4 hcg hz6
            go_wp2_with fail
            generalize w5.heap.size = g6 at *
            refine (append_any wb.heap.size n w6 D J j d I K hjd6 hF (by omega) hsb6 hO g6 0 _ c6 el hs6 hnb).mono ?_
            rintro e w7 ⟨rfl, I7, K7, s7⟩
            have hM : MidAct wb.heap.size n (k + 2) d wb w7 J.all (J.all ++ [el]) (appS D J el).2.2 (appS D J el).1 (appS D J el).2.1 j I7 K7 A4 c4 A c g x := by
              have e1 : (J.all ++ [el]).length = J.all.length + 1 := HLL.out
              have hnr : ∀ b, Value.ownBlock (.slice A4 (J.all.length + 1) c4) = some b → b < w6.heap.size ∧ ¬ (I b ∨ K b) := fun b hb => ⟨(hown6.lt b hb).2, fun e => by have := hlt b e; have := (hown6.lt b hb).1; omega⟩
              refine ⟨?_, fun b hb => ?_, ownsRow_kept hlw6 s7.kp hdj, fun b hb => s7.nb (hlw6.lt b hb).2 (hdj b hb), blk_kept hg6 s7.kp hgI, s7.nb (Array.getElem?_eq_some_iff.1 hg6).1 hgI, by omega, fun y hy => ?_, hout, s7.jd, hba6.trans (s7.kp.below_of hsb6 (fun b hb => (hjd6.lt b hb).1))⟩
              · rw [e1, HSE.out]
                exact own_base (ownsRow_kept hown6 s7.kp (fun b hb => (hnr b hb).2)) (by omega)
              · rw [e1] at hb
                exact s7.nb (hnr b hb).1 (hnr b hb).2
              · rcases List.mem_append.1 hy with h | h
                · have := hO.ent y h; omega
                · rw [List.mem_singleton.1 h]; exact hel
            clear s7 hjd6 hlw6 hown6 hg6 hba6 hout hcv hs6 hnb
            go_wp2_with fail
            go_meet
            all_goals go_light
            exact ⟨_, J.all ++ [el], _, _, j, I7, K7, A4, c4, rfl, by rw [HLL.out], rfl, hM⟩
          · as_aux_lemma =>
            have hcg := act_range hg2
            have hinf := actA_info
            go_wp2_with (refine wpList_load_mid rfl 134 (.tmp 19) rfl g 0 rfl (acC x) _ hcg Try.underlying134 rfl hinf ?_)
            refine (entry_any x hx2 w2).mono ?_
            rintro e w3 ⟨rfl, hb3⟩
            have hll : (J.all ++ [entL x]).length = J.all.length + 1 := by simp
            have hse : STd (J.all ++ [entL x]) = STd J.all ++ [.string (S8 (entL x))] := by simp [STd]
            have hel : (entL x).length ≤ 8193 := by unfold entL; rw [entA_len]; exact entN_le _ hx2
            have hout := app_out hI ⟨hn2.1, (by omega : n ≤ 1000)⟩ hG x.b (entN x.i)
            have hee : entA x.b (entN x.i) = entL x := rfl
            rw [hee] at hout
            clear hee
            obtain ⟨el, hel0⟩ : ∃ el, entL x = el := ⟨_, rfl⟩
            rw [hel0] at hll hse hel hout ⊢
            have HEL := hid hel0
            clear hel0
            have HLL := hid hll
            have HSE := hid hse
            have hsl := sl_one w3 9 (.string (S8 el)) rfl
            have hrow := (own_below hown2 hb3).alloc (.cells #[.string (S8 el)] 9)
            have hs3 := hb3.size
            have hz : s0 ≤ (w3.alloc (.cells #[.string (S8 el)] 9)).heap.size := by simp; omega
            have hba3 : Below s0 w2 (w3.alloc (.cells #[.string (S8 el)] 9)) := (hb3.mono hs2).alloc (Nat.le_trans hs2 hs3) _
            clear hll hse hown2 hcg hb3
            go_wp2_with (at_builtin; refine wpList_app rfl (.tmp 141) (.tmp 144) st_strd rfl s0 rfl hrow rfl hsl (by simp [Value.oneCell']) (by simp [maxLen]; omega) (by omega) hz ?_)
            intro A4 c4 w4' hown4 hg4 hf4
            have hb4' : Below s0 w2 w4' := hba3.trans (grown_below hrow hg4 hz)
            have hk4 := kept_of hb4'
            have hIK : ∀ b, I b ∨ K b → ¬ s0 ≤ b := fun b hb e => by have := hlt b hb; omega
            have hjd4 := hjd2.kept hk4 hIK
            have hlw4 := ownsRow_kept hrw2 hk4 (fun b hb e => by have := hrlt b hb; omega)
            have hg4' := blk_kept hg2 hk4 (by omega)
            have hba4 := hba2.trans (hb4'.mono (by omega))
            have hs4 := hb4'.size
            have hcg := act_range hg4'
            clear hsl hrow hz hba3 hg4 hf4 hb4' hk4 hjd2 hrw2 hg2 hba2
            go_wp2_with (refine wpList_load_mid rfl 134 (.tmp 19) rfl g 0 rfl (acC x) _ hcg Try.underlying134 rfl hinf ?_)
            refine (entry_any x hx2 w4').mono ?_
            rintro e w5 ⟨rfl, hb5⟩
            have hee2 : entL x = el := HEL.out
            rw [hee2]
            obtain ⟨c6, w6, hcv, hs6, hb6, hz6⟩ := sbytes w5 el (by omega)
            have hb56 : Below w4'.heap.size w4' w6 := hb5.trans (hb6.mono hb5.size)
            have hjd6 := hjd4.below hb56
            have hlw6 := own_below hlw4 hb56
            have hown6 := own_below hown4 hb56
            have hg6 := blk_below hg4' hb56 (by omega)
            have hsb4 := hba4.size
            have hba6 := hba4.trans (hb56.mono hsb4)
            have hsb6 := hba6.size
            have hnb : ¬ (I w5.heap.size ∨ K w5.heap.size) := fun e => by have := (hjd4.lt _ e).2; have := hb5.size; omega
            have HZ6 := hid hz6
            clear hb5 hb6 hb56 hjd4 hlw4 hown4 hg4' hba4 hcg hz6
            go_wp2_with fail
            generalize w5.heap.size = g6 at *
            refine (append_any wb.heap.size n w6 D J j d I K hjd6 hF (by omega) hsb6 hO g6 0 _ c6 el hs6 hnb).mono ?_
            rintro e w7 ⟨rfl, I7, K7, s7⟩
            have hM : MidAct wb.heap.size n (k + 2) d wb w7 J.all (J.all ++ [el]) (appS D J el).2.2 (appS D J el).1 (appS D J el).2.1 j I7 K7 A4 c4 A c g x := by
              have e1 : (J.all ++ [el]).length = J.all.length + 1 := HLL.out
              have hnr : ∀ b, Value.ownBlock (.slice A4 (J.all.length + 1) c4) = some b → b < w6.heap.size ∧ ¬ (I b ∨ K b) := fun b hb => ⟨(hown6.lt b hb).2, fun e => by have := hlt b e; have := (hown6.lt b hb).1; omega⟩
              refine ⟨?_, fun b hb => ?_, ownsRow_kept hlw6 s7.kp hdj, fun b hb => s7.nb (hlw6.lt b hb).2 (hdj b hb), blk_kept hg6 s7.kp hgI, s7.nb (Array.getElem?_eq_some_iff.1 hg6).1 hgI, by omega, fun y hy => ?_, hout, s7.jd, hba6.trans (s7.kp.below_of hsb6 (fun b hb => (hjd6.lt b hb).1))⟩
              · rw [e1, HSE.out]
                exact own_base (ownsRow_kept hown6 s7.kp (fun b hb => (hnr b hb).2)) (by omega)
              · rw [e1] at hb
                exact s7.nb (hnr b hb).1 (hnr b hb).2
              · rcases List.mem_append.1 hy with h | h
                · have := hO.ent y h; omega
                · rw [List.mem_singleton.1 h]; exact hel
            clear s7 hjd6 hlw6 hown6 hg6 hba6 hout hcv hs6 hnb
            go_wp2_with fail
            go_meet
            all_goals go_light
            exact ⟨_, J.all ++ [el], _, _, j, I7, K7, A4, c4, rfl, by rw [HLL.out], rfl, hM⟩
          · as_aux_lemma =>
            have hcg := act_range hg2
            have hinf := actA_info
            go_wp2_with (refine wpList_load_mid rfl 134 (.tmp 19) rfl g 0 rfl (acC x) _ hcg Try.underlying134 rfl hinf ?_)
            refine (entry_any x hx2 w2).mono ?_
            rintro e w3 ⟨rfl, hb3⟩
            have hll : (J.all ++ [entL x]).length = J.all.length + 1 := by simp
            have hse : STd (J.all ++ [entL x]) = STd J.all ++ [.string (S8 (entL x))] := by simp [STd]
            have hel : (entL x).length ≤ 8193 := by unfold entL; rw [entA_len]; exact entN_le _ hx2
            have hout := app_out hI ⟨hn2.1, (by omega : n ≤ 1000)⟩ hG x.b (entN x.i)
            have hee : entA x.b (entN x.i) = entL x := rfl
            rw [hee] at hout
            clear hee
            obtain ⟨el, hel0⟩ : ∃ el, entL x = el := ⟨_, rfl⟩
            rw [hel0] at hll hse hel hout ⊢
            have HEL := hid hel0
            clear hel0
            have HLL := hid hll
            have HSE := hid hse
            have hsl := sl_one w3 9 (.string (S8 el)) rfl
            have hrow := (own_below hown2 hb3).alloc (.cells #[.string (S8 el)] 9)
            have hs3 := hb3.size
            have hz : s0 ≤ (w3.alloc (.cells #[.string (S8 el)] 9)).heap.size := by simp; omega
            have hba3 : Below s0 w2 (w3.alloc (.cells #[.string (S8 el)] 9)) := (hb3.mono hs2).alloc (Nat.le_trans hs2 hs3) _
            clear hll hse hown2 hcg hb3
            go_wp2_with (at_builtin; refine wpList_app rfl (.tmp 141) (.tmp 144) st_strd rfl s0 rfl hrow rfl hsl (by simp [Value.oneCell']) (by simp [maxLen]; omega) (by omega) hz ?_)
            intro A4 c4 w4' hown4 hg4 hf4
            have hb4' : Below s0 w2 w4' := hba3.trans (grown_below hrow hg4 hz)
            have hk4 := kept_of hb4'
            have hIK : ∀ b, I b ∨ K b → ¬ s0 ≤ b := fun b hb e => by have := hlt b hb; omega
            have hjd4 := hjd2.kept hk4 hIK
            have hlw4 := ownsRow_kept hrw2 hk4 (fun b hb e => by have := hrlt b hb; omega)
            have hg4' := blk_kept hg2 hk4 (by omega)
            have hba4 := hba2.trans (hb4'.mono (by omega))
            have hs4 := hb4'.size
            have hcg := act_range hg4'
            clear hsl hrow hz hba3 hg4 hf4 hb4' hk4 hjd2 hrw2 hg2 hba2
            go_wp2_with (refine wpList_load_mid rfl 134 (.tmp 19) rfl g 0 rfl (acC x) _ hcg Try.underlying134 rfl hinf ?_)
            refine (entry_any x hx2 w4').mono ?_
            rintro e w5 ⟨rfl, hb5⟩
            have hee2 : entL x = el := HEL.out
            rw [hee2]
            obtain ⟨c6, w6, hcv, hs6, hb6, hz6⟩ := sbytes w5 el (by omega)
            have hb56 : Below w4'.heap.size w4' w6 := hb5.trans (hb6.mono hb5.size)
            have hjd6 := hjd4.below hb56
            have hlw6 := own_below hlw4 hb56
            have hown6 := own_below hown4 hb56
            have hg6 := blk_below hg4' hb56 (by omega)
            have hsb4 := hba4.size
            have hba6 := hba4.trans (hb56.mono hsb4)
            have hsb6 := hba6.size
            have hnb : ¬ (I w5.heap.size ∨ K w5.heap.size) := fun e => by have := (hjd4.lt _ e).2; have := hb5.size; omega
            have HZ6 := hid hz6
            clear hb5 hb6 hb56 hjd4 hlw4 hown4 hg4' hba4 hcg hz6
            go_wp2_with fail
            generalize w5.heap.size = g6 at *
            refine (append_any wb.heap.size n w6 D J j d I K hjd6 hF (by omega) hsb6 hO g6 0 _ c6 el hs6 hnb).mono ?_
            rintro e w7 ⟨rfl, I7, K7, s7⟩
            have hM : MidAct wb.heap.size n (k + 2) d wb w7 J.all (J.all ++ [el]) (appS D J el).2.2 (appS D J el).1 (appS D J el).2.1 j I7 K7 A4 c4 A c g x := by
              have e1 : (J.all ++ [el]).length = J.all.length + 1 := HLL.out
              have hnr : ∀ b, Value.ownBlock (.slice A4 (J.all.length + 1) c4) = some b → b < w6.heap.size ∧ ¬ (I b ∨ K b) := fun b hb => ⟨(hown6.lt b hb).2, fun e => by have := hlt b e; have := (hown6.lt b hb).1; omega⟩
              refine ⟨?_, fun b hb => ?_, ownsRow_kept hlw6 s7.kp hdj, fun b hb => s7.nb (hlw6.lt b hb).2 (hdj b hb), blk_kept hg6 s7.kp hgI, s7.nb (Array.getElem?_eq_some_iff.1 hg6).1 hgI, by omega, fun y hy => ?_, hout, s7.jd, hba6.trans (s7.kp.below_of hsb6 (fun b hb => (hjd6.lt b hb).1))⟩
              · rw [e1, HSE.out]
                exact own_base (ownsRow_kept hown6 s7.kp (fun b hb => (hnr b hb).2)) (by omega)
              · rw [e1] at hb
                exact s7.nb (hnr b hb).1 (hnr b hb).2
              · rcases List.mem_append.1 hy with h | h
                · have := hO.ent y h; omega
                · rw [List.mem_singleton.1 h]; exact hel
            clear s7 hjd6 hlw6 hown6 hg6 hba6 hout hcv hs6 hnb
            go_wp2_with fail
            go_meet
            all_goals go_light
            exact ⟨_, J.all ++ [el], _, _, j, I7, K7, A4, c4, rfl, by rw [HLL.out], rfl, hM⟩
          · as_aux_lemma =>
            have hcg := act_range hg2
            have hinf := actA_info
            go_wp2_with (refine wpList_load_mid rfl 134 (.tmp 19) rfl g 0 rfl (acC x) _ hcg Try.underlying134 rfl hinf ?_)
            refine (entry_any x hx2 w2).mono ?_
            rintro e w3 ⟨rfl, hb3⟩
            have hll : (J.all ++ [entL x]).length = J.all.length + 1 := by simp
            have hse : STd (J.all ++ [entL x]) = STd J.all ++ [.string (S8 (entL x))] := by simp [STd]
            have hel : (entL x).length ≤ 8193 := by unfold entL; rw [entA_len]; exact entN_le _ hx2
            have hout := app_out hI ⟨hn2.1, (by omega : n ≤ 1000)⟩ hG x.b (entN x.i)
            have hee : entA x.b (entN x.i) = entL x := rfl
            rw [hee] at hout
            clear hee
            obtain ⟨el, hel0⟩ : ∃ el, entL x = el := ⟨_, rfl⟩
            rw [hel0] at hll hse hel hout ⊢
            have HEL := hid hel0
            clear hel0
            have HLL := hid hll
            have HSE := hid hse
            have hsl := sl_one w3 9 (.string (S8 el)) rfl
            have hrow := (own_below hown2 hb3).alloc (.cells #[.string (S8 el)] 9)
            have hs3 := hb3.size
            have hz : s0 ≤ (w3.alloc (.cells #[.string (S8 el)] 9)).heap.size := by simp; omega
            have hba3 : Below s0 w2 (w3.alloc (.cells #[.string (S8 el)] 9)) := (hb3.mono hs2).alloc (Nat.le_trans hs2 hs3) _
            clear hll hse hown2 hcg hb3
            go_wp2_with (at_builtin; refine wpList_app rfl (.tmp 141) (.tmp 144) st_strd rfl s0 rfl hrow rfl hsl (by simp [Value.oneCell']) (by simp [maxLen]; omega) (by omega) hz ?_)
            intro A4 c4 w4' hown4 hg4 hf4
            have hb4' : Below s0 w2 w4' := hba3.trans (grown_below hrow hg4 hz)
            have hk4 := kept_of hb4'
            have hIK : ∀ b, I b ∨ K b → ¬ s0 ≤ b := fun b hb e => by have := hlt b hb; omega
            have hjd4 := hjd2.kept hk4 hIK
            have hlw4 := ownsRow_kept hrw2 hk4 (fun b hb e => by have := hrlt b hb; omega)
            have hg4' := blk_kept hg2 hk4 (by omega)
            have hba4 := hba2.trans (hb4'.mono (by omega))
            have hs4 := hb4'.size
            have hcg := act_range hg4'
            clear hsl hrow hz hba3 hg4 hf4 hb4' hk4 hjd2 hrw2 hg2 hba2
            go_wp2_with (refine wpList_load_mid rfl 134 (.tmp 19) rfl g 0 rfl (acC x) _ hcg Try.underlying134 rfl hinf ?_)
            refine (entry_any x hx2 w4').mono ?_
            rintro e w5 ⟨rfl, hb5⟩
            have hee2 : entL x = el := HEL.out
            rw [hee2]
            obtain ⟨c6, w6, hcv, hs6, hb6, hz6⟩ := sbytes w5 el (by omega)
            have hb56 : Below w4'.heap.size w4' w6 := hb5.trans (hb6.mono hb5.size)
            have hjd6 := hjd4.below hb56
            have hlw6 := own_below hlw4 hb56
            have hown6 := own_below hown4 hb56
            have hg6 := blk_below hg4' hb56 (by omega)
            have hsb4 := hba4.size
            have hba6 := hba4.trans (hb56.mono hsb4)
            have hsb6 := hba6.size
            have hnb : ¬ (I w5.heap.size ∨ K w5.heap.size) := fun e => by have := (hjd4.lt _ e).2; have := hb5.size; omega
            have HZ6 := hid hz6
            clear hb5 hb6 hb56 hjd4 hlw4 hown4 hg4' hba4 hcg hz6
            go_wp2_with fail
            generalize w5.heap.size = g6 at *
            refine (append_any wb.heap.size n w6 D J j d I K hjd6 hF (by omega) hsb6 hO g6 0 _ c6 el hs6 hnb).mono ?_
            rintro e w7 ⟨rfl, I7, K7, s7⟩
            have hM : MidAct wb.heap.size n (k + 2) d wb w7 J.all (J.all ++ [el]) (appS D J el).2.2 (appS D J el).1 (appS D J el).2.1 j I7 K7 A4 c4 A c g x := by
              have e1 : (J.all ++ [el]).length = J.all.length + 1 := HLL.out
              have hnr : ∀ b, Value.ownBlock (.slice A4 (J.all.length + 1) c4) = some b → b < w6.heap.size ∧ ¬ (I b ∨ K b) := fun b hb => ⟨(hown6.lt b hb).2, fun e => by have := hlt b e; have := (hown6.lt b hb).1; omega⟩
              refine ⟨?_, fun b hb => ?_, ownsRow_kept hlw6 s7.kp hdj, fun b hb => s7.nb (hlw6.lt b hb).2 (hdj b hb), blk_kept hg6 s7.kp hgI, s7.nb (Array.getElem?_eq_some_iff.1 hg6).1 hgI, by omega, fun y hy => ?_, hout, s7.jd, hba6.trans (s7.kp.below_of hsb6 (fun b hb => (hjd6.lt b hb).1))⟩
              · rw [e1, HSE.out]
                exact own_base (ownsRow_kept hown6 s7.kp (fun b hb => (hnr b hb).2)) (by omega)
              · rw [e1] at hb
                exact s7.nb (hnr b hb).1 (hnr b hb).2
              · rcases List.mem_append.1 hy with h | h
                · have := hO.ent y h; omega
                · rw [List.mem_singleton.1 h]; exact hel
            clear s7 hjd6 hlw6 hown6 hg6 hba6 hout hcv hs6 hnb
            go_wp2_with fail
            go_meet
            all_goals go_light
            exact ⟨_, J.all ++ [el], _, _, j, I7, K7, A4, c4, rfl, by rw [HLL.out], rfl, hM⟩
          · as_aux_lemma =>
            clear hown2
            rw [show (((4 : Nat) : Int)) = 4 from rfl]
            have hq3 := (blk_cells hg2).1 3
            simp at hq3
            have hll := own_sl hrw2
            have hw2s : s0 ≤ w2.heap.size := hs2
            go_wp2_with fail
            go_loopw [20, 22] (fun v20 v22 wr => ∃ (m : Nat) (nx : List (List UInt8)) (A' : Option Addr) (c' : Nat), m ≤ J.all.length ∧ v22 = .int .i64 m ∧ v20 = .slice A' nx.length c' ∧ wr.ownsRow w2.heap.size 9 1 (.slice A' nx.length c') nx.length (STd nx) ∧ nx.length ≤ m ∧ (∀ y ∈ nx, y ∈ J.all) ∧ Below w2.heap.size w2 wr) (fun _ i _ => J.all.length - (intOf i).toNat)
            case atStart => exact ⟨0, [], none, 0, Nat.zero_le _, rfl, rfl, World.ownsRow_nil _ _ _ _, Nat.le_refl _, by simp, Below.refl _ _⟩
            case round =>
              obtain ⟨m, nx, A', c', hm, rfl, rfl, hown, hnm, hsub, hb⟩ := hrel
              have q3r := (hb.cell (p := ⟨g, 3, none⟩) (by show g < w2.heap.size; omega)).trans hq3
              clear hq3
              by_cases hmn : m < J.all.length
              · obtain ⟨b1, o1, rfl, hb1, q1⟩ := ST_cell hll hmn
                have r1 := (hb.cell (p := ⟨b1, o1 + m, none⟩) hb1).trans q1
                have hmem : J.all.getD m [] ∈ J.all := by
                  rw [List.getD_eq_getElem?_getD, List.getElem?_eq_getElem hmn]
                  exact List.getElem_mem _
                generalize J.all.getD m [] = y at *
                clear q1 hjd2 hrw2 hg2 hba2 hll
                obtain ⟨bv, hbv⟩ : ∃ bv : Int, bits BinOp.and IntKind.i64 (x.size / 2 ^ (m % 16)) 1 = bv := ⟨_, rfl⟩
                by_cases hb1 : bv = 1
                rotate_left
                · have hbf : (bv == 1) = false := by simpa using hb1
                  clear hb1
                  clear r1 hmem
                  go_wp2_with fail
                  go_light
                  exact ⟨⟨m + 1, nx, A', c', by omega, by go_num, rfl, hown, by omega, hsub, hb⟩, by simp [intOf]; omega⟩
                · have hbf : (bv == 1) = true := by simpa using hb1
                  clear hb1
                  have hll : (nx ++ [y]).length = nx.length + 1 := by simp
                  have hse : STd (nx ++ [y]) = STd nx ++ [.string (S8 y)] := by simp [STd]
                  have HLL := hid hll
                  have HSE := hid hse
                  have HM := hid hmem
                  have hsl := sl_one wr 9 (.string (S8 y)) rfl
                  have hrow := hown.alloc (.cells #[.string (S8 y)] 9)
                  have hbs := hb.size
                  have hz : w2.heap.size ≤ (wr.alloc (.cells #[.string (S8 y)] 9)).heap.size := by simp; omega
                  have hba3 : Below w2.heap.size w2 (wr.alloc (.cells #[.string (S8 y)] 9)) := hb.alloc hbs _
                  have hcp := own_lens hown
                  clear hll hse hmem hb hown
                  go_wp2_with (at_builtin; refine wpList_app rfl (.tmp 166) (.tmp 171) st_strd rfl w2.heap.size rfl hrow rfl hsl (by simp [Value.oneCell']) (by simp [maxLen]; omega) (by omega) hz ?_)
                  intro A6 c6 w6 hown6 hg6 hf6
                  have hb6 : Below w2.heap.size w2 w6 := hba3.trans (grown_below hrow hg6 hz)
                  rw [← HSE.out, ← HLL.out] at hown6
                  have HO6 := hid hown6
                  clear hsl hrow hz hba3 hg6 hf6 hown6 r1
                  go_wp2_with fail
                  go_light
                  refine ⟨⟨m + 1, nx ++ [y], A6, c6, by omega, by go_num, by rw [HLL.out], HO6.out, by rw [HLL.out]; omega, fun z hz => ?_, hb6⟩, by simp [intOf]; omega⟩
                  rcases List.mem_append.1 hz with h | h
                  · exact hsub z h
                  · rw [List.mem_singleton.1 h]; exact HM.out
              · obtain rfl : m = J.all.length := by omega
                have hjd4 := hjd2.below hb
                have hlw4 := own_below hrw2 hb
                have hg4 := blk_below hg2 hb (by omega)
                have hba4 := hba2.trans (hb.mono hsb2)
                have hs4 := hb.size
                have hent : ∀ y ∈ nx, y.length ≤ 8193 := fun y hy => by have := hO.ent y (hsub y hy); omega
                have hcp := own_lens hown
                have hjd2' := hjd2
                have hrw2' := hrw2
                have hg2' := hg2
                have hba2' := hba2
                clear hjd2 hrw2 hg2 hba2 hll
                by_cases h3 : Int.tmod x.size 3 = 2
                · have hcg := act_range hg4
                  have hinf := actA_info
                  go_wp2_with (refine wpList_load_mid rfl 134 (.tmp 19) rfl g 0 rfl (acC x) _ hcg Try.underlying134 rfl hinf ?_)
                  refine (entry_any x hx2 _).mono ?_
                  rintro e w5 ⟨rfl, hb5⟩
                  have hel : (entL x).length ≤ 8193 := by unfold entL; rw [entA_len]; exact entN_le _ hx2
                  generalize entL x = el at *
                  have hll : (nx ++ [el]).length = nx.length + 1 := by simp
                  have hse : STd (nx ++ [el]) = STd nx ++ [.string (S8 el)] := by simp [STd]
                  have HLL := hid hll
                  have HSE := hid hse
                  have hsl := sl_one w5 9 (.string (S8 el)) rfl
                  have hrow := (own_below hown hb5).alloc (.cells #[.string (S8 el)] 9)
                  have hs5 := hb5.size
                  have hz : w2.heap.size ≤ (w5.alloc (.cells #[.string (S8 el)] 9)).heap.size := by simp; omega
                  have hba3 : Below w2.heap.size w2 (w5.alloc (.cells #[.string (S8 el)] 9)) := (hb.trans (hb5.mono hs4)).alloc (Nat.le_trans hs4 hs5) _
                  clear hll hse hcg hjd4 hlw4 hg4 hba4 hown hb5
                  go_wp2_with (at_builtin; refine wpList_app rfl (.tmp 177) (.tmp 180) st_strd rfl w2.heap.size rfl hrow rfl hsl (by simp [Value.oneCell']) (by simp [maxLen]; omega) (by omega) hz ?_)
                  intro A6 c6 w6 hown6 hg6 hf6
                  have hb6 : Below w2.heap.size w2 w6 := hba3.trans (grown_below hrow hg6 hz)
                  rw [← HSE.out, ← HLL.out] at hown6
                  have hjd4 := hjd2'.below hb6
                  have hs6 := hb6.size
                  have hlw4 := own_below hrw2' hb6
                  have hg4 := blk_below hg2' hb6 (by omega)
                  have hba4 := hba2'.trans (hb6.mono hsb2)
                  have hown6' := own_base hown6 hw2s
                  have hnl : (nx ++ [el]).length ≤ 100 := by rw [HLL.out]; omega
                  have hent2 : ∀ y ∈ nx ++ [el], y.length ≤ 8193 := fun y hy => by
                    rcases List.mem_append.1 hy with h | h
                    · exact hent y h
                    · rw [List.mem_singleton.1 h]; exact hel
                  rw [← HLL.out]
                  clear hsl hrow hz hba3 hg6 hf6 hb6 hown6 hjd2' hrw2' hg2' hba2' HLL HSE hent hcp hsub hel
                  generalize nx ++ [el] = nz at *
                  go_wp2_with fail
                  refine (lists_any _ _ _ _ (nz) (own_sl hown6') (by omega) (fun y hy => by have := hent2 y hy; omega)).mono ?_
                  rintro e w8 ⟨A8, c8, vs8, E8, rfl, hown8, hev8, hE8, hb8⟩
                  have hen := hev8.ents hown8 rfl
                  have hjd8 := hjd4.below hb8
                  have hlw8 := own_below hlw4 hb8
                  have hnx8 := own_below hown6' hb8
                  have hg8 := blk_below hg4 hb8 (by omega)
                  have hsb4 := hba4.size
                  have hba8 := hba4.trans (hb8.mono hsb4)
                  have hsb8 := hba8.size
                  have hc8 := own_lens hown8
                  have hA8 : 0 < (nz).length → ∀ ad, A8 = some ad → ¬ (I ad.block ∨ K ad.block) := fun h0 ad had e => by
                    subst had
                    obtain ⟨g8, e8, hg8a, _⟩ := own_some hown8 h0
                    injection e8 with e8
                    subst e8
                    have := (hjd4.lt _ e).2
                    simp only at this
                    omega
                  have hF8 : ∀ b, E8 b → ¬ (I b ∨ K b) := fun b hb e => by have := (hjd4.lt _ e).2; have := hE8 b hb; omega
                  have hout := comp_out hI ⟨hn2.1, (by omega : n ≤ 1000)⟩ hG (by omega) (nz)
                  clear hown8 hev8 hE8 hb8 hjd4 hlw4 hown6' hg4 hba4
                  go_wp2_with fail
                  refine (compact_any wb.heap.size n w8 D J j d I K hjd8 hF (by omega) hsb8 hO (by omega) A8 _ c8 vs8 (nz) E8 hen (by omega) hA8 hF8).mono ?_
                  rintro e w9 ⟨rfl, I9, K9, s9⟩
                  have hM : MidAct wb.heap.size n (k + 2) d wb w9 J.all (nz) (compS D J (nz)).2.2 (compS D J (nz)).1 (compS D J (nz)).2.1 j I9 K9 A6 c6 A c g x := by
                    have hnr : ∀ b, Value.ownBlock (.slice A6 (nz).length c6) = some b → b < w8.heap.size ∧ ¬ (I b ∨ K b) := fun b hb => ⟨(hnx8.lt b hb).2, fun e => by have := hlt b e; have := (hnx8.lt b hb).1; omega⟩
                    exact ⟨own_base (ownsRow_kept hnx8 s9.kp (fun b hb => (hnr b hb).2)) (by omega), fun b hb => s9.nb (hnr b hb).1 (hnr b hb).2, ownsRow_kept hlw8 s9.kp hdj, fun b hb => s9.nb (hlw8.lt b hb).2 (hdj b hb), blk_kept hg8 s9.kp hgI, s9.nb (Array.getElem?_eq_some_iff.1 hg8).1 hgI, by omega, hent2, hout, s9.jd, hba8.trans (s9.kp.below_of hsb8 (fun b hb => (hjd8.lt b hb).1))⟩
                  clear s9 hjd8 hlw8 hnx8 hg8 hba8 hout hen hA8 hF8
                  go_wp2_with fail
                  go_meet
                  all_goals go_light
                  exact ⟨_, nz, _, _, j, I9, K9, A6, c6, rfl, rfl, rfl, hM⟩
                · have h3b : (Int.tmod x.size 3 == 2) = false := by simpa using h3
                  have hown4 := own_base hown hw2s
                  clear hown
                  go_wp2_with fail
                  refine (lists_any _ _ _ _ (nx) (own_sl hown4) (by omega) (fun y hy => by have := hent y hy; omega)).mono ?_
                  rintro e w8 ⟨A8, c8, vs8, E8, rfl, hown8, hev8, hE8, hb8⟩
                  have hen := hev8.ents hown8 rfl
                  have hjd8 := hjd4.below hb8
                  have hlw8 := own_below hlw4 hb8
                  have hnx8 := own_below hown4 hb8
                  have hg8 := blk_below hg4 hb8 (by omega)
                  have hsb4 := hba4.size
                  have hba8 := hba4.trans (hb8.mono hsb4)
                  have hsb8 := hba8.size
                  have hc8 := own_lens hown8
                  have hA8 : 0 < (nx).length → ∀ ad, A8 = some ad → ¬ (I ad.block ∨ K ad.block) := fun h0 ad had e => by
                    subst had
                    obtain ⟨g8, e8, hg8a, _⟩ := own_some hown8 h0
                    injection e8 with e8
                    subst e8
                    have := (hjd4.lt _ e).2
                    simp only at this
                    omega
                  have hF8 : ∀ b, E8 b → ¬ (I b ∨ K b) := fun b hb e => by have := (hjd4.lt _ e).2; have := hE8 b hb; omega
                  have hout := comp_out hI ⟨hn2.1, (by omega : n ≤ 1000)⟩ hG (by omega) (nx)
                  clear hown8 hev8 hE8 hb8 hjd4 hlw4 hown4 hg4 hba4
                  go_wp2_with fail
                  refine (compact_any wb.heap.size n w8 D J j d I K hjd8 hF (by omega) hsb8 hO (by omega) A8 _ c8 vs8 (nx) E8 hen (by omega) hA8 hF8).mono ?_
                  rintro e w9 ⟨rfl, I9, K9, s9⟩
                  have hM : MidAct wb.heap.size n (k + 2) d wb w9 J.all (nx) (compS D J (nx)).2.2 (compS D J (nx)).1 (compS D J (nx)).2.1 j I9 K9 A' c' A c g x := by
                    have hnr : ∀ b, Value.ownBlock (.slice A' (nx).length c') = some b → b < w8.heap.size ∧ ¬ (I b ∨ K b) := fun b hb => ⟨(hnx8.lt b hb).2, fun e => by have := hlt b e; have := (hnx8.lt b hb).1; omega⟩
                    exact ⟨own_base (ownsRow_kept hnx8 s9.kp (fun b hb => (hnr b hb).2)) (by omega), fun b hb => s9.nb (hnr b hb).1 (hnr b hb).2, ownsRow_kept hlw8 s9.kp hdj, fun b hb => s9.nb (hlw8.lt b hb).2 (hdj b hb), blk_kept hg8 s9.kp hgI, s9.nb (Array.getElem?_eq_some_iff.1 hg8).1 hgI, by omega, hent, hout, s9.jd, hba8.trans (s9.kp.below_of hsb8 (fun b hb => (hjd8.lt b hb).1))⟩
                  clear s9 hjd8 hlw8 hnx8 hg8 hba8 hout hen hA8 hF8
                  go_wp2_with fail
                  go_meet
                  all_goals go_light
                  exact ⟨_, nx, _, _, j, I9, K9, A', c', rfl, rfl, rfl, hM⟩
          · as_aux_lemma =>
            go_wp2_with fail
            refine (hI.opens hn2.1 wb.heap.size w2 d I hjd2.dk hsb2 (by omega)).mono ?_
            rintro e w3 ⟨j3, K3, rfl, hjd3, hK3, hb3⟩
            have hlr := hown2.lt
            have hll := hrw2.lt
            have hg3 := blk_below hg2 hb3 (Nat.lt_of_lt_of_le hga hs2)
            have hM : MidAct wb.heap.size n (k + 2) d wb w3 J.all J.all 0 D J j3 I K3 A2 c2 A c g x := by
              refine ⟨own_base (own_below hown2 hb3) (by omega), fun b hb e => ?_, own_below hrw2 hb3, fun b hb e => ?_, hg3, fun e => ?_, by omega, fun y hy => by have := hO.ent y hy; omega, same_out hI hG, hjd3, hba2.trans (hb3.mono hsb2)⟩
              · rcases e with e | e
                · have := hlt b (.inl e); have := (hlr b hb).1; omega
                · have := hK3 b e; have := (hlr b hb).2; omega
              · rcases e with e | e
                · exact hdj b hb (.inl e)
                · have := hK3 b e; have := (hll b hb).2; omega
              · rcases e with e | e
                · exact hgI (.inl e)
                · have := hK3 g e; omega
            clear hb3 hg3 hjd3 hlr hll hK3 hown2 hrw2 hg2 hjd2 hba2
            go_wp2_with fail
            go_meet
            all_goals go_light
            exact ⟨0, J.all, D, J, j3, I, K3, A2, c2, rfl, rfl, rfl, hM⟩
          · as_aux_lemma =>
            obtain ⟨yf, hyf, eyf'⟩ := modU x.i 12 (by omega) (by omega)
            have eyf : wrap64 ((IntKind.u64.wrap x.i).tmod 12) = (yf : Int) := eyf'
            clear eyf'
            have qg := (blk_cells hg2).1 1
            simp at qg
            go_wp2_with fail
            refine (dsk_arm wb.heap.size w2 D d I yf hjd2.dk (by omega)).mono ?_
            rintro e w3 ⟨rfl, I3, hd3, ht3⟩
            have s3 := hjd2.turn hd3 ht3
            have hA := (hI.arm (yf : Int)).1
            have hll := hrw2.lt
            have hrw3 := ownsRow_kept hrw2 s3.kp hdj
            have hdj3 : ∀ b, Value.ownBlock (.slice A J.all.length c) = some b → ¬ (I3 b ∨ K b) := fun b hb => s3.nb (hll b hb).2 (hdj b hb)
            have hb3 : Below wb.heap.size wb w3 := hba2.trans (s3.kp.below_of hsb2 (fun b hb => (hjd2.lt b hb).1))
            have hjd3 := s3.jd
            clear hd3 ht3 s3 hrw2 hjd2 hba2 hg2 qg hll
            go_wp2_with fail
            go_light
            exact ⟨⟨k + 1, armD D (yf : Int), J, j, I3, K, A, c, by omega, by omega, by go_num, rfl, rfl, ⟨hrw3, hdj3, hA, by omega, hjd3⟩, hb3⟩, by simp [intOf]; omega⟩
          · as_aux_lemma =>
            have hlr := hown2.lt
            have hM : MidAct wb.heap.size n (k + 2) d wb w2 J.all J.all 2 D J j I K A2 c2 A c g x := by
              refine ⟨own_base hown2 (by omega), fun b hb e => ?_, hrw2, hdj, hg2, hgI, by omega, fun y hy => by have := hO.ent y hy; omega, gone_out hI hG, hjd2, hba2⟩
              have := hlt b e; have := (hlr b hb).1; omega
            clear hlr hown2 hrw2 hg2 hjd2 hba2
            go_wp2_with fail
            go_meet
            all_goals go_light
            exact ⟨2, J.all, D, J, j, I, K, A2, c2, rfl, rfl, rfl, hM⟩
        case rest =>
          as_aux_lemma =>
          obtain ⟨E, next, D1, J1, j1, I1, K1, A1, c1, rfl, rfl, rfl, hM⟩ := hcut
          clear hown2 hjd2 hrw2 hg2 hba2 hF hO hdj hgI hlt hrlt hsb2 hs2 hga hga' hy8 hI hG
          obtain ⟨hnx, hnd, hlx, hld, hgc, hgd, hfew, hent, hout, hjd, hbl⟩ := hM
          have HOUT := hid hout
          clear hout
          go_wp2_with fail
          refine (refSum_any wc A1 _ c1 next (own_sl hnx) (by omega) hent).mono ?_
          rintro e w1' ⟨rfl, hb1'⟩
          have hnx1 := own_below hnx hb1'
          have hlx1 := own_below hlx hb1'
          have hgc1 := blk_below hgc hb1' (Array.getElem?_eq_some_iff.1 hgc).1
          have hjd1 := hjd.below hb1'
          have hbl1 := hbl.trans (hb1'.mono hbl.size)
          have hst : sumT next ≤ 100 * 130 := by
            have : ∀ l : List (List UInt8), (∀ y ∈ l, y.length ≤ 8193) → sumT l ≤ l.length * 130 := by
              intro l
              induction l with
              | nil => intro _; simp [sumT]
              | cons z t ih =>
                intro h
                have h1 := ih (fun y hy => h y (List.mem_cons_of_mem _ hy))
                have h2 := h z (List.mem_cons_self ..)
                simp only [sumT, List.length_cons]
                have : takesN z.length ≤ 130 := by unfold takesN; omega
                omega
            have := this next hent
            omega
          have HWE : Hid (wantE n next = if rightB next = true then (if rm < sumT next then 5 else 0) else 1) := hid (by unfold wantE; rw [HRM.out])
          clear hnx hlx hgc hjd hbl hb1'
          go_upto_if 216 with fail
          go_cut [25] from 114 to 309 (fun s wx => s = .int .i64 (if rm < sumT next then 5 else 0) ∧ wx = w1')
          case first =>
            by_cases h : rm < sumT next
            · go_wp2_with fail
              go_meet
              all_goals go_light
              exact ⟨by rw [if_pos h], rfl⟩
            · go_wp2_with fail
              go_meet
              all_goals go_light
              exact ⟨by rw [if_neg h], rfl⟩
          case rest =>
            obtain ⟨rfl, rfl⟩ := hcut
            clear hst
            obtain ⟨q5, hq5⟩ : ∃ q5 : Int, (if rm < sumT next then 5 else 0) = q5 := ⟨_, rfl⟩
            rw [hq5]
            have HQ5 := hid hq5
            clear hq5
            go_wp2_with fail
            refine (refRight_any' _ A1 _ c1 next (own_sl hnx1) (fun y hy => by have := hent y hy; omega)).mono ?_
            rintro e w2' ⟨rfl, hb2'⟩
            have hnx2 := own_below hnx1 hb2'
            have hlx2 := own_below hlx1 hb2'
            have hgc2 := blk_below hgc1 hb2' (Array.getElem?_eq_some_iff.1 hgc1).1
            have hjd2 := hjd1.below hb2'
            have hbl2 := hbl1.trans (hb2'.mono hbl1.size)
            clear hnx1 hlx1 hgc1 hjd1 hbl1 hb2'
            go_upto_if 219 with fail
            go_cut [25] from 114 to 309 (fun s wx => s = .int .i64 (wantE n next) ∧ wx = w2')
            case first =>
              cases hr : rightB next with
              | true =>
                have hw : wantE n next = q5 := by rw [HWE.out, if_pos hr, HQ5.out]
                have HW := hid hw
                clear hw hr
                go_wp2_with fail
                go_meet
                all_goals go_light
                exact ⟨by rw [HW.out], rfl⟩
              | false =>
                have hw : wantE n next = 1 := by rw [HWE.out, if_neg (by rw [hr]; exact Bool.false_ne_true)]
                have HW := hid hw
                clear hw hr
                go_wp2_with fail
                go_meet
                all_goals go_light
                exact ⟨by rw [HW.out], rfl⟩
            case rest =>
              obtain ⟨rfl, rfl⟩ := hcut
              have hnx := hnx2
              have hlx := hlx2
              have hgc := hgc2
              have hjd := hjd2
              have hbl := hbl2
              clear hnx2 hlx2 hgc2 hjd2 hbl2
              obtain ⟨we, hwe⟩ : ∃ we, wantE n next = we := ⟨_, rfl⟩
              rw [hwe]
              have HWE2 : Hid (we = if rightB next = true then (if rm < sumT next then 5 else 0) else 1) := hid (by rw [← hwe]; exact HWE.out)
              have HW0 := hid hwe
              clear hwe HWE
              go_upto_block 5 with fail
              go_cut [14, 16] from 114 to 309 (fun s14 s16 wx => ∃ (D2 : Dk) (J2 : Jn) (j2 : Nat) (I2 K2 : Nat → Prop) (A2 : Option Addr) (c2 : Nat), s14 = .pointer (some ⟨j2, 0, none⟩) ∧ s16 = .slice A2 J2.all.length c2 ∧ ActsAt wb.heap.size n (k + 2) d wx D2 J2 j2 I2 K2 A2 c2 ∧ Below wb.heap.size wb wx)
              case first =>
                rcases HOUT.out with ⟨hE2, hIv, hGv, hEw, hall⟩ | ⟨rfl, hFK, hcr⟩
                · clear HOUT
                  rw [HW0.out] at hEw
                  by_cases hE0 : E = 0
                  · as_aux_lemma =>
                    subst hE0
                    rw [if_pos rfl] at hall
                    subst hEw
                    have hR : ActsAt wb.heap.size n (k + 2) d wc D1 J1 j1 I1 K1 A1 c1 := ⟨by rw [hall]; exact hnx, by rw [hall]; exact hnd, hIv, hGv, hjd⟩
                    have hxl : J1.all.length = next.length := by rw [hall]
                    have HXL := hid hxl
                    clear hxl hall hE2 hnx hlx hjd hgc HWE2 HW0
                    go_wp2_with fail
                    go_meet
                    all_goals go_light
                    exact ⟨D1, J1, j1, I1, K1, A1, c1, rfl, by rw [HXL.out], hR, hbl⟩
                  · as_aux_lemma =>
                    rw [if_neg hE0] at hall
                    have hE15 : E = 1 ∨ E = 5 := by
                      have hEe := hEw.trans HWE2.out
                      by_cases hr : rightB next = true
                      · rw [if_pos hr] at hEe
                        by_cases hs : rm < sumT next
                        · rw [if_pos hs] at hEe
                          exact .inr hEe
                        · rw [if_neg hs] at hEe
                          exact absurd hEe hE0
                      · rw [if_neg hr] at hEe
                        exact .inl hEe
                    have hR : ∀ w9, Below wc.heap.size wc w9 → ActsAt wb.heap.size n (k + 2) d w9 D1 J1 j1 I1 K1 A c := fun w9 h9 => ⟨by rw [hall]; exact own_below hlx h9, by rw [hall]; exact hld, hIv, hGv, hjd.below h9⟩
                    have hxl : J1.all.length = J.all.length := by rw [hall]
                    have HXL := hid hxl
                    have hnr : E = 1 → rightB next = false := fun e => by
                      rw [Bool.eq_false_iff]
                      intro hr
                      rw [hEw, HWE2.out, if_pos hr] at e
                      split at e <;> cases e
                    subst hEw
                    have HR := hid hR
                    have hsl := own_sl hnx
                    clear hxl hall hE2 hlx hjd hgc hE0 hnx hR HWE2 HW0
                    rcases hE15 with rfl | rfl
                    · have hnr := hnr rfl
                      go_wp2_with fail
                      refine (refRight_any' _ A1 _ c1 next hsl (fun y hy => by have := hent y hy; omega)).mono ?_
                      rintro e w9 ⟨rfl, hb9⟩
                      rw [hnr]
                      have hb9' := hbl.trans (hb9.mono hbl.size)
                      have hR9 := HR.out w9 hb9
                      clear hnr hsl hb9 HR
                      go_wp2_with fail
                      go_meet
                      all_goals go_light
                      exact ⟨D1, J1, j1, I1, K1, A, c, rfl, by rw [HXL.out], hR9, hb9'⟩
                      all_goals trivial
                    · clear hnr
                      go_wp2_with fail
                      go_meet
                      all_goals go_light
                      exact ⟨D1, J1, j1, I1, K1, A, c, rfl, by rw [HXL.out], HR.out _ (Below.refl _ _), hbl⟩
                · clear HOUT
                  as_aux_lemma =>
                  have qg := (blk_cells hgc).1 4
                  simp at qg
                  have hsc := hbl.size
                  have hKw := hK.below hbl
                  obtain ⟨Jx, hIx, hGx, hax⟩ := hcr x.kl
                  have hFo := hFK.fit.ok
                  clear hcr hFK hSb hokb hent HWE2
                  go_wp2_with fail
                  refine (dsk_crash wb.heap.size _ D1 d I1 x.K x.nk x.ck x.kl hjd.dk hsc hFo hKw hKlt).mono ?_
                  rintro e w3 ⟨rfl, I3, hd3, ht3⟩
                  have hl3 := ownsRow_kept hlx ht3.1 (fun b hb e => hld b hb (.inl e))
                  have hn3 := ownsRow_kept hnx ht3.1 (fun b hb e => hnd b hb (.inl e))
                  have hld3 : ∀ b, Value.ownBlock (.slice A J.all.length c) = some b → ¬ I3 b := fun b hb e => by
                    rcases ht3.2 b e with h | h
                    · exact hld b hb (.inl h)
                    · have := (hlx.lt b hb).2; omega
                  have hnd3 : ∀ b, Value.ownBlock (.slice A1 next.length c1) = some b → ¬ I3 b := fun b hb e => by
                    rcases ht3.2 b e with h | h
                    · exact hnd b hb (.inl h)
                    · have := (hnx.lt b hb).2; omega
                  have hb3 : Below wb.heap.size wb w3 := hbl.trans (ht3.1.below_of hsc (fun b hb => (hjd.dk.bd b hb).1))
                  have hs3 := hb3.size
                  have hord : (crashD D1 x.kl).order.length = 0 := rfl
                  clear hjd hlx hnx hld hnd hgc hgd hbl ht3 hKw qg hsc
                  generalize crashD D1 x.kl = Dc at *
                  go_wp2_with fail
                  refine (hIx.opens hn2.1 wb.heap.size w3 d I3 hd3 hs3 (by omega)).mono ?_
                  rintro e w4 ⟨j4, K4, rfl, hjd4, hK4, hb4⟩
                  have hs4 := hb4.size
                  have hl4 := own_below hl3 hb4
                  have hn4 := own_below hn3 hb4
                  have hld4 : ∀ b, Value.ownBlock (.slice A J.all.length c) = some b → ¬ (I3 b ∨ K4 b) := fun b hb e => by
                    rcases e with e | e
                    · exact hld3 b hb e
                    · have := hK4 b e; have := (hl3.lt b hb).2; omega
                  have hnd4 : ∀ b, Value.ownBlock (.slice A1 next.length c1) = some b → ¬ (I3 b ∨ K4 b) := fun b hb e => by
                    rcases e with e | e
                    · exact hnd3 b hb e
                    · have := hK4 b e; have := (hn3.lt b hb).2; omega
                  have hb4' := hb3.trans (hb4.mono hs3)
                  have hs4' := hb4'.size
                  have hd4 := hjd4.dk
                  clear hd3 hl3 hn3 hld3 hnd3 hb3 hK4 hb4
                  go_wp2_with fail
                  refine (hIx.opens hn2.1 wb.heap.size w4 d I3 hd4 hs4' (by omega)).mono ?_
                  rintro e w5 ⟨j5, K5, rfl, hjd5, hK5, hb5⟩
                  have hjd4' := hjd4.below hb5
                  have hl5 := own_below hl4 hb5
                  have hn5 := own_below hn4 hb5
                  have hb5' := hb4'.trans (hb5.mono hs4')
                  have hs5 := hb5'.size
                  clear hjd4 hl4 hn4 hb4' hb5 hd4 hK5
                  go_wp2_with fail
                  refine (dsk_waits wb.heap.size w5 Dc d I3 hjd5.dk).mono ?_
                  rintro e w6 ⟨rfl, rfl⟩
                  rw [hord]
                  have hOx : JOk Jx := hIx.frm.ok
                  have hal : allJ Jx = Jx.all := by unfold allJ; rw [if_neg (by rw [hIx.frm.gn]; exact Bool.false_ne_true)]
                  have hlx39 : Jx.all.length ≤ 1024 := hOx.few
                  go_wp2_with fail
                  refine (all_any wb.heap.size w6 Jx j4 d K4 hjd4'.jn hOx).mono ?_
                  rintro e w7 ⟨A7, c7, vs7, E7, rfl, hown7, hev7, _, hb7⟩
                  rw [hal] at hown7 hev7 ⊢
                  have hen := hev7.ents hown7 rfl
                  have hjd7 := hjd4'.below hb7
                  have hjo7 := hjd5.below hb7
                  have hl7 := own_below hl5 hb7
                  have hn7 := own_below hn5 hb7
                  have hb7' := hb5'.trans (hb7.mono hs5)
                  have hs7 := hb7'.size
                  clear hown7 hev7 hjd4' hjd5 hl5 hn5 hb7 hb5'
                  go_wp2_with fail
                  refine (texts_any w7 A7 _ c7 vs7 Jx.all E7 hen (by omega)).mono ?_
                  rintro e w8 ⟨A8, c8, rfl, hown8, hb8⟩
                  have hjd8 := hjd7.below hb8
                  have hjo8 := hjo7.below hb8
                  have hl8 := own_below hl7 hb8
                  have hn8 := own_below hn7 hb8
                  have hb8' := hb7'.trans (hb8.mono hs7)
                  have hs8 := hb8'.size
                  have ht8 := own_sl hown8
                  clear hown8 hen hjd7 hjo7 hl7 hn7 hb8 hb7'
                  go_wp2_with fail
                  refine (all_any wb.heap.size w8 Jx j5 d K5 hjo8.jn hOx).mono ?_
                  rintro e w9 ⟨A9, c9, vs9, E9, rfl, hown9, hev9, _, hb9⟩
                  rw [hal] at hown9 hev9 ⊢
                  have hen := hev9.ents hown9 rfl
                  have hjd9 := hjd8.below hb9
                  have hl9 := own_below hl8 hb9
                  have hn9 := own_below hn8 hb9
                  have ht9 := ht8.below hb9
                  have hb9' := hb8'.trans (hb9.mono hs8)
                  have hs9 := hb9'.size
                  clear hown9 hev9 hjd8 hjo8 hl8 hn8 hb9 hb8' ht8
                  go_wp2_with fail
                  refine (texts_any w9 A9 _ c9 vs9 Jx.all E9 hen (by omega)).mono ?_
                  rintro e w10 ⟨A10, c10, rfl, hown10, hb10⟩
                  have hjd10 := hjd9.below hb10
                  have hl10 := own_below hl9 hb10
                  have hn10 := own_below hn9 hb10
                  have ht10 := ht9.below hb10
                  have hu10 := own_sl hown10
                  have hb10' := hb9'.trans (hb10.mono hs9)
                  have hs10 := hb10'.size
                  clear hown10 hen hjd9 hl9 hn9 ht9 hb10 hb9'
                  go_wp2_with fail
                  refine (refSame_any w10 A8 _ c8 A10 _ c10 Jx.all Jx.all ht10 hu10).mono ?_
                  rintro e w11 ⟨rfl, hb11⟩
                  have hde : decide (Jx.all = Jx.all) = true := decide_eq_true rfl
                  rw [hde]
                  have hjd11 := hjd10.below hb11
                  have hl11 := own_below hl10 hb11
                  have hn11 := own_below hn10 hb11
                  have hb11' := hb10'.trans (hb11.mono hs10)
                  have hs11 := hb11'.size
                  clear hde hjd10 hl10 hn10 ht10 hu10 hb11 hb10'
                  go_wp2_with fail
                  refine (all_any wb.heap.size w11 Jx j4 d K4 hjd11.jn hOx).mono ?_
                  rintro e w12 ⟨A12, c12, vs12, E12, rfl, hown12, hev12, _, hb12⟩
                  rw [hal] at hown12 hev12 ⊢
                  have hen := hev12.ents hown12 rfl
                  have hjd12 := hjd11.below hb12
                  have hl12 := own_below hl11 hb12
                  have hn12 := own_below hn11 hb12
                  have hb12' := hb11'.trans (hb12.mono hs11)
                  have hs12 := hb12'.size
                  clear hown12 hev12 hjd11 hl11 hn11 hb12 hb11'
                  go_wp2_with fail
                  refine (texts_any w12 A12 _ c12 vs12 Jx.all E12 hen (by omega)).mono ?_
                  rintro e w13 ⟨A13, c13, rfl, hown13, hb13⟩
                  have hjd13 := hjd12.below hb13
                  have hl13 := own_below hl12 hb13
                  have hn13 := own_below hn12 hb13
                  have ht13 := own_sl hown13
                  have hb13' := hb12'.trans (hb13.mono hs12)
                  have hs13 := hb13'.size
                  clear hown13 hen hjd12 hl12 hn12 hb13 hb12' hord
                  by_cases hw : we = 0
                  · subst hw
                    go_wp2_with fail
                    refine (refSame_any w13 A13 _ c13 A1 _ c1 Jx.all next ht13 (own_sl hn13)).mono ?_
                    rintro e w14 ⟨rfl, hb14⟩
                    have hjd14 := hjd13.below hb14
                    have hl14 := own_below hl13 hb14
                    have hn14 := own_below hn13 hb14
                    have ht14 := ht13.below hb14
                    have hb14' := hb13'.trans (hb14.mono hs13)
                    have hs14 := hb14'.size
                    clear hjd13 hl13 hn13 ht13 hb14 hb13'
                    by_cases hxn : Jx.all = next
                    · have hde : decide (Jx.all = next) = true := decide_eq_true hxn
                      rw [hde]
                      clear hde
                      have hR : ActsAt wb.heap.size n (k + 2) d w14 Dc Jx j4 I3 K4 A1 c1 := ⟨by rw [hxn]; exact hn14, by rw [hxn]; exact hnd4, hIx, hGx, hjd14⟩
                      have hxl : Jx.all.length = next.length := by rw [hxn]
                      have HXL := hid hxl
                      clear hxl hxn hax hn14 hl14 hjd14 ht14
                      go_wp2_with fail
                      go_meet
                      all_goals go_light
                      exact ⟨Dc, Jx, j4, I3, K4, A1, c1, rfl, by rw [HXL.out], hR, hb14'⟩
                    · have hde : decide (Jx.all = next) = false := decide_eq_false hxn
                      rw [hde]
                      have hxo : Jx.all = J.all := hax.resolve_right (fun e => hxn e.2)
                      have HXO := hid hxo
                      clear hde hxn hax hxo
                      go_wp2_with fail
                      refine (refSame_any w14 A13 _ c13 A _ c Jx.all J.all ht14 (own_sl hl14)).mono ?_
                      rintro e w15 ⟨rfl, hb15⟩
                      have hxo := HXO.out
                      have hde : decide (Jx.all = J.all) = true := decide_eq_true hxo
                      rw [hde]
                      have hjd15 := hjd14.below hb15
                      have hl15 := own_below hl14 hb15
                      have hb15' := hb14'.trans (hb15.mono hs14)
                      have hR : ActsAt wb.heap.size n (k + 2) d w15 Dc Jx j4 I3 K4 A c := ⟨by rw [hxo]; exact hl15, by rw [hxo]; exact hld4, hIx, hGx, hjd15⟩
                      have hxl : Jx.all.length = J.all.length := by rw [hxo]
                      have HXL := hid hxl
                      clear hxl hxo hde hb15 hl15 hjd15 ht14 hl14 hjd14 hb14'
                      go_wp2_with fail
                      go_meet
                      all_goals go_light
                      exact ⟨Dc, Jx, j4, I3, K4, A, c, rfl, by rw [HXL.out], hR, hb15'⟩
                  · have hw2 : (we == 0) = false := by simpa using hw
                    have hxo : Jx.all = J.all := hax.resolve_right (fun e => hw (HW0.out.symm.trans e.1))
                    have HXO := hid hxo
                    clear hw hax hxo
                    go_wp2_with fail
                    refine (refSame_any w13 A13 _ c13 A _ c Jx.all J.all ht13 (own_sl hl13)).mono ?_
                    rintro e w15 ⟨rfl, hb15⟩
                    have hxo := HXO.out
                    have hde : decide (Jx.all = J.all) = true := decide_eq_true hxo
                    rw [hde]
                    have hjd15 := hjd13.below hb15
                    have hl15 := own_below hl13 hb15
                    have hb15' := hb13'.trans (hb15.mono hs13)
                    have hR : ActsAt wb.heap.size n (k + 2) d w15 Dc Jx j4 I3 K4 A c := ⟨by rw [hxo]; exact hl15, by rw [hxo]; exact hld4, hIx, hGx, hjd15⟩
                    have hxl : Jx.all.length = J.all.length := by rw [hxo]
                    have HXL := hid hxl
                    clear hxl hxo hde hb15 hl15 hjd15 ht13 hl13 hjd13 hb13'
                    go_wp2_with fail
                    go_meet
                    all_goals go_light
                    exact ⟨Dc, Jx, j4, I3, K4, A, c, rfl, by rw [HXL.out], hR, hb15'⟩
              case rest =>
                as_aux_lemma =>
                obtain ⟨D2, J2, j2, I2, K2, A2, c2, rfl, rfl, ⟨hrw, hdj, hI, hG, hjd2⟩, hb⟩ := hcut
                clear hnx hlx hgc hjd hbl hld hnd hgd HOUT hent HWE2 HW0
                have hO : JOk J2 := hI.frm.ok
                have hal : allJ J2 = J2.all := by unfold allJ; rw [if_neg (by rw [hI.frm.gn]; exact Bool.false_ne_true)]
                have hus := hI.frm.us
                have hro := hI.frm.room
                have hfew2 := hO.few
                have hsz := hI.size
                have hln := hI.fit.len
                have hfr : freeJ D2 J2 = (rm : Int) - (sumT J2.all : Int) := by
                  unfold freeJ
                  rw [if_neg (by rw [hI.frm.gn]; exact Bool.false_ne_true), hsz, HRM.out, hus]
                have hrs : sumT J2.all ≤ rm := by have := HRM.out; omega
                have hsb := hb.size
                go_wp2_with fail
                refine (all_any wb.heap.size _ J2 j2 d K2 hjd2.jn hO).mono ?_
                rintro e w12 ⟨A12, c12, vs12, E12, rfl, hown12, hev12, _, hb12⟩
                rw [hal] at hown12 hev12 ⊢
                have hen := hev12.ents hown12 rfl
                have hjd12 := hjd2.below hb12
                have hl12 := own_below hrw hb12
                have hb12' := hb.trans (hb12.mono hsb)
                have hs12 := hb12'.size
                clear hown12 hev12 hjd2 hrw hb12 hb hal
                go_wp2_with fail
                refine (texts_any w12 A12 _ c12 vs12 J2.all E12 hen (by omega)).mono ?_
                rintro e w13 ⟨A13, c13, rfl, hown13, hb13⟩
                have hjd13 := hjd12.below hb13
                have hl13 := own_below hl12 hb13
                have ht13 := own_sl hown13
                have hb13' := hb12'.trans (hb13.mono hs12)
                have hs13 := hb13'.size
                clear hown13 hen hjd12 hl12 hb13 hb12'
                go_wp2_with fail
                refine (refSame_any w13 A13 _ c13 A2 _ c2 J2.all J2.all ht13 (own_sl hl13)).mono ?_
                rintro e w14 ⟨rfl, hb14⟩
                have hde : decide (J2.all = J2.all) = true := decide_eq_true rfl
                rw [hde]
                have hjd14 := hjd13.below hb14
                have hl14 := own_below hl13 hb14
                have hb14' := hb13'.trans (hb14.mono hs13)
                have hs14 := hb14'.size
                clear hde hjd13 hl13 ht13 hb14 hb13'
                go_wp2_with fail
                refine (free_any wb.heap.size w14 D2 J2 j2 d I2 K2 hjd14 (by omega) (by omega) (by omega)).mono ?_
                rintro e w15 ⟨rfl, hb15⟩
                rw [hfr]
                have hjd15 := hjd14.below hb15
                have hl15 := own_below hl14 hb15
                have hb15' := hb14'.trans (hb15.mono hs14)
                have hs15 := hb15'.size
                clear hjd14 hl14 hb15 hb14' hfr
                go_wp2_with fail
                refine (refSum_any w15 A2 _ c2 J2.all (own_sl hl15) (by omega) (fun y hy => by have := hO.ent y hy; omega)).mono ?_
                rintro e w16 ⟨rfl, hb16⟩
                have hR : ActsAt wb.heap.size n (k + 1 + 1) d w16 D2 J2 j2 I2 K2 A2 c2 := ⟨own_below hl15 hb16, hdj, hI, hG, hjd15.below hb16⟩
                have hb16' := hb15'.trans (hb16.mono hs15)
                clear hjd15 hl15 hb16 hb15' hus hro hsz hln
                generalize sumT J2.all = sm at *
                go_wp2_with fail
                go_light
                exact ⟨⟨k + 1, D2, J2, j2, I2, K2, A2, c2, by omega, by omega, by go_num, rfl, rfl, hR, hb16'⟩, by simp [intOf]; omega⟩
      · obtain rfl : k = 40 := by omega
        go_wp2_with fail
        go_ret
        exact ⟨rfl, hb4.trans (hb.mono hsb)⟩
    · obtain rfl : k = nr := by omega
      go_wp2_with fail
      go_ret
      exact ⟨rfl, hb4.trans (hb.mono hsb)⟩
end Go.Proofs.Ytfhlidlmipleaaa
