/-
  SumsInternet: for every list of bytes the program's Internet sum is the reference's, and with the sum behind an even list the sum is nought. No condition.
-/
import Derived.Test.YtaajhkdifliblaaSums
namespace Go.Proofs.Ytaajhkdifliblaa
set_option linter.unusedVariables false
set_option linter.unusedSimpArgs false
open Go.RowKit SM

theorem bstr {w : World} {A : Option Addr} {n c : Nat} {l : List UInt8} (h : Sl w 1 (.slice A n c) (B8 l)) : (convert 22 9 (.slice A n c)).run Try.prog w = .ok (.string (S8 l)) w :=
  str_of h _ _ 5 Try.underlying22 Try.underlying5 Try.underlying9

set_option maxRecDepth 100000 in
set_option maxHeartbeats 800000 in
theorem sumsInternet_walk (A : Option Addr) (n c : Nat) (l : List UInt8) (w : World) (h : Sl w 1 (.slice A n c) (B8 l)) :
    Calls Try.prog 3 #[.slice A n c] w fun e w' => e = .returned (.bool true) ∧ Below w.heap.size w w' := by
  obtain ⟨hl1, hl2, hl3⟩ := h.len
  obtain ⟨m, hm, hmn, hm3⟩ : ∃ m : Nat, min (n : Int) 300 = m ∧ m ≤ n ∧ m ≤ 300 := ⟨min n 300, by omega, by omega, by omega⟩
  have ht := h.take m hmn
  have hL : (l.take m).length = m := by rw [List.length_take]; omega
  generalize l.take m = t at ht hL
  clear hl1 h
  have HL := hid hL
  clear hL
  go_enter Try.func3, Try.ntmps3
  go_wp2_with (at_builtin; refine wpList_app rfl (.tmp 5) (.tmp 10) st_bytes rfl w.heap.size rfl (own_empty _ _ _ _ _ rfl (Nat.le_refl _)) rfl (ht.below ((Below.refl _ _).alloc (Nat.le_refl _) _)) (B8_one _) (by simp [maxLen]; omega) (by omega) (by simp) ?_)
  intro A1 c1 w1 hown hg _
  have hb1 : Below w.heap.size w w1 := ((Below.refl _ _).alloc (Nat.le_refl _) _).trans (grown_below (own_empty _ _ 5 1 _ rfl (Nat.le_refl _)) hg (by simp))
  clear hg
  have hs1 := bstr (own_sl hown)
  go_wp2_with fail
  refine (internet_any _ _ _ t _ (own_sl hown) (by omega)).mono ?_
  rintro e w' ⟨rfl, rfl⟩
  go_wp2_with fail
  refine (known9_any _).mono ?_
  rintro e w2 ⟨rfl, hb2⟩
  have hown2 := own_below hown hb2
  have hs2 := bstr (own_sl hown2)
  clear hs1
  go_wp2_with fail
  refine (refInternet_any _ _ _ t _ (own_sl hown2)).mono ?_
  rintro e w' ⟨rfl, rfl⟩
  have hbb := hb1.trans (hb2.mono hb1.size)
  by_cases hp : m % 2 = 1
  · have hp1 : ((m : Int) % 2 == 1) = true := by simp; omega
    clear hp
    go_wp2_with fail
    go_ret
    exact ⟨rfl, hbb⟩
  · have hp1 : ((m : Int) % 2 == 1) = false := by simp; omega
    have hz := hid (inet_zero t (by have := HL.out; omega))
    have hi := inet_le t
    have hsl : Sl (w2.alloc (.cells #[.int .u8 ((inet t : Int) / 256), .int .u8 (IntKind.u8.wrap (inet t : Int))] 5)) 1 (.slice (some ⟨w2.heap.size, 0, none⟩) 2 2) (B8 [UInt8.ofNat (inet t / 256), UInt8.ofNat (inet t % 256)]) := by
      refine sl_new _ _ _ _ _ _ rfl ?_ rfl (by simp)
      simp [B8, UInt8.toNat_ofNat', IntKind.wrap_u8]
      omega
    clear hp
    go_wp2_with (at_builtin; refine wpList_app rfl (.tmp 34) (.tmp 40) st_bytes rfl w.heap.size rfl (hown2.alloc _) rfl hsl (B8_one _) (by simp [maxLen]; omega) (by omega) (by simp; have := hbb.size; omega) ?_)
    intro A3 c3 w3 hown3 hg3 _
    rw [← B8_append] at hown3
    have hb3 : Below w.heap.size w w3 := (hbb.alloc hbb.size _).trans (grown_below (hown2.alloc _) hg3 (by simp; have := hbb.size; omega))
    clear hg3 hsl
    go_wp2_with fail
    refine (internet_any _ _ _ _ _ (own_sl hown3) (by omega)).mono ?_
    rintro e w' ⟨rfl, rfl⟩
    rw [hz.out]
    go_wp2_with fail
    go_ret
    exact ⟨rfl, hb3⟩
end Go.Proofs.Ytaajhkdifliblaa
