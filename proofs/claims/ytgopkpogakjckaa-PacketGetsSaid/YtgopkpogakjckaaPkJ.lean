/-
  Plain words of layer 11: what the reference makes of short bodies and odd types.
-/
import Derived.Test.YtgopkpogakjckaaPkP
namespace Go.Proofs.Ytgopkpogakjckaa.PK
set_option linter.unusedVariables false
set_option linter.unusedSimpArgs false
open Go.RowKit SM LM

theorem bodyB_len1 (P : Pkt) (h : P.ty = 1) : 20 ≤ (bodyB P).length := by
  unfold bodyB mainB
  rw [if_pos h, List.length_append, greetB_length]
  omega
theorem bodyB_len2 (P : Pkt) (h : P.ty = 2) : 8 ≤ (bodyB P).length := by
  unfold bodyB mainB
  rw [if_neg (by omega), if_pos h, List.length_append, List.length_append, be_length]
  simp only [List.length_cons, List.length_nil]
  omega
theorem tells_ty (y : List UInt8) (P : Pkt) : (tellsP y P).ty = P.ty := by
  unfold tellsP helloP dataP
  split
  · rfl
  · split
    · rfl
    · split
      · rfl
      · split
        · rfl
        · split <;> rfl
theorem whole_ty (l : List UInt8) (s : ByteArray) : (wholeP l s).ty = (byt l 1 : Nat) := tells_ty _ _
theorem short_getPE (l : List UInt8) (s : ByteArray) (k : Nat) (hf : framedE l s = 0) (ht : tellsE (l.drop 24) (frontP l s) = 0) (h : l.length < 24 + k) (hb : k ≤ (bodyB (wholeP l s)).length) : getPE l s = 3 := by
  unfold getPE
  rw [if_neg (by omega), if_neg (by omega), if_neg]
  rintro ⟨_, h2⟩
  have := putP_length (wholeP l s)
  rw [h2] at this
  omega
theorem tellsE_ne4 (y : List UInt8) (P : Pkt) (h : P.ty ≠ 4) : tellsE y P = 0 := by unfold tellsE; rw [if_neg h]
theorem short1_getPE (l : List UInt8) (s : ByteArray) (hf : framedE l s = 0) (ht : byt l 1 = 1) (h : l.length < 44) : getPE l s = 3 := by
  refine short_getPE l s 20 hf (tellsE_ne4 _ _ ?_) (by omega) (bodyB_len1 _ ?_)
  · show ((byt l 1 : Nat) : Int) ≠ 4
    omega
  · rw [whole_ty, ht]; rfl
theorem short2_getPE (l : List UInt8) (s : ByteArray) (hf : framedE l s = 0) (ht : byt l 1 = 2) (h : l.length < 32) : getPE l s = 3 := by
  refine short_getPE l s 8 hf (tellsE_ne4 _ _ ?_) (by omega) (bodyB_len2 _ ?_)
  · show ((byt l 1 : Nat) : Int) ≠ 4
    omega
  · rw [whole_ty, ht]; rfl
theorem rightR_odd (P : Pkt) (h : P.ty < 1 ∨ 5 < P.ty) : rightR P = false := by
  unfold rightR rightP
  have : decide (1 ≤ P.ty ∧ P.ty ≤ 5) = false := by simp; omega
  rw [this]
  simp
theorem odd_getPE (l : List UInt8) (s : ByteArray) (hf : framedE l s = 0) (ht : byt l 1 < 1 ∨ 5 < byt l 1) : getPE l s = 3 := by
  unfold getPE
  rw [if_neg (by omega), if_neg (by rw [tellsE_ne4 _ _ (by show ((byt l 1 : Nat) : Int) ≠ 4; omega)]; simp), if_neg]
  rintro ⟨h1, _⟩
  rw [rightR_odd _ (by rw [whole_ty]; omega)] at h1
  exact absurd h1 (by simp)
theorem getPE_framed (l : List UInt8) (s : ByteArray) (hf : framedE l s ≠ 0) : getPE l s = framedE l s := by
  unfold getPE; rw [if_pos hf]
theorem getPE_tells (l : List UInt8) (s : ByteArray) (hf : framedE l s = 0) (ht : tellsE (l.drop 24) (frontP l s) ≠ 0) : getPE l s = tellsE (l.drop 24) (frontP l s) := by
  unfold getPE; rw [if_neg (by omega), if_pos ht]
theorem getPE_put (l : List UInt8) (s : ByteArray) (hf : framedE l s = 0) (ht : tellsE (l.drop 24) (frontP l s) = 0) : getPE l s = if rightR (wholeP l s) = true ∧ putP (wholeP l s) = l then 0 else 3 := by
  unfold getPE; rw [if_neg (by omega), if_neg (by omega)]
theorem getP_zero (l : List UInt8) (s : ByteArray) (h : getPE l s ≠ 0) : getP l s = zeroP := by unfold getP; rw [if_neg h]
theorem getP_whole (l : List UInt8) (s : ByteArray) (h : getPE l s = 0) : getP l s = wholeP l s := by unfold getP; rw [if_pos h]
end Go.Proofs.Ytgopkpogakjckaa.PK
