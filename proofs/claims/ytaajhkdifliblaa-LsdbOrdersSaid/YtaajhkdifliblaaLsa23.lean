/-
  Plain laws for LsaAges: an Lsa with another age.
-/
import Derived.Test.YtaajhkdifliblaaLsa22
namespace Go.Proofs.Ytaajhkdifliblaa
set_option linter.unusedVariables false
set_option linter.unusedSimpArgs false
open Go Go.RowKit SM LM

def aged (L : Lsa) (k : Int) : Lsa := { L with age := k }
theorem aged_right (L : Lsa) (k : Int) (h : L.right = true) (hk : 0 ≤ k ∧ k ≤ 3600) : (aged L k).right = true := by
  unfold Lsa.right at h ⊢
  simp only [aged]
  rw [Bool.and_eq_true, Bool.and_eq_true] at h ⊢
  exact ⟨⟨decide_eq_true hk, h.1.2⟩, h.2⟩
theorem aged_wf {L : Lsa} (h : WfL L) (k : Int) : WfL (aged L k) := ⟨h.links, h.routers, h.mask, h.kid, h.kadv⟩
theorem aged_is {w : World} {L : Lsa} {A1 : Option Addr} {n1 c1 : Nat} {A2 : Option Addr} {n2 c2 : Nat} (h : IsLsa w L A1 n1 c1 A2 n2 c2) (k : Int) : IsLsa w (aged L k) A1 n1 c1 A2 n2 c2 := ⟨h.links, h.routers⟩
theorem aged_raw (L : Lsa) (k : Int) : (rawB (aged L k)).drop 2 = (rawB L).drop 2 := by
  show (hdrB k L.kty L.kid L.kadv L.seq 0 (20 + (tellB L).length : Nat) ++ tellB L).drop 2 = (hdrB L.age L.kty L.kid L.kadv L.seq 0 (20 + (tellB L).length : Nat) ++ tellB L).drop 2
  simp [hdrB, be]
theorem aged_put (L : Lsa) (k : Int) : (putB (aged L k)).drop 2 = (putB L).drop 2 := by
  unfold putB
  rw [List.drop_set, List.drop_set, List.drop_set, List.drop_set, aged_raw]
theorem aged_put2 (L : Lsa) (k m : Int) : (putB (aged L k)).drop 2 = (putB (aged L m)).drop 2 := (aged_put L k).trans (aged_put L m).symm
theorem aged_len (L : Lsa) (k : Int) : (putB (aged L k)).length = (putB L).length := by
  unfold putB
  simp only [List.length_set, rawB_length]
  rfl
theorem aged_byt (L : Lsa) (k : Int) (j : Nat) : byt (putB (aged L k)) (j + 2) = byt (putB L) (j + 2) := by
  have h := congrArg (fun l => l.getD j 0) (aged_put L k)
  simp only [List.getD_eq_getElem?_getD, List.getElem?_drop] at h
  unfold byt
  rw [List.getD_eq_getElem?_getD, List.getD_eq_getElem?_getD, Nat.add_comm j 2, h]
theorem aged_tells (L : Lsa) (k m : Int) : tells (aged L k) (aged L m) := by
  unfold tells aged
  simp
theorem aged_sum (L : Lsa) (k m : Int) : fld (putB (aged L k)) 16 2 = fld (putB (aged L m)) 16 2 := fld_congr _ _ 16 2 fun j h1 h2 => by
  obtain ⟨i, rfl⟩ : ∃ i, j = i + 2 := ⟨j - 2, by omega⟩
  rw [aged_byt, aged_byt]
theorem put_age (L : Lsa) (hw : WfL L) (hr : L.right = true) : ((fld (putB L) 0 2 : Nat) : Int) = L.age := congrArg Lsa.age (putB_head L hw hr)
theorem put_seq (L : Lsa) (hw : WfL L) (hr : L.right = true) : sq (putB L) = L.seq := congrArg Lsa.seq (putB_head L hw hr)
theorem cmpZ_self (x : Int) : cmpZ x x = 0 := by unfold cmpZ; rw [if_neg (by omega), if_neg (by omega)]
theorem u64_small (x : Int) (h : 0 ≤ x ∧ x ≤ 3600) : IntKind.u64.wrap x = x := by
  rw [IntKind.wrap_u64]; omega
theorem cmpH_same (k m s c : Int) (hk : 0 ≤ k ∧ k ≤ 3600) (hm : 0 ≤ m ∧ m ≤ 3600) : cmpH k s c m s c = 1 ↔ (k = 3600 ∧ m ≠ 3600 ∨ m ≠ 3600 ∧ m - k > 900) := by
  unfold cmpH
  rw [cmpZ_self, cmpZ_self, if_pos rfl, if_neg (by simp), u64_small (max k m) (by omega), u64_small (min k m) (by omega), u64_small (max k m - min k m) (by omega)]
  by_cases h0 : k = 3600
  · by_cases h1 : m = 3600
    · simp [h0, h1]
    · simp [h0, h1]
  · by_cases h1 : m = 3600
    · simp [h0, h1]
    · simp only [h0, h1, decide_false, ne_eq, not_true_eq_false, if_false, false_and, false_or, not_false_eq_true, true_and]
      by_cases h2 : k < m
      · by_cases h3 : 900 < max k m - min k m
        · simp [h2, h3]; omega
        · simp [h2, h3]; omega
      · by_cases h3 : 900 < max k m - min k m
        · simp [h2, h3]; omega
        · simp [h2, h3]; omega
end Go.Proofs.Ytaajhkdifliblaa
