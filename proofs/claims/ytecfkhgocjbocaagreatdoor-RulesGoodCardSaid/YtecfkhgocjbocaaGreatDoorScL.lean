/-
  What the library's functions tell of texts, in the plain law's words.
-/
import Derived.Test.YtecfkhgocjbocaaGreatDoorScM
import Derived.Lib.Split
import Derived.Lib.SlTrimSet
import Derived.Lib.AtoiAllCases
import Derived.Lib.ItoaNum
import Derived.Lib.Join
namespace Go.Proofs.YtecfkhgocjbocaaGreatDoor.SC
set_option linter.unusedVariables false
set_option linter.unusedSimpArgs false
open Go

theorem idx1 (c : UInt8) (l : List UInt8) : (Lib.index l [c] = -1 ∧ ∀ x ∈ l, x ≠ c) ∨ ∃ a r, l = a ++ c :: r ∧ (∀ x ∈ a, x ≠ c) ∧ Lib.index l [c] = (a.length : Int) := by
  induction l with
  | nil => left; exact ⟨rfl, fun x hx => by simp at hx⟩
  | cons b t ih =>
    by_cases hb : b = c
    · subst hb
      right
      exact ⟨[], t, rfl, fun x hx => by simp at hx, by unfold Lib.index; simp⟩
    · have hp : [c].isPrefixOf (b :: t) = false := by simp [List.isPrefixOf]; exact fun h => hb h.symm
      rcases ih with ⟨h1, h2⟩ | ⟨a, r, h1, h2, h3⟩
      · left
        refine ⟨by unfold Lib.index; rw [hp, h1]; rfl, fun x hx => ?_⟩
        rcases List.mem_cons.1 hx with hx | hx
        · rw [hx]; exact hb
        · exact h2 x hx
      · right
        refine ⟨b :: a, r, by rw [h1]; rfl, fun x hx => ?_, ?_⟩
        · rcases List.mem_cons.1 hx with hx | hx
          · rw [hx]; exact hb
          · exact h2 x hx
        · unfold Lib.index
          rw [hp, h3]
          have h4 : ((a.length : Int) == -1) = false := by rw [beq_eq_false_iff_ne]; omega
          rw [h4]
          simp
theorem split_gen (c : UInt8) (fuel : Nat) : ∀ l : List UInt8, l.length < fuel → Lib.splitK [c] 0 (Lib.countFrom [c] fuel l) l = cut c l := by
  induction fuel with
  | zero => intro l h; omega
  | succ fuel ih =>
    intro l h
    rcases idx1 c l with ⟨h1, h2⟩ | ⟨a, r, h1, h2, h3⟩
    · unfold Lib.countFrom
      rw [h1]
      simp only [beq_self_eq_true, if_true]
      unfold Lib.splitK
      exact (cut_not c l h2).symm
    · have h4 : ((a.length : Int) == -1) = false := by rw [beq_eq_false_iff_ne]; omega
      have hd : l.drop (a.length + 1) = r := by rw [h1, ← List.drop_drop]; simp
      have ht : l.take a.length = a := by rw [h1]; simp
      unfold Lib.countFrom
      rw [h3, h4]
      simp only [Bool.false_eq_true, if_false, Int.toNat_natCast, List.length_cons, List.length_nil, Nat.zero_add, hd]
      rw [Nat.add_comm 1]
      unfold Lib.splitK
      rw [h3, h4]
      simp only [Bool.false_eq_true, if_false, Int.toNat_natCast, List.length_cons, List.length_nil, Nat.zero_add, Nat.add_zero, hd, ht]
      rw [ih r (by rw [h1] at h; simp at h; omega), h1, cut_app c a r h2]
theorem split_cut (c : UInt8) (s : ByteArray) : (Lib.splitB ⟨#[c]⟩ 0 (Lib.countB s ⟨#[c]⟩) s).map (·.data.toList) = cut c s.data.toList := by
  rw [Lib.splitB_data]
  exact split_gen c _ _ (Nat.lt_succ_self _)
theorem net_cut (l : List UInt8) : net l = match addr (Lib.cut l [47]).1, len32 (Lib.cut l [47]).2.1 with
    | some a, some n => some (a, n)
    | _, _ => none := by
  rcases idx1 47 l with ⟨h1, h2⟩ | ⟨a, r, h1, h2, h3⟩
  · unfold Lib.cut net
    rw [h1, cut_not 47 l h2]
    rw [if_neg (by omega)]
    unfold len32
    rw [dec_empty]
    cases addr l <;> rfl
  · have hd : l.drop (a.length + 1) = r := by rw [h1, ← List.drop_drop]; simp
    have ht : l.take a.length = a := by rw [h1]; simp
    unfold Lib.cut
    rw [h3]
    rw [if_pos (by omega)]
    simp only [Int.toNat_natCast, List.length_cons, List.length_nil, Nat.zero_add, hd, ht]
    unfold net
    rw [h1, cut_app 47 a r h2]
    rcases idx1 47 r with ⟨q1, q2⟩ | ⟨a', r', q1, q2, q3⟩
    · rw [cut_not 47 r q2]
      simp only
      cases addr a with
      | none => rfl
      | some x => cases len32 r <;> rfl
    · rw [q1, cut_app 47 a' r' q2]
      have hl : len32 (a' ++ 47 :: r') = none := by
        unfold len32 dec
        have : decOk (a' ++ 47 :: r') = false := by
          unfold decOk
          rw [List.all_append, List.all_cons]
          have : isDig 47 = false := by decide
          rw [this]
          simp
        rw [this]
        simp
      rw [hl]
      cases hq : cut 47 r' with
      | nil => exact absurd hq (cut_ne 47 r')
      | cons x y => cases addr a <;> rfl
theorem digset_all : ∀ n < 256, [48, 49, 50, 51, 52, 53, 54, 55, 56, 57].contains (UInt8.ofNat n) = isDig (UInt8.ofNat n) := by decide +kernel
theorem digset (c : UInt8) : [48, 49, 50, 51, 52, 53, 54, 55, 56, 57].contains c = isDig c := by
  have := digset_all c.toNat c.toNat_lt
  rwa [UInt8.ofNat_toNat] at this
theorem dropWhile_nil {α : Type} (p : α → Bool) (l : List α) : l.dropWhile p = [] ↔ l.all p = true := by
  induction l with
  | nil => simp
  | cons x t ih =>
    rw [List.dropWhile_cons, List.all_cons]
    cases hp : p x with
    | true => simpa using ih
    | false => simp
theorem trim_nil (l : List UInt8) : (Lib.trimS l [48, 49, 50, 51, 52, 53, 54, 55, 56, 57] = []) ↔ l.all isDig = true := by
  have hf : (fun x : UInt8 => [48, 49, 50, 51, 52, 53, 54, 55, 56, 57].contains x) = isDig := funext digset
  unfold Lib.trimS Lib.trimLeftS Lib.trimRightS
  rw [hf, dropWhile_nil, List.all_reverse]
  constructor
  · intro h
    cases hq : l.reverse.dropWhile isDig with
    | nil => rw [dropWhile_nil, List.all_reverse] at hq; exact hq
    | cons x t =>
      rw [hq, List.all_cons] at h
      simp only [Bool.and_eq_true] at h
      have hx : isDig x = false := by
        have h5 := List.head?_dropWhile_not isDig l.reverse
        rw [hq] at h5
        simpa using h5
      rw [h.1] at hx
      cases hx
  · intro h
    have : l.reverse.dropWhile isDig = [] := by rw [dropWhile_nil, List.all_reverse]; exact h
    rw [this]
    rfl
theorem ten_pos (k : Nat) : 1 ≤ 10 ^ k := Nat.pos_of_ne_zero (by simp)
theorem parse_digs (l : List UInt8) : ∀ acc, l.all isDig = true → (acc + 1) * 10 ^ l.length ≤ 1000000000 → Lib.parseUint10 acc l = .ok (numF acc l) := by
  induction l with
  | nil => intro acc _ _; rfl
  | cons c r ih =>
    intro acc h hb
    rw [List.all_cons, Bool.and_eq_true] at h
    have hc := h.1
    unfold isDig at hc
    simp only [decide_eq_true_eq] at hc
    rw [List.length_cons, Nat.pow_succ] at hb
    have hp : 1 ≤ 10 ^ r.length := ten_pos r.length
    have h1 : (acc * 10 + (c.toNat - 48) + 1) * 10 ^ r.length ≤ (acc + 1) * (10 ^ r.length * 10) := by
      have h3 : acc * 10 + (c.toNat - 48) + 1 ≤ (acc + 1) * 10 := by omega
      calc (acc * 10 + (c.toNat - 48) + 1) * 10 ^ r.length ≤ ((acc + 1) * 10) * 10 ^ r.length := Nat.mul_le_mul_right _ h3
        _ = (acc + 1) * (10 ^ r.length * 10) := by rw [Nat.mul_assoc, Nat.mul_comm 10]
    have h2 : acc * 10 + (c.toNat - 48) + 1 ≤ 1000000000 := by
      have : (acc * 10 + (c.toNat - 48) + 1) * 1 ≤ (acc * 10 + (c.toNat - 48) + 1) * 10 ^ r.length := Nat.mul_le_mul_left _ hp
      omega
    unfold Lib.parseUint10
    rw [if_pos hc, if_neg (by omega), if_neg (by omega), ih _ h.2 (by omega)]
    rfl
theorem atoi_dec (l : List UInt8) (h : decOk l = true) : Lib.atoiAll l = .ok (num l : Int) := by
  unfold decOk at h
  simp only [Bool.and_eq_true, decide_eq_true_eq] at h
  obtain ⟨⟨⟨h1, h2⟩, _⟩, h3⟩ := h
  cases l with
  | nil => simp at h1
  | cons c r =>
    have hc : isDig c = true := by rw [List.all_cons, Bool.and_eq_true] at h3; exact h3.1
    unfold isDig at hc
    simp only [decide_eq_true_eq] at hc
    rw [Lib.atoiAll_plain c r (by omega) (by omega)]
    have hp : (10 : Nat) ^ (c :: r).length ≤ 10 ^ 9 := Nat.pow_le_pow_right (by omega) h2
    have h10 : (10 : Nat) ^ 9 = 1000000000 := by decide
    have hq := parse_digs (c :: r) 0 h3 (by omega)
    have hlt := numF_lt 0 (c :: r) h3
    have hm : Lib.parseMag (c :: r) = .ok (numF 0 (c :: r)) := by unfold Lib.parseMag; rw [if_neg (by simp)]; exact hq
    rw [hm]
    unfold Lib.signless
    simp only
    rw [if_neg (by omega)]
    rfl
theorem decDigits_digs (n : Nat) : Lib.decDigits n = digs n := by
  induction n using Nat.strongRecOn with
  | _ n ih =>
    unfold Lib.decDigits digs
    split
    · rfl
    · rw [ih (n / 10) (by omega)]; rfl
theorem itoa_digs (n : Nat) : Lib.itoa (n : Int) = digs n := by
  unfold Lib.itoa
  rw [if_neg (by omega), Int.toNat_natCast, decDigits_digs]
theorem join_dotted (n : Nat) : Lib.join [digs (n / 16777216), digs (n / 65536 % 256), digs (n / 256 % 256), digs (n % 256)] [46] = dotted n := by
  unfold Lib.join dotted
  simp [List.intercalate, List.intersperse]
end Go.Proofs.YtecfkhgocjbocaaGreatDoor.SC
