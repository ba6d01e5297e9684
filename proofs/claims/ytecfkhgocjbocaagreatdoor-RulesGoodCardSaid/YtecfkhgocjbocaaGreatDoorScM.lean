/-
  The plain law of package schema: numbers, addresses, nets in texts.
-/
namespace Go.Proofs.YtecfkhgocjbocaaGreatDoor.SC
set_option linter.unusedVariables false
set_option linter.unusedSimpArgs false

def isDig (c : UInt8) : Bool := decide (48 ≤ c.toNat ∧ c.toNat ≤ 57)
/-- what digits come to, behind a number that is there -/
def numF (n : Nat) (l : List UInt8) : Nat := l.foldl (fun n c => n * 10 + (c.toNat - 48)) n
def num (l : List UInt8) : Nat := numF 0 l
def decOk (l : List UInt8) : Bool := decide (1 ≤ l.length ∧ l.length ≤ 9) && !(decide (1 < l.length) && (l.getD 0 0 == 48)) && l.all isDig
def dec (l : List UInt8) : Option Nat := if decOk l = true then some (num l) else none
/-- the parts of a text at a sign -/
def cut (c : UInt8) : List UInt8 → List (List UInt8)
  | [] => [[]]
  | x :: t => if x = c then [] :: cut c t else
    match cut c t with
    | [] => [[x]]
    | h :: r => (x :: h) :: r
theorem cut_ne (c : UInt8) (l : List UInt8) : cut c l ≠ [] := by
  cases l with
  | nil => simp [cut]
  | cons x t =>
    unfold cut
    split
    · simp
    · split <;> simp
theorem numF_lt (n : Nat) (l : List UInt8) (h : l.all isDig = true) : numF n l < (n + 1) * 10 ^ l.length := by
  induction l generalizing n with
  | nil => simp [numF]
  | cons x t ih =>
    simp only [List.all_cons, Bool.and_eq_true] at h
    have hx := h.1
    unfold isDig at hx
    simp only [decide_eq_true_eq] at hx
    have h1 := ih (n * 10 + (x.toNat - 48)) h.2
    have h2 : numF n (x :: t) = numF (n * 10 + (x.toNat - 48)) t := rfl
    rw [h2, List.length_cons, Nat.pow_succ]
    refine Nat.lt_of_lt_of_le h1 ?_
    have h3 : n * 10 + (x.toNat - 48) + 1 ≤ (n + 1) * 10 := by omega
    calc (n * 10 + (x.toNat - 48) + 1) * 10 ^ t.length ≤ ((n + 1) * 10) * 10 ^ t.length := Nat.mul_le_mul_right _ h3
      _ = (n + 1) * (10 ^ t.length * 10) := by rw [Nat.mul_assoc, Nat.mul_comm 10]
theorem dec_lt {l : List UInt8} {n : Nat} (h : dec l = some n) : n < 1000000000 := by
  unfold dec at h
  split at h
  · rename_i hd
    injection h with h
    unfold decOk at hd
    simp only [Bool.and_eq_true, decide_eq_true_eq] at hd
    have h1 := numF_lt 0 l hd.2
    have h2 : (10 : Nat) ^ l.length ≤ 10 ^ 9 := Nat.pow_le_pow_right (by omega) hd.1.1.2
    have h3 : num l = numF 0 l := rfl
    simp only [Nat.zero_add, Nat.one_mul] at h1
    have : (10 : Nat) ^ 9 = 1000000000 := by decide
    omega
  · cases h
def part (l : List UInt8) : Option Nat := match dec l with
  | some n => if n ≤ 255 then some n else none
  | none => none
def addr (l : List UInt8) : Option Nat := match cut 46 l with
  | [a, b, c, d] => match part a, part b, part c, part d with
    | some a, some b, some c, some d => some (((a * 256 + b) * 256 + c) * 256 + d)
    | _, _, _, _ => none
  | _ => none
def len32 (l : List UInt8) : Option Nat := match dec l with
  | some n => if 1 ≤ n ∧ n ≤ 32 then some n else none
  | none => none
def net (l : List UInt8) : Option (Nat × Nat) := match cut 47 l with
  | [a, b] => match addr a, len32 b with
    | some a, some b => some (a, b)
    | _, _ => none
  | _ => none
theorem part_lt {l : List UInt8} {n : Nat} (h : part l = some n) : n ≤ 255 := by
  unfold part at h
  split at h
  · split at h
    · injection h; omega
    · cases h
  · cases h
theorem addr_lt {l : List UInt8} {n : Nat} (h : addr l = some n) : n < 4294967296 := by
  unfold addr at h
  split at h
  · split at h
    · rename_i a b c d h1 h2 h3 h4
      injection h with h
      have := part_lt h1
      have := part_lt h2
      have := part_lt h3
      have := part_lt h4
      omega
    · cases h
  · cases h
/-! ### digits of a number -/
def dg (k : Nat) : UInt8 := UInt8.ofNat (48 + k)
def digs (n : Nat) : List UInt8 := if n < 10 then [dg n] else digs (n / 10) ++ [dg (n % 10)]
def dotted (n : Nat) : List UInt8 := digs (n / 16777216) ++ 46 :: (digs (n / 65536 % 256) ++ 46 :: (digs (n / 256 % 256) ++ 46 :: digs (n % 256)))
theorem dig_toNat (k : Nat) (h : k < 10) : (dg k).toNat = 48 + k := by
  unfold dg
  rw [UInt8.toNat_ofNat']; omega
theorem isDig_of (k : Nat) (h : k < 10) : isDig (dg k) = true := by
  unfold isDig; rw [dig_toNat k h]; simp; omega
theorem digs_all (n : Nat) : (digs n).all isDig = true := by
  induction n using Nat.strongRecOn with
  | _ n ih =>
    unfold digs
    split
    · simp [isDig_of n (by omega)]
    · rw [List.all_append, ih (n / 10) (by omega)]
      simp [isDig_of (n % 10) (by omega)]
theorem numF_append (n : Nat) (l r : List UInt8) : numF n (l ++ r) = numF (numF n l) r := by unfold numF; rw [List.foldl_append]
theorem num_digs (n : Nat) : num (digs n) = n := by
  induction n using Nat.strongRecOn with
  | _ n ih =>
    unfold digs
    split
    · rename_i h
      simp [num, numF, dig_toNat n h]
    · rename_i h
      unfold num
      rw [numF_append]
      have h1 : numF 0 (digs (n / 10)) = n / 10 := ih (n / 10) (by omega)
      rw [h1]
      simp only [numF, List.foldl_cons, List.foldl_nil, dig_toNat (n % 10) (by omega)]
      omega
theorem digs_ne (n : Nat) : digs n ≠ [] := by
  unfold digs
  split <;> simp
theorem digs_len (n k : Nat) (h : n < 10 ^ (k + 1)) : (digs n).length ≤ k + 1 := by
  induction k generalizing n with
  | zero => unfold digs; rw [if_pos (by omega)]; simp
  | succ k ih =>
    unfold digs
    split
    · simp
    · rw [List.length_append]
      have := ih (n / 10) (by rw [Nat.pow_succ] at h; omega)
      simp only [List.length_cons, List.length_nil]
      omega
theorem digs_head (n : Nat) (h : 0 < n) : (digs n).getD 0 0 ≠ 48 := by
  induction n using Nat.strongRecOn with
  | _ n ih =>
    unfold digs
    split
    · rename_i h1
      intro hh
      simp only [List.getD_cons_zero] at hh
      have := congrArg UInt8.toNat hh
      rw [dig_toNat n h1] at this
      simp at this
      omega
    · rename_i h1
      have h2 := ih (n / 10) (by omega) (by omega)
      cases hd : digs (n / 10) with
      | nil => exact absurd hd (digs_ne _)
      | cons x t => rw [hd] at h2; simpa using h2
theorem dec_digs (n : Nat) (h : n < 1000000000) : dec (digs n) = some n := by
  have h1 := digs_all n
  have h2 := digs_len n 8 (by simpa using h)
  have h3 : 1 ≤ (digs n).length := by
    cases hd : digs n with
    | nil => exact absurd hd (digs_ne n)
    | cons x t => simp
  have hk : decOk (digs n) = true := by
    unfold decOk
    rw [h1]
    simp only [Bool.and_true, Bool.and_eq_true, decide_eq_true_eq, Bool.not_eq_true', Bool.and_eq_false_iff, decide_eq_false_iff_not]
    refine ⟨⟨h3, by omega⟩, ?_⟩
    rcases Nat.eq_zero_or_pos n with h0 | h0
    · left; subst h0; unfold digs; simp
    · right; simpa using digs_head n h0
  unfold dec
  rw [if_pos hk, num_digs]
/-! ### cutting -/
theorem cut_not (c : UInt8) (l : List UInt8) (h : ∀ x ∈ l, x ≠ c) : cut c l = [l] := by
  induction l with
  | nil => rfl
  | cons x t ih =>
    unfold cut
    rw [if_neg (h x (by simp)), ih (fun y hy => h y (by simp [hy]))]
theorem cut_app (c : UInt8) (l r : List UInt8) (h : ∀ x ∈ l, x ≠ c) : cut c (l ++ c :: r) = l :: cut c r := by
  induction l with
  | nil => simp [cut]
  | cons x t ih =>
    rw [List.cons_append, cut, if_neg (h x (by simp)), ih (fun y hy => h y (by simp [hy]))]
theorem dig_ne (l : List UInt8) (h : l.all isDig = true) (c : UInt8) (hc : isDig c = false) : ∀ x ∈ l, x ≠ c := by
  intro x hx he
  subst he
  rw [List.all_eq_true] at h
  rw [h x hx] at hc
  cases hc
theorem part_digs (n : Nat) (h : n < 256) : part (digs n) = some n := by
  unfold part
  rw [dec_digs n (by omega)]
  simp only
  rw [if_pos (by omega)]
theorem cut_dotted (n : Nat) : cut 46 (dotted n) = [digs (n / 16777216), digs (n / 65536 % 256), digs (n / 256 % 256), digs (n % 256)] := by
  have hd := fun k => dig_ne (digs k) (digs_all k) 46 (by decide)
  unfold dotted
  rw [cut_app 46 _ _ (hd _), cut_app 46 _ _ (hd _), cut_app 46 _ _ (hd _), cut_not 46 _ (hd _)]
theorem addr_dotted (n : Nat) (h : n < 4294967296) : addr (dotted n) = some n := by
  unfold addr
  rw [cut_dotted]
  simp only [part_digs (n / 16777216) (by omega), part_digs (n / 65536 % 256) (by omega), part_digs (n / 256 % 256) (by omega), part_digs (n % 256) (by omega)]
  congr 1
  omega
theorem dotted_no (n : Nat) : ∀ x ∈ dotted n, x ≠ 47 := by
  have hd := fun k => dig_ne (digs k) (digs_all k) 47 (by decide)
  intro x hx
  simp only [dotted, List.mem_append, List.mem_cons] at hx
  rcases hx with hx | hx | hx | hx | hx | hx | hx
  · exact hd _ x hx
  · subst hx; decide
  · exact hd _ x hx
  · subst hx; decide
  · exact hd _ x hx
  · subst hx; decide
  · exact hd _ x hx
theorem net_dotted (n l : Nat) (h : n < 4294967296) (hl : 1 ≤ l ∧ l ≤ 32) : net (dotted n ++ 47 :: digs l) = some (n, l) := by
  unfold net
  rw [cut_app 47 _ _ (dotted_no n), cut_not 47 _ (dig_ne _ (digs_all l) 47 (by decide))]
  simp only [addr_dotted n h]
  unfold len32
  rw [dec_digs l (by omega)]
  simp only
  rw [if_pos hl]
theorem dec_empty : dec [] = none := by decide
theorem net_slash (n : Nat) (h : n < 4294967296) : net (dotted n ++ [47]) = none := by
  unfold net
  rw [cut_app 47 _ _ (dotted_no n), show cut 47 [] = [[]] from rfl]
  simp only [addr_dotted n h]
  unfold len32
  rw [dec_empty]
theorem cut_snoc (c : UInt8) (l : List UInt8) : cut c (l ++ [c]) = cut c l ++ [[]] := by
  induction l with
  | nil => simp [cut]
  | cons x t ih =>
    rw [List.cons_append]
    unfold cut
    split
    · rw [ih]; simp
    · rw [ih]
      cases hq : cut c t with
      | nil => exact absurd hq (cut_ne c t)
      | cons h r => simp
theorem cut_snoc_ne (c x : UInt8) (l : List UInt8) (hx : x ≠ c) : ∃ d h, cut c l = d ++ [h] ∧ cut c (l ++ [x]) = d ++ [h ++ [x]] := by
  induction l with
  | nil => exact ⟨[], [], by simp [cut], by simp [cut, hx]⟩
  | cons y t ih =>
    obtain ⟨d, h, h1, h2⟩ := ih
    rw [List.cons_append]
    unfold cut
    split
    · exact ⟨[] :: d, h, by rw [h1]; rfl, by rw [h2]; rfl⟩
    · rw [h1, h2]
      cases d with
      | nil => exact ⟨[], y :: h, rfl, rfl⟩
      | cons q r => exact ⟨(y :: q) :: r, h, rfl, rfl⟩
/-- how many parts -/
theorem cut_len (c : UInt8) (l : List UInt8) : (cut c l).length ≤ l.length + 1 := by
  induction l with
  | nil => simp [cut]
  | cons y t ih =>
    unfold cut
    split
    · simp; omega
    · split
      · simp
      · rename_i h r hq
        rw [hq] at ih
        simp at ih ⊢
        omega
theorem cut_part (c : UInt8) (l : List UInt8) : ∀ p ∈ cut c l, p.length ≤ l.length := by
  induction l with
  | nil => simp [cut]
  | cons y t ih =>
    unfold cut
    split
    · intro p hp
      rcases List.mem_cons.1 hp with hp | hp
      · subst hp; simp
      · have := ih p hp; simp; omega
    · split
      · intro p hp; simp at hp; subst hp; simp
      · rename_i h r hq
        rw [hq] at ih
        intro p hp
        rcases List.mem_cons.1 hp with hp | hp
        · subst hp; have := ih h (by simp); simp; omega
        · have := ih p (by simp [hp]); simp; omega
theorem addr_dot (n : Nat) : addr (dotted n ++ [46]) = none := by
  unfold addr
  rw [cut_snoc, cut_dotted]
  rfl
theorem dec_zero (l : List UInt8) (h : l ≠ []) : dec (48 :: l) = none := by
  unfold dec
  have : decOk (48 :: l) = false := by
    cases l with
    | nil => exact absurd rfl h
    | cons x t => simp [decOk]
  rw [this]
  simp
theorem dec_sign (l : List UInt8) : dec (43 :: l) = none := by
  unfold dec
  have : decOk (43 :: l) = false := by simp [decOk, isDig]
  rw [this]
  simp
/-! ### part by part -/
def addrF : Nat → List (List UInt8) → Option Nat
  | n, [] => some n
  | n, p :: r => match part p with
    | some k => addrF (n * 256 + k) r
    | none => none
theorem addr_eq (l : List UInt8) : addr l = if (cut 46 l).length = 4 then addrF 0 (cut 46 l) else none := by
  unfold addr
  match h : cut 46 l with
  | [] => rfl
  | [_] => rfl
  | [_, _] => rfl
  | [_, _, _] => rfl
  | [a, b, c, d] =>
    simp only [List.length_cons, List.length_nil, Nat.zero_add, if_true, addrF, Nat.zero_mul]
    cases part a <;> cases part b <;> cases part c <;> cases part d <;> simp
  | _ :: _ :: _ :: _ :: _ :: t =>
    rw [if_neg (by simp)]
theorem addrF_lt {n m : Nat} {l : List (List UInt8)} (h : addrF n l = some m) : m < (n + 1) * 256 ^ l.length := by
  induction l generalizing n with
  | nil => simp [addrF] at h; simp; omega
  | cons p r ih =>
    unfold addrF at h
    split at h
    · rename_i k hk
      have h1 := ih h
      have h2 := part_lt hk
      rw [List.length_cons, Nat.pow_succ]
      refine Nat.lt_of_lt_of_le h1 ?_
      calc (n * 256 + k + 1) * 256 ^ r.length ≤ ((n + 1) * 256) * 256 ^ r.length := Nat.mul_le_mul_right _ (by omega)
        _ = (n + 1) * (256 ^ r.length * 256) := by rw [Nat.mul_assoc, Nat.mul_comm 256]
    · cases h
/-! ### what the program asks of a number -/
theorem numF_take (l : List UInt8) (k : Nat) (hk : k < l.length) : numF 0 (l.take (k + 1)) = numF 0 (l.take k) * 10 + ((l.getD k 0).toNat - 48) := by
  have e : l.take (k + 1) = l.take k ++ [l[k]] := List.take_succ_eq_append_getElem hk
  rw [e, numF_append]
  simp [numF, List.getD_eq_getElem?_getD, List.getElem?_eq_getElem hk]
theorem all_take (l : List UInt8) (k : Nat) (hk : k < l.length) : (l.take (k + 1)).all isDig = ((l.take k).all isDig && isDig (l.getD k 0)) := by
  have e : l.take (k + 1) = l.take k ++ [l[k]] := List.take_succ_eq_append_getElem hk
  rw [e, List.all_append]
  simp [List.getD_eq_getElem?_getD, List.getElem?_eq_getElem hk]
theorem not_all {l : List UInt8} {k : Nat} (hk : k < l.length) (h : isDig (l.getD k 0) = false) : l.all isDig = false := by
  rw [Bool.eq_false_iff]
  intro hh
  rw [List.all_eq_true] at hh
  have := hh (l[k]) (List.getElem_mem hk)
  rw [List.getD_eq_getElem?_getD, List.getElem?_eq_getElem hk] at h
  simp at h
  rw [this] at h
  cases h
def decV (l : List UInt8) : Nat := match dec l with | some n => n | none => 0
def decB (l : List UInt8) : Bool := (dec l).isSome
theorem dec_no {l : List UInt8} (h : decOk l = false) : decV l = 0 ∧ decB l = false := by
  unfold decV decB dec
  rw [h]
  simp
theorem dec_yes {l : List UInt8} (h : decOk l = true) : decV l = num l ∧ decB l = true := by
  unfold decV decB dec
  rw [h]
  simp
theorem decV_lt (l : List UInt8) : decV l < 1000000000 := by
  unfold decV
  split
  · rename_i n h; exact dec_lt h
  · omega
def addrV (l : List UInt8) : Nat := match addr l with | some n => n | none => 0
def addrB (l : List UInt8) : Bool := (addr l).isSome
theorem addrV_lt (l : List UInt8) : addrV l < 4294967296 := by
  unfold addrV
  split
  · rename_i n h; exact addr_lt h
  · omega
def netA (l : List UInt8) : Nat := match net l with | some p => p.1 | none => 0
def netL (l : List UInt8) : Nat := match net l with | some p => p.2 | none => 0
def netB (l : List UInt8) : Bool := (net l).isSome
end Go.Proofs.YtecfkhgocjbocaaGreatDoor.SC
