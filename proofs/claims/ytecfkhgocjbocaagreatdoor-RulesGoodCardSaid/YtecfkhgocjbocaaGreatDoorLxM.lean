/-
  The plain law of package lex: a text as words and signs.
-/
namespace Go.Proofs.YtecfkhgocjbocaaGreatDoor.LX
set_option linter.unusedSimpArgs false
set_option linter.unusedVariables false
/-- a byte of a word -/
def inW (c : UInt8) : Bool := decide (97 ≤ c.toNat ∧ c.toNat ≤ 122) || decide (65 ≤ c.toNat ∧ c.toNat ≤ 90) || decide (46 ≤ c.toNat ∧ c.toNat ≤ 57) || decide (c.toNat = 45) || decide (c.toNat = 95)
def blk (c : UInt8) : Bool := decide (c.toNat = 32) || decide (c.toNat = 9) || decide (c.toNat = 10)
def sgn (c : UInt8) : Bool := decide (c.toNat = 123) || decide (c.toNat = 125) || decide (c.toNat = 59)
def nl (c : UInt8) : Bool := decide (c.toNat = 10)
/-- how many bytes of a note a text begins with -/
def noteLen (l : List UInt8) : Nat := (l.takeWhile fun c => !nl c).length
def wordLen (l : List UInt8) : Nat := (l.takeWhile inW).length
theorem tw_len_le (p : UInt8 → Bool) (l : List UInt8) : (l.takeWhile p).length ≤ l.length := (List.takeWhile_sublist p).length_le
theorem tw_take (p : UInt8 → Bool) (l : List UInt8) : l.take (l.takeWhile p).length = l.takeWhile p := by
  have h := List.takeWhile_append_dropWhile (p := p) (l := l)
  conv => lhs; arg 2; rw [← h]
  rw [List.take_left']
  rfl
theorem tw_drop (p : UInt8 → Bool) (l : List UInt8) : l.drop (l.takeWhile p).length = l.dropWhile p := by
  have h := List.takeWhile_append_dropWhile (p := p) (l := l)
  conv => lhs; arg 2; rw [← h]
  rw [List.drop_left']
  rfl
/-- the words of what is left of a text -/
def run (l : List UInt8) (at_ : Nat) (out : List (List UInt8)) : List (List UInt8) × Nat × Nat :=
  match l with
  | [] => (out, at_, 0)
  | c :: r =>
    if blk c then run r (at_ + 1) out
    else if c.toNat = 35 then run ((c :: r).drop (noteLen r + 1)) (at_ + (noteLen r + 1)) out
    else if sgn c then run r (at_ + 1) (out ++ [[c]])
    else if inW c then (if 31 < wordLen r + 1 then ([], at_, 3) else run ((c :: r).drop (wordLen r + 1)) (at_ + (wordLen r + 1)) (out ++ [(c :: r).take (wordLen r + 1)]))
    else ([], at_, 3)
termination_by l.length
decreasing_by all_goals (simp; try omega)
theorem run_nil (a : Nat) (out : List (List UInt8)) : run [] a out = (out, a, 0) := by rw [run]
theorem run_blk (c : UInt8) (r : List UInt8) (a : Nat) (out : List (List UInt8)) (h : blk c = true) : run (c :: r) a out = run r (a + 1) out := by rw [run, if_pos h]
theorem drop_step (l : List UInt8) (k : Nat) (h : k < l.length) : l.drop k = l.getD k 0 :: l.drop (k + 1) := by
  rw [List.drop_eq_getElem_cons h]
  simp [List.getD_eq_getElem?_getD, List.getElem?_eq_getElem h]
theorem inW_not (c : UInt8) (h : inW c = true) : blk c = false ∧ c.toNat ≠ 35 ∧ sgn c = false := by
  simp [inW, blk, sgn] at h ⊢
  omega
theorem sgn_not (c : UInt8) (h : sgn c = true) : blk c = false ∧ c.toNat ≠ 35 ∧ inW c = false := by
  simp [inW, blk, sgn] at h ⊢
  omega
theorem note_not (c : UInt8) (h : c.toNat = 35) : blk c = false ∧ sgn c = false ∧ inW c = false := by
  simp [inW, blk, sgn, h]
theorem run_note (c : UInt8) (r : List UInt8) (a : Nat) (out : List (List UInt8)) (h : c.toNat = 35) : run (c :: r) a out = run ((c :: r).drop (noteLen (c :: r))) (a + noteLen (c :: r)) out := by
  have h2 : noteLen (c :: r) = noteLen r + 1 := by simp [noteLen, nl, List.takeWhile_cons, h]
  rw [run, if_neg (by rw [(note_not c h).1]; simp), if_pos h, h2]
theorem run_sgn (c : UInt8) (r : List UInt8) (a : Nat) (out : List (List UInt8)) (h : sgn c = true) : run (c :: r) a out = run r (a + 1) (out ++ [[c]]) := by
  obtain ⟨h1, h2, _⟩ := sgn_not c h
  rw [run, if_neg (by rw [h1]; simp), if_neg h2, if_pos h]
theorem wordLen_cons (c : UInt8) (r : List UInt8) (h : inW c = true) : wordLen (c :: r) = wordLen r + 1 := by simp [wordLen, List.takeWhile_cons, h]
theorem wordLen_no (c : UInt8) (r : List UInt8) (h : inW c = false) : wordLen (c :: r) = 0 := by simp [wordLen, List.takeWhile_cons, h]
theorem run_word (c : UInt8) (r : List UInt8) (a : Nat) (out : List (List UInt8)) (h : inW c = true) (hn : wordLen (c :: r) ≤ 31) :
    run (c :: r) a out = run ((c :: r).drop (wordLen (c :: r))) (a + wordLen (c :: r)) (out ++ [(c :: r).take (wordLen (c :: r))]) := by
  obtain ⟨h1, h2, h3⟩ := inW_not c h
  rw [run, if_neg (by rw [h1]; simp), if_neg h2, if_neg (by rw [h3]; simp), if_pos h]
  rw [wordLen_cons c r h] at hn ⊢
  rw [if_neg (by omega)]
theorem run_long (c : UInt8) (r : List UInt8) (a : Nat) (out : List (List UInt8)) (h : inW c = true) (hn : 31 < wordLen (c :: r)) : run (c :: r) a out = ([], a, 3) := by
  obtain ⟨h1, h2, h3⟩ := inW_not c h
  rw [run, if_neg (by rw [h1]; simp), if_neg h2, if_neg (by rw [h3]; simp), if_pos h]
  rw [wordLen_cons c r h] at hn
  rw [if_pos hn]
theorem run_bad (c : UInt8) (r : List UInt8) (a : Nat) (out : List (List UInt8)) (h1 : blk c = false) (h2 : c.toNat ≠ 35) (h3 : sgn c = false) (h4 : inW c = false) : run (c :: r) a out = ([], a, 3) := by
  rw [run, if_neg (by rw [h1]; simp), if_neg h2, if_neg (by rw [h3]; simp), if_neg (by rw [h4]; simp)]
/-- blanks, all at once -/
theorem run_blks (l : List UInt8) (a : Nat) (out : List (List UInt8)) : run l a out = run (l.dropWhile blk) (a + (l.takeWhile blk).length) out := by
  induction l generalizing a with
  | nil => rfl
  | cons c r ih =>
    cases h : blk c with
    | true =>
      rw [run_blk c r a out h, ih]
      simp [List.dropWhile_cons, List.takeWhile_cons, h]
      congr 1
      omega
    | false => simp [List.dropWhile_cons, List.takeWhile_cons, h]
/-- a token -/
def Tok (w : List UInt8) : Prop := (∃ c, w = [c] ∧ sgn c = true) ∨ (w ≠ [] ∧ w.length ≤ 31 ∧ ∀ c ∈ w, inW c = true)
theorem run_toks (n : Nat) : ∀ (l : List UInt8) (a : Nat) (out : List (List UInt8)), l.length ≤ n → (∀ w ∈ out, Tok w) → ∀ w ∈ (run l a out).1, Tok w := by
  induction n with
  | zero =>
    intro l a out hl ho w hw
    cases l with
    | nil => rw [run_nil] at hw; exact ho w hw
    | cons c r => simp at hl
  | succ n ih =>
    intro l a out hl ho w hw
    cases l with
    | nil => rw [run_nil] at hw; exact ho w hw
    | cons c r =>
      simp at hl
      cases h1 : blk c with
      | true => rw [run_blk c r a out h1] at hw; exact ih r _ out hl ho w hw
      | false =>
        by_cases h2 : c.toNat = 35
        · rw [run_note c r a out h2] at hw
          refine ih _ _ out ?_ ho w hw
          simp [noteLen, nl, List.takeWhile_cons, h2]
          omega
        · cases h3 : sgn c with
          | true =>
            rw [run_sgn c r a out h3] at hw
            refine ih r _ _ hl ?_ w hw
            intro x hx
            rcases List.mem_append.1 hx with hx | hx
            · exact ho x hx
            · simp at hx; exact .inl ⟨c, hx, h3⟩
          | false =>
            cases h4 : inW c with
            | true =>
              by_cases h5 : wordLen (c :: r) ≤ 31
              · rw [run_word c r a out h4 h5] at hw
                have hwl := wordLen_cons c r h4
                refine ih _ _ _ ?_ ?_ w hw
                · rw [hwl]; simp; omega
                · intro x hx
                  rcases List.mem_append.1 hx with hx | hx
                  · exact ho x hx
                  · simp only [List.mem_cons, List.not_mem_nil, or_false] at hx
                    subst hx
                    unfold wordLen
                    rw [tw_take]
                    refine .inr ⟨by simp [List.takeWhile_cons, h4], h5, fun y hy => ?_⟩
                    have := List.all_takeWhile (p := inW) (l := c :: r)
                    exact List.all_eq_true.1 this y hy
              · rw [run_long c r a out h4 (by omega)] at hw
                simp at hw
            | false => rw [run_bad c r a out h1 h2 h3 h4] at hw; simp at hw
theorem run_err (n : Nat) : ∀ (l : List UInt8) (a : Nat) (out : List (List UInt8)), l.length ≤ n → (run l a out).2.2 = 0 ∨ (run l a out).2.2 = 3 := by
  induction n with
  | zero =>
    intro l a out hl
    cases l with
    | nil => rw [run_nil]; exact .inl rfl
    | cons c r => simp at hl
  | succ n ih =>
    intro l a out hl
    cases l with
    | nil => rw [run_nil]; exact .inl rfl
    | cons c r =>
      simp at hl
      cases h1 : blk c with
      | true => rw [run_blk c r a out h1]; exact ih r _ out hl
      | false =>
        by_cases h2 : c.toNat = 35
        · rw [run_note c r a out h2]
          refine ih _ _ out ?_
          simp [noteLen, nl, List.takeWhile_cons, h2]
          omega
        · cases h3 : sgn c with
          | true => rw [run_sgn c r a out h3]; exact ih r _ _ hl
          | false =>
            cases h4 : inW c with
            | true =>
              by_cases h5 : wordLen (c :: r) ≤ 31
              · rw [run_word c r a out h4 h5]
                refine ih _ _ _ ?_
                rw [wordLen_cons c r h4]; simp; omega
              · rw [run_long c r a out h4 (by omega)]; exact .inr rfl
            | false => rw [run_bad c r a out h1 h2 h3 h4]; exact .inr rfl
/-- words with blanks between -/
def spread (l : List (List UInt8)) : List UInt8 := l.flatMap fun w => 32 :: w
theorem tw_all (p : UInt8 → Bool) (w r : List UInt8) (h : ∀ c ∈ w, p c = true) (hr : r = [] ∨ ∃ c t, r = c :: t ∧ p c = false) : (w ++ r).takeWhile p = w := by
  induction w with
  | nil =>
    rcases hr with rfl | ⟨c, t, rfl, hc⟩
    · rfl
    · simp [List.takeWhile_cons, hc]
  | cons c w ih =>
    simp only [List.cons_append, List.takeWhile_cons, h c (List.mem_cons_self ..), if_true]
    rw [ih (fun x hx => h x (List.mem_cons_of_mem _ hx))]
theorem spread_head (l : List (List UInt8)) : spread l = [] ∨ ∃ c t, spread l = c :: t ∧ inW c = false := by
  cases l with
  | nil => exact .inl rfl
  | cons w l => exact .inr ⟨32, w ++ spread l, by simp [spread], rfl⟩
theorem run_tok (w r : List UInt8) (a : Nat) (out : List (List UInt8)) (hw : Tok w) (hr : r = [] ∨ ∃ c t, r = c :: t ∧ inW c = false) : run (w ++ r) a out = run r (a + w.length) (out ++ [w]) := by
  rcases hw with ⟨c, rfl, hc⟩ | ⟨h1, h2, h3⟩
  · exact run_sgn c r a out hc
  · cases w with
    | nil => exact absurd rfl h1
    | cons c t =>
      have hwl : wordLen ((c :: t) ++ r) = (c :: t).length := by unfold wordLen; rw [tw_all inW (c :: t) r h3 hr]
      have := run_word c (t ++ r) a out (h3 c (List.mem_cons_self ..)) (by rw [← List.cons_append, hwl]; exact h2)
      rw [← List.cons_append, hwl, List.drop_left, List.take_left] at this
      exact this
theorem run_spread (l : List (List UInt8)) (hl : ∀ w ∈ l, Tok w) : ∀ (a : Nat) (out : List (List UInt8)), run (spread l) a out = (out ++ l, a + (spread l).length, 0) := by
  induction l with
  | nil => intro a out; simp [spread, run_nil]
  | cons w l ih =>
    intro a out
    have e : spread (w :: l) = 32 :: (w ++ spread l) := by simp [spread]
    rw [e, run_blk 32 _ _ _ rfl, run_tok w (spread l) _ _ (hl w (List.mem_cons_self ..)) (spread_head l), ih (fun x hx => hl x (List.mem_cons_of_mem _ hx))]
    simp
    omega
def isW (s : List UInt8) : Bool := decide (s ≠ []) && decide (s.length ≤ 31) && decide (wordLen s = s.length)
theorem isW_iff (s : List UInt8) : isW s = true ↔ s ≠ [] ∧ s.length ≤ 31 ∧ ∀ c ∈ s, inW c = true := by
  simp only [isW, Bool.and_eq_true, decide_eq_true_eq, and_assoc]
  refine and_congr_right fun _ => and_congr_right fun _ => ⟨fun h => ?_, fun h => ?_⟩
  · have h1 : s.takeWhile inW = s := by rw [← tw_take inW s]; unfold wordLen at h; rw [h, List.take_length]
    have := List.all_takeWhile (p := inW) (l := s)
    rw [h1] at this
    exact List.all_eq_true.1 this
  · unfold wordLen
    have := tw_all inW s [] h (.inl rfl)
    rw [List.append_nil] at this
    rw [this]
theorem isW_tok (w : List UInt8) (h : Tok w) : isW w = true ↔ ¬ ∃ c, w = [c] ∧ sgn c = true := by
  rw [isW_iff]
  constructor
  · rintro ⟨_, _, h3⟩ ⟨c, rfl, hc⟩
    have := h3 c (List.mem_cons_self ..)
    rw [(sgn_not c hc).2.2] at this
    cases this
  · intro h2
    rcases h with h | h
    · exact absurd h h2
    · exact h
/-- one word -/
theorem one_iff (s : List UInt8) : isW s = true ↔ ((run s 0 []).2.2 = 0 ∧ (run s 0 []).1 = [s] ∧ ¬ ∃ c, s = [c] ∧ sgn c = true) := by
  constructor
  · intro h
    have hT : Tok s := .inr ((isW_iff s).1 h)
    have := run_tok s [] 0 [] hT (.inl rfl)
    rw [List.append_nil, run_nil] at this
    rw [this]
    exact ⟨rfl, rfl, (isW_tok s hT).1 h⟩
  · rintro ⟨_, h2, h3⟩
    have hT := run_toks s.length s 0 [] (Nat.le_refl _) (by simp) s (by rw [h2]; simp)
    exact (isW_tok s hT).2 h3
end Go.Proofs.YtecfkhgocjbocaaGreatDoor.LX
