/-
  Rows of entries; contracts of may, Free.
-/
import Derived.Test.YtfhlidlmipleaaaJn8
namespace Go.Proofs.Ytfhlidlmipleaaa
set_option linter.unusedVariables false
set_option linter.unusedSimpArgs false
open Go Go.RowKit LM

theorem sl_keptM {S : Nat → Prop} {w w' : World} {size n c : Nat} {A : Option Addr} {xs : List Value} (h : Sl w size (.slice A n c) xs) (hk : Kept S w w') (hs : 0 < n → ∀ ad, A = some ad → ¬ S ad.block) : Sl w' size (.slice A n c) xs := by
  by_cases h0 : 0 < n
  · exact sl_kept h hk (hs h0)
  · obtain ⟨A', n', c', he, hl, hnc, hcm, hr⟩ := h
    injection he with e1 e2 e3
    subst e1; subst e2; subst e3
    exact ⟨_, _, _, rfl, hl, hnc, hcm, fun hn => absurd hn h0⟩
/-- a slice of slices of bytes; F: the blocks of what it holds -/
structure Ents (w : World) (A : Option Addr) (n c : Nat) (vs : List Value) (ls : List (List UInt8)) (F : Nat → Prop) : Prop where
  row : Sl w 1 (.slice A n c) vs
  len : n = ls.length
  ent : ∀ k, k < ls.length → ∃ A' n' c', vs[k]? = some (.slice A' n' c') ∧ Sl w 1 (.slice A' n' c') (B8 (ls.getD k [])) ∧ (0 < n' → ∀ ad, A' = some ad → F ad.block)
theorem Ents.kept {S : Nat → Prop} {w w' : World} {A : Option Addr} {n c : Nat} {vs : List Value} {ls : List (List UInt8)} {F : Nat → Prop} (h : Ents w A n c vs ls F) (hk : Kept S w w') (hr : 0 < n → ∀ ad, A = some ad → ¬ S ad.block) (hF : ∀ b, F b → ¬ S b) : Ents w' A n c vs ls F :=
  ⟨sl_keptM h.row hk hr, h.len, fun k hk2 => by
    obtain ⟨A', n', c', h1, h2, h3⟩ := h.ent k hk2
    exact ⟨A', n', c', h1, sl_keptM h2 hk (fun h0 ad had => hF _ (h3 h0 ad had)), h3⟩⟩
theorem Ents.below {w w' : World} {A : Option Addr} {n c : Nat} {vs : List Value} {ls : List (List UInt8)} {F : Nat → Prop} (h : Ents w A n c vs ls F) (hb : Below w.heap.size w w') : Ents w' A n c vs ls F :=
  h.kept (S := fun _ => False) (Kept.of_below hb) (fun _ _ _ x => x) (fun _ _ x => x)
theorem Ents.at {w : World} {A : Option Addr} {n c : Nat} {vs : List Value} {ls : List (List UInt8)} {F : Nat → Prop} (h : Ents w A n c vs ls F) (k : Nat) (hk : k < n) :
    ∃ b off A' n' c', A = some ⟨b, off, none⟩ ∧ b < w.heap.size ∧ w.cell? ⟨b, off + k, none⟩ = some (.slice A' n' c') ∧ Sl w 1 (.slice A' n' c') (B8 (ls.getD k [])) ∧ (0 < n' → ∀ ad, A' = some ad → F ad.block) := by
  have hr := h.row
  obtain ⟨A', n', c', he, hl, _, _, hr⟩ := hr
  injection he with h1 h2 h3
  subst h1; subst h2; subst h3
  obtain ⟨b, off, rfl, hlt, hc⟩ := hr (by omega)
  obtain ⟨A', n', c', e1, e2, e3⟩ := h.ent k (by rw [← h.len]; exact hk)
  exact ⟨b, off, A', n', c', rfl, hlt, by rw [hc k (by omega), e1], e2, e3⟩
/-- a journal's row is one -/
theorem Jrn.ents {base : Nat} {w : World} {J : Jn} {j d : Nat} {K : Nat → Prop} (h : Jrn base w J j d K) : ∃ (Aa : Option Addr) (ca : Nat) (vs : List Value), w.cell? ⟨j, 3, none⟩ = some (.slice Aa J.all.length ca) ∧ Ents w Aa J.all.length ca vs J.all K ∧ ∀ ad, Aa = some ad → K ad.block := by
  obtain ⟨Aa, ca, vs, E, h, hK⟩ := h
  refine ⟨Aa, ca, vs, by have := (blk_cells h.blk).1 3; simpa using this, ⟨own_sl h.row, rfl, fun k hk => ?_⟩, fun ad had => (hK _).2 (.inr (.inl ?_))⟩
  · obtain ⟨g, off, n, c, e1, e2, e3⟩ := h.ent k hk
    exact ⟨_, _, _, e1, e2, fun _ ad had => by injection had with had; subst had; exact (hK g).2 (.inr (.inr e3))⟩
  · subst had
    rcases h.row.2 with ⟨hv, _⟩ | ⟨g, cap, cur, hv, _⟩
    · cases hv
    · injection hv with e1
      injection e1 with e1
      subst e1
      rfl
def mayL (sz : Nat) : List (List UInt8) → Nat → Int
  | [], u => if sz < u then 5 else 0
  | l :: t, u => if l.length = 0 ∨ 8192 < l.length then 1 else mayL sz t (u + takesN l.length)
def mayJ (D : Dk) (J : Jn) (ls : List (List UInt8)) (u : Nat) : Int := if J.gone = true then 2 else mayL (sizeJ D) ls u
set_option maxRecDepth 100000 in
set_option maxHeartbeats 3200000 in
theorem may_gone (base : Nat) (w : World) (D : Dk) (J : Jn) (j d : Nat) (I K : Nat → Prop) (h : Jd base w D J j d I K) (hg : J.gone = true) (v : Value) (u : Int) :
    Calls Try.prog 113 #[.pointer (some ⟨j, 0, none⟩), v, .int .i64 u] w fun e w' => e = .returned (.int .i64 2) ∧ w' = w := by
  obtain ⟨Aa, ca, hjl, _, _, q0, q1, q2, q3, q4, q5⟩ := h.jn.cells
  rw [hg] at q5
  clear q0 q1 q2 q3 q4 hg
  go_enter Try.func113, Try.ntmps113
  go_wp2_with fail
  go_ret
  exact ⟨rfl, rfl⟩
set_option maxRecDepth 100000 in
set_option maxHeartbeats 3200000 in
theorem may_any' (base : Nat) (w : World) (D : Dk) (J : Jn) (j d : Nat) (I K : Nat → Prop) (h : Jd base w D J j d I K) (h2 : 2 ≤ D.stay.length) (h3 : D.stay.length ≤ 1024) (hg : J.gone = false) (A : Option Addr) (n c : Nat) (vs : List Value) (ls : List (List UInt8)) (F : Nat → Prop) (hE : Ents w A n c vs ls F) (hn : n ≤ 1048576) (u : Nat) (hu : u ≤ 1099511627776) :
    Calls Try.prog 113 #[.pointer (some ⟨j, 0, none⟩), .slice A n c, .int .i64 u] w fun e w' => e = .returned (.int .i64 (mayL (sizeJ D) ls u)) ∧ w' = w := by
  obtain ⟨Aa, ca, hjl, _, _, q0, q1, q2, q3, q4, q5⟩ := h.jn.cells
  rw [hg] at q5
  clear q0 q1 q2 q3 q4
  obtain rfl := hE.len
  obtain ⟨hnc1, hnc2⟩ : ls.length ≤ c ∧ c ≤ 9223372036854775807 := by
    obtain ⟨A', n', c', he, _, e1, e2, _⟩ := hE.row
    injection he with h4 h5 h6
    subst h4; subst h5; subst h6
    exact ⟨e1, by simpa [maxLen] using e2⟩
  go_enter Try.func113, Try.ntmps113
  go_wp2_with fail
  go_loopw [2, 15] (fun v i wr => ∃ k uk : Nat, k ≤ ls.length ∧ i = .int .i64 k ∧ v = .int .i64 uk ∧ mayL (sizeJ D) ls u = mayL (sizeJ D) (ls.drop k) uk ∧ uk ≤ u + 130 * k ∧ wr = w) (fun _ i _ => ls.length - (intOf i).toNat)
  case atStart => exact ⟨0, u, Nat.zero_le _, rfl, rfl, rfl, by omega, rfl⟩
  case round =>
    obtain ⟨k, uk, hk, rfl, rfl, hm, huk, rfl⟩ := hrel
    by_cases hkn : k < ls.length
    · obtain ⟨b, off, A', n', c', rfl, hb, hcell, hs, _⟩ := hE.at k hkn
      have hlk := hs.len.1
      have hdr : ls.drop k = ls.getD k [] :: ls.drop (k + 1) := by
        rw [List.drop_eq_getElem_cons (by omega), List.getD_eq_getElem?_getD, List.getElem?_eq_getElem (by omega)]
        rfl
      rw [hdr] at hm
      have htk : n' ≤ 8192 → takesN n' ≤ 130 := fun _ => by unfold takesN; omega
      have HM : Hid (mayL (sizeJ D) ls u = if (ls.getD k []).length = 0 ∨ 8192 < (ls.getD k []).length then 1 else mayL (sizeJ D) (ls.drop (k + 1)) (uk + takesN (ls.getD k []).length)) := hid hm
      rw [hlk] at HM
      clear hm hdr hs hlk
      by_cases h0 : n' = 0
      · subst h0
        rw [if_pos (.inl rfl)] at HM
        go_wp2_with fail
        go_ret
        rw [HM.out]
        exact ⟨rfl, rfl⟩
      · by_cases h8 : 8192 < n'
        · rw [if_pos (.inr h8)] at HM
          have q0 : ((n' : Int) == 0) = false := by simpa using h0
          go_wp2_with fail
          go_ret
          rw [HM.out]
          exact ⟨rfl, rfl⟩
        · rw [if_neg (by omega)] at HM
          have htk2 := htk (by omega)
          have q0 : ((n' : Int) == 0) = false := by simpa using h0
          clear htk
          go_wp2_with fail
          refine (takes_any n' (by omega) _).mono ?_
          rintro e w9 ⟨rfl, rfl⟩
          go_wp2_with fail
          go_light
          exact ⟨⟨k + 1, uk + takesN n', by omega, by go_num, by go_num, HM.out, by omega, trivial⟩, by simp [intOf]; omega⟩
    · obtain rfl : k = ls.length := by omega
      rw [List.drop_length] at hm
      have HM : Hid (mayL (sizeJ D) ls u = if sizeJ D < uk then 5 else 0) := hid hm
      have hsz := sizeJ_le h3
      clear hm
      by_cases hsu : sizeJ D < uk
      · rw [if_pos hsu] at HM
        go_wp2_with fail
        refine (size_any' base _ D J j d I K h.dk h.jn h2 h3).mono ?_
        rintro e w9 ⟨rfl, rfl⟩
        go_wp2_with fail
        go_ret
        rw [HM.out]
        exact ⟨rfl, rfl⟩
      · rw [if_neg hsu] at HM
        go_wp2_with fail
        refine (size_any' base _ D J j d I K h.dk h.jn h2 h3).mono ?_
        rintro e w9 ⟨rfl, rfl⟩
        go_wp2_with fail
        go_ret
        rw [HM.out]
        exact ⟨rfl, rfl⟩
def freeJ (D : Dk) (J : Jn) : Int := if J.gone = true then 0 else (sizeJ D : Int) - J.used
set_option maxRecDepth 100000 in
set_option maxHeartbeats 800000 in
theorem free_none (w : World) : Calls Try.prog 68 #[.pointer none] w fun e w' => e = .returned (.int .i64 0) ∧ w' = w := by
  go_enter Try.func68, Try.ntmps68
  go_wp2_with fail
  go_ret
  exact ⟨rfl, rfl⟩
set_option maxRecDepth 100000 in
set_option maxHeartbeats 800000 in
theorem free_any (base : Nat) (w : World) (D : Dk) (J : Jn) (j d : Nat) (I K : Nat → Prop) (h : Jd base w D J j d I K) (h2 : 2 ≤ D.stay.length) (h3 : D.stay.length ≤ 1024) (hu : J.used ≤ 1099511627776) :
    Calls Try.prog 68 #[.pointer (some ⟨j, 0, none⟩)] w fun e w' => e = .returned (.int .i64 (freeJ D J)) ∧ Below w.heap.size w w' := by
  obtain ⟨Aa, ca, hjl, _, _, q0, q1, q2, q3, q4, q5⟩ := h.jn.cells
  have z4 := fun (z : WK (fun _ => False) w) => (wat_cell (p := ⟨j, 4, none⟩) hjl (fun e => e) z).trans q4
  clear q0 q1 q2 q3 q4
  have hsz := sizeJ_le h3
  cases hg : J.gone with
  | true =>
    have HF : freeJ D J = 0 := by unfold freeJ; rw [if_pos hg]
    rw [HF]
    rw [hg] at q5
    clear HF hg z4
    go_enter Try.func68, Try.ntmps68
    go_wp2_with fail
    go_ret
    exact ⟨rfl, Below.refl _ _⟩
  | false =>
    have HF : freeJ D J = (sizeJ D : Int) - J.used := by unfold freeJ; rw [if_neg (by rw [hg]; exact Bool.false_ne_true)]
    rw [HF]
    rw [hg] at q5
    clear HF hg
    go_enter Try.func68, Try.ntmps68
    go_wp2_with fail
    refine wp_region_loud (fun _ => False) [(1, plainL [] (.int .i64 (sizeJ D)))] (fun _ => Fact.none) (by kernel_rfl) (by kernel_rfl) (.cons (plainL_ok _ _) .nil) good_nothing sat_none (WX.out ?_)
    repeat (first | (refine wx_quietU (by rfl) (by rfl) (by rfl) (fun K hK => ?_); go_big_quiet_op; refine hK _ ?_; clear hK K) | (refine wx_quietG (by rfl) (by rfl) (by rfl) (by rfl) (by rfl) (fun K hK => ?_); go_big_quiet_op; refine hK _ ?_; clear hK K) | (refine wx_skipG (by rfl) (by rfl) (by rfl) (fun K hK => ?_); go_simp; refine hK _ ?_; clear hK K) | (refine wx_skipN (by rfl) (by rfl) (by rfl) (fun K hK => ?_); go_simp; refine hK _ ?_; clear hK K))
    refine wx_loudU (us := []) (by rfl) (by rfl) (fun S wS hC hS hU => runs_enter (f := 122) (by go_simp <;> rfl) ?_) (fun v hv K hK => ?_)
    · refine (size_any' base wS D J j d I K (h.dk.below hC.below) (h.jn.below hC.below) h2 h3).mono ?_
      rintro e w9 ⟨rfl, rfl⟩
      exact ⟨_, rfl, rfl, Kept.refl _ _, trivial⟩
    obtain rfl := hv; (go_simp; refine hK _ ?_; clear hK K)
    repeat (first | (refine wx_quietU (by rfl) (by rfl) (by rfl) (fun K hK => ?_); go_big_quiet_op; refine hK _ ?_; clear hK K) | (refine wx_quietG (by rfl) (by rfl) (by rfl) (by rfl) (by rfl) (fun K hK => ?_); go_big_quiet_op; refine hK _ ?_; clear hK K) | (refine wx_skipG (by rfl) (by rfl) (by rfl) (fun K hK => ?_); go_simp; refine hK _ ?_; clear hK K) | (refine wx_skipN (by rfl) (by rfl) (by rfl) (fun K hK => ?_); go_simp; refine hK _ ?_; clear hK K))
    refine wx_nil fun w9 hsat => ?_
    have hb9 := sat_below hsat
    clear hsat z4
    go_wp2_with fail
    go_ret
    exact ⟨rfl, hb9⟩
end Go.Proofs.Ytfhlidlmipleaaa
