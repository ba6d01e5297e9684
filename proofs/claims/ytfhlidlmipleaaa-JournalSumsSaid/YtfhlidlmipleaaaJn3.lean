/-
  Contracts of able, current.
-/
import Derived.Test.YtfhlidlmipleaaaJn2
import Derived.Test.YtfhlidlmipleaaaBy
import Derived.Test.YtfhlidlmipleaaaDkL
namespace Go.Proofs.Ytfhlidlmipleaaa
set_option linter.unusedVariables false
set_option linter.unusedSimpArgs false
open Go Go.RowKit LM

set_option maxRecDepth 100000 in
set_option maxHeartbeats 400000 in
theorem able_nil (w : World) : Calls Try.prog 109 #[.pointer none] w fun e w' => e = .returned (.bool false) ∧ w' = w := by
  go_enter Try.func109, Try.ntmps109
  go_wp2_with fail
  go_ret
  exact ⟨rfl, rfl⟩
set_option maxRecDepth 100000 in
set_option maxHeartbeats 400000 in
theorem able_any (base : Nat) (w : World) (D : Dk) (d : Nat) (I : Nat → Prop) (h : Dsk base w D d I) :
    Calls Try.prog 109 #[.pointer (some ⟨d, 0, none⟩)] w fun e w' => e = .returned (.bool (decide (4 ≤ (D.stay.length : Int)))) ∧ w' = w := by
  go_enter Try.func109, Try.ntmps109
  go_wp2_with fail
  refine (dsk_size base w D d I h).mono ?_
  rintro e w' ⟨rfl, rfl⟩
  go_wp2_with fail
  go_ret
  exact ⟨rfl, rfl⟩
def curStep (D : Dk) (i : Nat) (gh : Nat × Nat) : Nat × Nat :=
  if byt (readE D i) 12 < 2 ∧ gh.1 < getN (((readE D i).drop 4).take 8) ∧ getN (((readE D i).drop 4).take 8) % 2 = i ∧ readE D i = slotJ (getN (((readE D i).drop 4).take 8)) (byt (readE D i) 12)
  then (getN (((readE D i).drop 4).take 8), byt (readE D i) 12) else gh
def curN (D : Dk) : Nat → Nat × Nat
  | 0 => (0, 0)
  | i + 1 => curStep D i (curN D i)
theorem curN_lt (D : Dk) (i : Nat) : (curN D i).1 < 18446744073709551616 ∧ (curN D i).2 < 2 := by
  induction i with
  | zero => simp [curN]
  | succ i ih =>
    unfold curN curStep
    split
    · rename_i h
      exact ⟨getN_lt _, h.1⟩
    · exact ih
/-- the error of current; what it tells -/
def curE (D : Dk) : Int := if D.off = true then 2 else 0
def curG (D : Dk) : Nat := if D.off = true then 0 else (curN D 2).1
def curH (D : Dk) : Nat := if D.off = true then 0 else (curN D 2).2
theorem mayE_on {D : Dk} {i : Int} (ho : D.off = false) (h0 : 0 ≤ i) (h1 : i < D.stay.length) : mayE D i = 0 := by
  unfold mayE
  rw [if_neg (by rw [ho]; exact Bool.false_ne_true), if_neg (by omega)]
theorem mayE_off {D : Dk} {i : Int} (ho : D.off = true) : mayE D i = 2 := by
  unfold mayE
  rw [if_pos ho]
theorem lookW_mem {l : List (Int × List UInt8)} {x : Int} {v : List UInt8} (h : lookW l x = some v) : ∃ p ∈ l, p.2 = v := by
  induction l with
  | nil => cases h
  | cons p t ih =>
    unfold lookW at h
    split at h
    · injection h with h
      exact ⟨p, by simp, h⟩
    · obtain ⟨q, h1, h2⟩ := ih h
      exact ⟨q, by simp [h1], h2⟩
theorem readB_len {base : Nat} {w : World} {D : Dk} {d : Nat} {I : Nat → Prop} (h : Dsk base w D d I) (x : Nat) (hx : x < D.stay.length) : (readB D x).length = 64 := by
  obtain ⟨gs, cs, r, Ao, co, h, _⟩ := h
  unfold readB
  cases hl : lookW D.wait x with
  | none =>
    simp only [Option.getD_none]
    rw [List.getD_eq_getElem?_getD, List.getElem?_eq_getElem hx]
    exact h.sec _ (List.getElem_mem hx)
  | some v =>
    obtain ⟨p, hp, rfl⟩ := lookW_mem hl
    exact h.secw p hp
theorem readE_on {D : Dk} {x : Nat} (ho : D.off = false) (h1 : x < D.stay.length) : readE D (x : Int) = readB D x := by
  unfold readE
  rw [if_pos (mayE_on ho (by omega) (by omega))]
  rfl
set_option maxRecDepth 100000 in
set_option maxHeartbeats 1600000 in
theorem current_any (base : Nat) (w : World) (D : Dk) (d : Nat) (I : Nat → Prop) (h : Dsk base w D d I) (hl : 2 ≤ D.stay.length) :
    Calls Try.prog 110 #[.pointer (some ⟨d, 0, none⟩)] w fun e w' => e = .returned (.tuple #[.int .u64 (curG D), .int .i64 (curH D), .int .i64 (curE D)]) ∧ Below w.heap.size w w' := by
  cases ho : D.off with
  | true =>
    have e1 : curG D = 0 := by unfold curG; rw [if_pos ho]
    have e2 : curH D = 0 := by unfold curH; rw [if_pos ho]
    have e3 : curE D = 2 := by unfold curE; rw [if_pos ho]
    rw [e1, e2, e3]
    clear e1 e2 e3
    have hm := mayE_off (i := 0) ho
    go_enter Try.func110, Try.ntmps110
    go_wp2_with fail
    go_loopw [5, 6, 12] (fun v u i wr => v = .int .u64 0 ∧ u = .int .i64 0 ∧ i = .int .i64 0 ∧ wr = w) (fun _ _ i _ => 2 - (intOf i).toNat)
    case atStart => exact ⟨rfl, rfl, rfl, rfl⟩
    case round =>
      obtain ⟨rfl, rfl, rfl, rfl⟩ := hrel
      go_wp2_with fail
      refine (dsk_read base wr D d I 0 h).mono ?_
      rintro e w' ⟨A, n, c, rfl, hs, hb⟩
      rw [hm]
      clear hm
      go_wp2_with fail
      refine bodyPost_ret (v := .tuple #[.int .u64 0, .int .i64 0, .int .i64 2]) (by simp [results, Try.results110, go_sem]) rfl ⟨rfl, hb⟩
  | false =>
    have hn : ¬ D.off = true := by rw [ho]; exact Bool.false_ne_true
    have e1 : curG D = (curN D 2).1 := by unfold curG; rw [if_neg hn]
    have e2 : curH D = (curN D 2).2 := by unfold curH; rw [if_neg hn]
    have e3 : curE D = 0 := by unfold curE; rw [if_neg hn]
    rw [e1, e2, e3]
    clear e1 e2 e3
    go_enter Try.func110, Try.ntmps110
    go_wp2_with fail
    go_loopw [5, 6, 12] (fun v u x wr => ∃ i : Nat, i ≤ 2 ∧ v = .int .u64 (curN D i).1 ∧ u = .int .i64 (curN D i).2 ∧ x = .int .i64 i ∧ Below w.heap.size w wr) (fun _ _ x _ => 2 - (intOf x).toNat)
    case atStart => exact ⟨0, Nat.zero_le _, rfl, rfl, rfl, Below.refl _ _⟩
    case round =>
      obtain ⟨i, hi, rfl, rfl, rfl, hb⟩ := hrel
      have hlt := curN_lt D i
      by_cases hi2 : i < 2
      · have hm := mayE_on (i := (i : Int)) ho (by omega) (by omega)
        have hr := readE_on (x := i) ho (by omega)
        have hlen := readB_len h i (by omega)
        have hD := h.below hb
        have HC0 : Hid (curN D (i + 1) = curStep D i (curN D i)) := hid rfl
        go_wp2_with fail
        refine (dsk_read base wr D d I i hD).mono ?_
        rintro e w' ⟨A, n, c, rfl, hs, hb2⟩
        rw [hm]
        rw [hr] at hs
        have hb3 := hb.trans (hb2.mono hb.size)
        have hn64 := hs.len
        rw [hlen] at hn64
        obtain ⟨rfl, hnc, hcm⟩ := hn64
        obtain ⟨b, off, rfl, hbl, hcell⟩ := hs.byte (k := 12) (by omega)
        have HCS : Hid (curStep D i (curN D i) = if byt (readB D i) 12 < 2 ∧ (curN D i).1 < getN (((readB D i).drop 4).take 8) ∧ getN (((readB D i).drop 4).take 8) % 2 = i ∧ readB D i = slotJ (getN (((readB D i).drop 4).take 8)) (byt (readB D i) 12)
            then (getN (((readB D i).drop 4).take 8), byt (readB D i) 12) else curN D i) := hid (by unfold curStep; rw [hr])
        have hmid := sl_mid hs 4 12 (by omega) (by omega) (by omega)
        clear hm hr hD h hb2 hb
        have hgl := getN_lt (((readB D i).drop 4).take 8)
        have hhl := byt_lt (readB D i) 12
        generalize hgg : getN (((readB D i).drop 4).take 8) = g at *
        generalize byt (readB D i) 12 = hf at *
        generalize readB D i = bb at *
        obtain ⟨gn, gh, hq⟩ : ∃ a b, curN D i = (a, b) := ⟨_, _, rfl⟩
        rw [hq] at HCS hlt HC0
        simp only [hq]
        simp only at hlt HCS
        clear hq
        go_wp2_with fail
        have zc := fun (z : WK (fun _ => False) w') => (wat_cell (p := ⟨b, off + 12, none⟩) hbl (fun e => e) z).trans hcell
        refine wp_region_loud (fun _ => False) [(2, plainL [] (.int .u64 g))] (fun _ => Fact.none) (by kernel_rfl) (by kernel_rfl) (.cons (plainL_ok _ _) .nil) good_nothing sat_none (WX.out ?_)
        repeat (first | (refine wx_quietU (by rfl) (by rfl) (by rfl) (fun K hK => ?_); go_big_quiet_op; refine hK _ ?_; clear hK K) | (refine wx_quietG (by rfl) (by rfl) (by rfl) (by rfl) (by rfl) (fun K hK => ?_); go_big_quiet_op; refine hK _ ?_; clear hK K) | (refine wx_skipG (by rfl) (by rfl) (by rfl) (fun K hK => ?_); go_simp; refine hK _ ?_; clear hK K) | (refine wx_skipN (by rfl) (by rfl) (by rfl) (fun K hK => ?_); go_simp; refine hK _ ?_; clear hK K))
        refine wx_loudU (us := []) (by rfl) (by rfl) (fun S wS hC hS hU => runs_enter (f := 154) (by go_simp <;> rfl) ?_) (fun v hv K hK => ?_)
        · refine (get_any _ 8 (c - 4) _ wS (hmid.below hC.below)).mono ?_
          rintro e w9 ⟨rfl, rfl⟩
          exact ⟨_, rfl, by rw [← hgg]; rfl, Kept.refl _ _, trivial⟩
        obtain rfl := hv; (go_simp; refine hK _ ?_; clear hK K)
        repeat (first | (refine wx_quietU (by rfl) (by rfl) (by rfl) (fun K hK => ?_); go_big_quiet_op; refine hK _ ?_; clear hK K) | (refine wx_quietG (by rfl) (by rfl) (by rfl) (by rfl) (by rfl) (fun K hK => ?_); go_big_quiet_op; refine hK _ ?_; clear hK K) | (refine wx_skipG (by rfl) (by rfl) (by rfl) (fun K hK => ?_); go_simp; refine hK _ ?_; clear hK K) | (refine wx_skipN (by rfl) (by rfl) (by rfl) (fun K hK => ?_); go_simp; refine hK _ ?_; clear hK K))
        refine wx_nil fun w9 hsat => ?_
        have hb9 := sat_below hsat
        have hb4 := hb3.trans (hb9.mono hb3.size)
        have hs9 := hs.below hb9
        clear hsat zc hcell hmid hb3 hb9 hs hgg
        by_cases c1 : hf < 2
        · by_cases c2 : gn < g
          · by_cases c3 : g % 2 = i
            · have q3 : (((g : Int) % 2) == (i : Int)) = true := beq_iff_eq.2 (by omega)
              go_wp2_with fail
              refine (slot_any g hf w9 hgl hhl).mono ?_
              rintro e w10 ⟨A3, ca, rfl, hown, hb10⟩
              have hs10 := hs9.below hb10
              have hb5 := hb4.trans (hb10.mono hb4.size)
              clear hb10 hs9 hb4
              by_cases c4 : bb = slotJ g hf
              · have q4 : (bb == slotJ g hf) = true := beq_iff_eq.2 c4
                have HC : Hid (curN D (i + 1) = (g, hf)) := hid (by rw [HC0.out, HCS.out, if_pos ⟨c1, c2, c3, c4⟩])
                have hsl := own_sl hown
                clear c4 HC0 HCS c3 hown
                generalize slotJ g hf = sl at *
                go_wp2_with fail
                refine (bytesEqual_any _ _ _ _ _ _ bb sl w10 hs10 hsl).mono ?_
                rintro e w11 ⟨rfl, rfl⟩
                rw [q4]
                go_wp2_with fail
                go_light
                exact ⟨⟨i + 1, by omega, by rw [HC.out], by rw [HC.out], by go_num, hb5⟩, by simp [intOf]; omega⟩
              · have q4 : (bb == slotJ g hf) = false := beq_eq_false_iff_ne.2 c4
                have HC : Hid (curN D (i + 1) = (gn, gh)) := hid (by rw [HC0.out, HCS.out, if_neg (fun h => c4 h.2.2.2)])
                have hsl := own_sl hown
                clear c4 HC0 HCS c3 hown
                generalize slotJ g hf = sl at *
                go_wp2_with fail
                refine (bytesEqual_any _ _ _ _ _ _ bb sl w10 hs10 hsl).mono ?_
                rintro e w11 ⟨rfl, rfl⟩
                rw [q4]
                go_wp2_with fail
                go_light
                exact ⟨⟨i + 1, by omega, by rw [HC.out], by rw [HC.out], by go_num, hb5⟩, by simp [intOf]; omega⟩
            · have q3 : (((g : Int) % 2) == (i : Int)) = false := beq_eq_false_iff_ne.2 (fun h => c3 (by omega))
              have HC : Hid (curN D (i + 1) = (gn, gh)) := hid (by rw [HC0.out, HCS.out, if_neg (fun h => c3 h.2.2.1)])
              clear c3 HC0 HCS
              have hb5 := hb4
              go_wp2_with fail
              go_light
              exact ⟨⟨i + 1, by omega, by rw [HC.out], by rw [HC.out], by go_num, hb5⟩, by simp [intOf]; omega⟩
          · have HC : Hid (curN D (i + 1) = (gn, gh)) := hid (by rw [HC0.out, HCS.out, if_neg (fun h => c2 h.2.1)])
            clear HC0 HCS
            have hb5 := hb4
            go_wp2_with fail
            go_light
            exact ⟨⟨i + 1, by omega, by rw [HC.out], by rw [HC.out], by go_num, hb5⟩, by simp [intOf]; omega⟩
        · have HC : Hid (curN D (i + 1) = (gn, gh)) := hid (by rw [HC0.out, HCS.out, if_neg (fun h => c1 h.1)])
          clear HC0 HCS
          have hb5 := hb4
          go_wp2_with fail
          go_light
          exact ⟨⟨i + 1, by omega, by rw [HC.out], by rw [HC.out], by go_num, hb5⟩, by simp [intOf]; omega⟩
      · obtain rfl : i = 2 := by omega
        go_wp2_with fail
        refine bodyPost_ret (v := .tuple #[.int .u64 (curN D 2).1, .int .i64 (curN D 2).2, .int .i64 0]) (by simp [results, Try.results110, go_sem]) rfl ⟨rfl, hb⟩
end Go.Proofs.Ytfhlidlmipleaaa
