/-
  Contracts of texts, Same, Sum, Right.
  Pr2 rows of entries in one block, and an append to one of them.
  The walk of JournalTries.
-/
import Derived.Test.YtfhlidlmipleaaaJzC
namespace Go.Proofs.Ytfhlidlmipleaaa
set_option linter.unusedVariables false
set_option linter.unusedSimpArgs false
open Go Go.RowKit LM

theorem Entv.ents {w : World} {base : Nat} {A : Option Addr} {n c : Nat} {vs : List Value} {ls : List (List UInt8)} {F : Nat → Prop} (h : Entv w vs ls F) (ho : w.ownsRow base 27 1 (.slice A n c) n vs) (hn : n = ls.length) : Ents w A n c vs ls F := ⟨own_sl ho, hn, h⟩
set_option maxRecDepth 100000 in
set_option maxHeartbeats 1600000 in
theorem texts_any (w : World) (A : Option Addr) (na c : Nat) (vs : List Value) (ls : List (List UInt8)) (F : Nat → Prop) (hE : Ents w A na c vs ls F) (hn : na ≤ 1048576) :
    Calls Try.prog 65 #[.slice A na c] w fun e w' => ∃ A' c', e = .returned (.slice A' ls.length c') ∧ w'.ownsRow w.heap.size 9 1 (.slice A' ls.length c') ls.length (STd ls) ∧ Below w.heap.size w w' := by
  obtain rfl := hE.len
  go_enter Try.func65, Try.ntmps65
  go_wp2_with fail
  go_loopw [3, 4] (fun v i wr => ∃ (k : Nat) (A' : Option Addr) (c' : Nat), k ≤ ls.length ∧ i = .int .i64 k ∧ v = .slice A' k c' ∧ wr.ownsRow w.heap.size 9 1 (.slice A' k c') k (STd (ls.take k)) ∧ Below w.heap.size w wr) (fun _ i _ => ls.length - (intOf i).toNat)
  case atStart => exact ⟨0, none, 0, Nat.zero_le _, rfl, rfl, World.ownsRow_nil _ _ _ _, Below.refl _ _⟩
  case round =>
    obtain ⟨k, A1, c1, hk, rfl, rfl, hown, hb⟩ := hrel
    by_cases hkn : k < ls.length
    · obtain ⟨b, off, A', n', c', rfl, hbl, hcell, hs, _⟩ := hE.at k hkn
      have hcr := (hb.cell (p := ⟨b, off + k, none⟩) hbl).trans hcell
      have st := bstr (hs.below hb)
      have htk : STd (ls.take (k + 1)) = STd (ls.take k) ++ [.string (S8 (ls.getD k []))] := by
        rw [List.take_add_one, List.getElem?_eq_getElem hkn, List.getD_eq_getElem?_getD, List.getElem?_eq_getElem hkn]
        rw [STd, List.map_append]
        rfl
      have HT := hid htk
      have hsl : Sl (wr.alloc (.cells #[.string (S8 (ls.getD k []))] 9)) 1 (.slice (some ⟨wr.heap.size, 0, none⟩) 1 1) [.string (S8 (ls.getD k []))] := by
        refine ⟨_, _, _, rfl, by simp, Nat.le_refl _, by simp [maxLen], fun _ => ⟨wr.heap.size, 0, rfl, by simp, fun i hi => ?_⟩⟩
        obtain rfl : i = 0 := by omega
        rw [World.cell?_alloc_at _ _ _ _ rfl]
        rfl
      have hrow := hown.alloc (.cells #[.string (S8 (ls.getD k []))] 9)
      have hz : w.heap.size ≤ (wr.alloc (.cells #[.string (S8 (ls.getD k []))] 9)).heap.size := by have := hb.size; simp; omega
      have hba := hb.alloc hb.size (.cells #[.string (S8 (ls.getD k []))] 9)
      clear htk hs hown hb hcell
      generalize ls.getD k [] = x at *
      go_wp2_with (at_builtin; refine wpList_app rfl (.tmp 11) (.tmp 17) st_strd rfl w.heap.size rfl hrow rfl hsl (by simp [Value.oneCell']) (by simp [maxLen]; omega) (by omega) hz ?_)
      intro A7 c7 w7 hown7 hg7 hf7
      have hb7 := hba.trans (grown_below hrow hg7 hz)
      rw [← HT.out] at hown7
      clear hg7 hf7 hrow hba hsl st hcr
      go_wp2_with fail
      go_light
      exact ⟨⟨k + 1, A7, c7, by omega, by go_num, rfl, hown7, hb7⟩, by simp [intOf]; omega⟩
    · obtain rfl : k = ls.length := by omega
      rw [List.take_length] at hown
      go_wp2_with fail
      go_ret
      exact ⟨A1, c1, rfl, hown, hb⟩
theorem sumT_take_succ' (l : List (List UInt8)) (k : Nat) (hk : k < l.length) : sumT (l.take (k + 1)) = sumT (l.take k) + takesN (l.getD k []).length := by
  rw [List.take_succ_eq_append_getElem hk, sumT_app, List.getD_eq_getElem?_getD, List.getElem?_eq_getElem hk]
  simp [sumT]
/-- a row of texts reads so -/
theorem ST_cell {w : World} {A : Option Addr} {n c : Nat} {l : List (List UInt8)} (h : Sl w 1 (.slice A n c) (STd l)) {k : Nat} (hk : k < n) : ∃ b off, A = some ⟨b, off, none⟩ ∧ b < w.heap.size ∧ w.cell? ⟨b, off + k, none⟩ = some (.string (S8 (l.getD k []))) := by
  obtain ⟨A', n', c', he, hl, _, _, hr⟩ := h
  injection he with h1 h2 h3
  subst h1; subst h2; subst h3
  obtain ⟨b, off, rfl, hlt, hc⟩ := hr (by omega)
  refine ⟨b, off, rfl, hlt, ?_⟩
  rw [hc k (by omega)]
  have hl2 : l.length = n := by simpa [STd] using hl
  simp only [STd, List.getElem?_map, List.getD_eq_getElem?_getD, List.getElem?_eq_getElem (show k < l.length by omega), Option.map_some, Option.getD_some]
theorem S8_inj {a b : List UInt8} (h : S8 a = S8 b) : a = b := by
  have := congrArg ByteArray.toList h
  rwa [S8_toList, S8_toList] at this
theorem S8_neq (a b : List UInt8) : ((S8 a).toList == (S8 b).toList) = decide (a = b) := by
  rw [S8_toList, S8_toList]
  by_cases h : a = b
  · subst h; simp
  · simp [h]
theorem sl_lens {w : World} {size : Nat} {A : Option Addr} {n c : Nat} {xs : List Value} (h : Sl w size (.slice A n c) xs) : xs.length = n * size ∧ n ≤ c ∧ c ≤ 9223372036854775807 := by
  obtain ⟨A', n', c', he, hl, h2, h3, hr⟩ := h
  injection he with h4 h5 h6
  subst h4; subst h5; subst h6
  exact ⟨hl, h2, by simpa [maxLen] using h3⟩
set_option maxRecDepth 100000 in
set_option maxHeartbeats 1600000 in
theorem refSame_any (w : World) (A1 : Option Addr) (n1 c1 : Nat) (A2 : Option Addr) (n2 c2 : Nat) (l1 l2 : List (List UInt8)) (h1 : Sl w 1 (.slice A1 n1 c1) (STd l1)) (h2 : Sl w 1 (.slice A2 n2 c2) (STd l2)) :
    Calls Try.prog 66 #[.slice A1 n1 c1, .slice A2 n2 c2] w fun e w' => e = .returned (.bool (decide (l1 = l2))) ∧ Below w.heap.size w w' := by
  have e1 : n1 = l1.length := by have := (sl_lens h1).1; simp [STd] at this; omega
  have e2 : n2 = l2.length := by have := (sl_lens h2).1; simp [STd] at this; omega
  have hc1 := (sl_lens h1).2
  have hc2 := (sl_lens h2).2
  subst e1; subst e2
  by_cases hl : l1.length = l2.length
  · go_enter Try.func66, Try.ntmps66
    go_wp2_with fail
    go_loopw [5] (fun i wr => ∃ k : Nat, k ≤ l1.length ∧ i = .int .i64 k ∧ (∀ m, m < k → l1.getD m [] = l2.getD m []) ∧ Below w.heap.size w wr) (fun i _ => l1.length - (intOf i).toNat)
    case atStart => exact ⟨0, Nat.zero_le _, rfl, fun m hm => absurd hm (by omega), Below.refl _ _⟩
    case round =>
      obtain ⟨k, hk, rfl, heq, hb⟩ := hrel
      by_cases hkn : k < l1.length
      · obtain ⟨b1, o1, rfl, hb1, q1⟩ := ST_cell h1 hkn
        obtain ⟨b2, o2, rfl, hbl2, q2⟩ := ST_cell h2 (k := k) (by omega)
        have r1 := (hb.cell (p := ⟨b1, o1 + k, none⟩) hb1).trans q1
        have r2 := (hb.cell (p := ⟨b2, o2 + k, none⟩) hbl2).trans q2
        have z1 := fun (z : WK (fun _ => False) wr) => (wat_cell (p := ⟨b1, o1 + k, none⟩) (Nat.lt_of_lt_of_le hb1 hb.size) (fun e => e) z).trans r1
        have z2 := fun (z : WK (fun _ => False) wr) => (wat_cell (p := ⟨b2, o2 + k, none⟩) (Nat.lt_of_lt_of_le hbl2 hb.size) (fun e => e) z).trans r2
        clear r1 r2
        have hne := S8_neq (l1.getD k []) (l2.getD k [])
        have HEQ := hid heq
        clear heq q1 q2 h1 h2
        generalize hx1 : l1.getD k [] = x1 at *
        generalize hx2 : l2.getD k [] = x2 at *
        have HX1 := hid hx1
        have HX2 := hid hx2
        clear hx1 hx2
        by_cases he : x1 = x2
        · have hne2 : ((S8 x1).toList == (S8 x2).toList) = true := by rw [hne]; simp [he]
          have HE := hid he
          clear he hne
          go_wp2_with fail
          refine wp_region_loud (fun _ => False) [] (fun _ => Fact.none) (by kernel_rfl) (by kernel_rfl) .nil good_nothing sat_none (WX.out ?_)
          repeat (first | (refine wx_quietU (by rfl) (by rfl) (by rfl) (fun K hK => ?_); go_big_quiet_op; refine hK _ ?_; clear hK K) | (refine wx_quietG (by rfl) (by rfl) (by rfl) (by rfl) (by rfl) (fun K hK => ?_); go_big_quiet_op; refine hK _ ?_; clear hK K) | (refine wx_skipG (by rfl) (by rfl) (by rfl) (fun K hK => ?_); go_simp; refine hK _ ?_; clear hK K) | (refine wx_skipN (by rfl) (by rfl) (by rfl) (fun K hK => ?_); go_simp; refine hK _ ?_; clear hK K))
          refine wx_nil fun w2 hsat => ?_
          have hb2 := hb.trans ((sat_below hsat).mono hb.size)
          clear hsat z1 z2
          go_wp2_with fail
          go_light
          refine ⟨⟨k + 1, by omega, by go_num, fun m hm => ?_, hb2⟩, by simp [intOf]; omega⟩
          rcases Nat.lt_succ_iff_lt_or_eq.1 hm with e | e
          · exact HEQ.out m e
          · rw [e, HX1.out, HX2.out, HE.out]
        · have hne2 : ((S8 x1).toList == (S8 x2).toList) = false := by rw [hne]; simp [he]
          have hd : decide (l1 = l2) = false := by
            refine decide_eq_false fun e => he ?_
            rw [← HX1.out, ← HX2.out, e]
          have HD := hid hd
          clear hne he hd
          go_wp2_with fail
          refine wp_region_loud (fun _ => False) [] (fun _ => Fact.none) (by kernel_rfl) (by kernel_rfl) .nil good_nothing sat_none (WX.out ?_)
          repeat (first | (refine wx_quietU (by rfl) (by rfl) (by rfl) (fun K hK => ?_); go_big_quiet_op; refine hK _ ?_; clear hK K) | (refine wx_quietG (by rfl) (by rfl) (by rfl) (by rfl) (by rfl) (fun K hK => ?_); go_big_quiet_op; refine hK _ ?_; clear hK K) | (refine wx_skipG (by rfl) (by rfl) (by rfl) (fun K hK => ?_); go_simp; refine hK _ ?_; clear hK K) | (refine wx_skipN (by rfl) (by rfl) (by rfl) (fun K hK => ?_); go_simp; refine hK _ ?_; clear hK K))
          refine wx_nil fun w2 hsat => ?_
          have hb2 := hb.trans ((sat_below hsat).mono hb.size)
          clear hsat z1 z2
          go_wp2_with fail
          go_ret
          rw [HD.out]
          exact ⟨rfl, hb2⟩
      · obtain rfl : k = l1.length := by omega
        have hd : decide (l1 = l2) = true := by
          refine decide_eq_true (List.ext_getElem hl fun m h3 h4 => ?_)
          have := heq m h3
          rwa [List.getD_eq_getElem?_getD, List.getD_eq_getElem?_getD, List.getElem?_eq_getElem h3, List.getElem?_eq_getElem h4] at this
        have HD := hid hd
        clear hd heq
        go_wp2_with fail
        go_ret
        rw [HD.out]
        exact ⟨rfl, hb⟩
  · have hd : decide (l1 = l2) = false := decide_eq_false fun e => hl (by rw [e])
    have HD := hid hd
    clear hd
    go_enter Try.func66, Try.ntmps66
    go_wp2_with fail
    go_ret
    rw [HD.out]
    exact ⟨rfl, Below.refl _ _⟩
set_option maxRecDepth 100000 in
set_option maxHeartbeats 1600000 in
theorem refSum_any (w : World) (A : Option Addr) (n c : Nat) (l : List (List UInt8)) (h : Sl w 1 (.slice A n c) (STd l)) (hn : l.length ≤ 1048576) (hl : ∀ x ∈ l, x.length ≤ 8193) :
    Calls Try.prog 71 #[.slice A n c] w fun e w' => e = .returned (.int .i64 (sumT l)) ∧ Below w.heap.size w w' := by
  have e1 : n = l.length := by have := (sl_lens h).1; simp [STd] at this; omega
  have hc1 := (sl_lens h).2
  subst e1
  go_enter Try.func71, Try.ntmps71
  go_wp2_with fail
  go_loopw [3, 4] (fun v i wr => ∃ k s : Nat, k ≤ l.length ∧ i = .int .i64 k ∧ v = .int .i64 s ∧ s = sumT (l.take k) ∧ s ≤ 130 * k ∧ Below w.heap.size w wr) (fun _ i _ => l.length - (intOf i).toNat)
  case atStart => exact ⟨0, 0, Nat.zero_le _, rfl, rfl, rfl, by omega, Below.refl _ _⟩
  case round =>
    obtain ⟨k, s, hk, rfl, rfl, hs, hs2, hb⟩ := hrel
    have HS := hid hs
    clear hs
    by_cases hkn : k < l.length
    · obtain ⟨b1, o1, rfl, hb1, q1⟩ := ST_cell h hkn
      have r1 := (hb.cell (p := ⟨b1, o1 + k, none⟩) hb1).trans q1
      have hx := hl (l.getD k []) (by rw [List.getD_eq_getElem?_getD, List.getElem?_eq_getElem hkn]; exact List.getElem_mem _)
      have hsz := S8_len (l.getD k [])
      have HST := hid (sumT_take_succ' l k hkn)
      clear q1 h
      generalize l.getD k [] = x at *
      have htk : takesN x.length ≤ 130 := by unfold takesN; omega
      go_wp2_with fail
      refine (refTakes_any x.length (by omega) wr).mono ?_
      rintro e w5 ⟨rfl, rfl⟩
      go_wp2_with fail
      go_light
      exact ⟨⟨k + 1, s + takesN x.length, by omega, by go_num, by go_num, by rw [HST.out, HS.out], by omega, hb⟩, by simp [intOf]; omega⟩
    · obtain rfl : k = l.length := by omega
      have HT : Hid (s = sumT l) := hid (by rw [HS.out, List.take_length])
      go_wp2_with fail
      go_ret
      rw [HT.out]
      exact ⟨rfl, hb⟩
def rightB (l : List (List UInt8)) : Bool := l.all fun x => decide (1 ≤ x.length ∧ x.length ≤ 8192)
theorem rightB_iff (l : List (List UInt8)) : rightB l = true ↔ ∀ x ∈ l, 1 ≤ x.length ∧ x.length ≤ 8192 := by simp [rightB]
set_option maxRecDepth 100000 in
set_option maxHeartbeats 1600000 in
theorem refRight_any' (w : World) (A : Option Addr) (n c : Nat) (l : List (List UInt8)) (h : Sl w 1 (.slice A n c) (STd l)) (hl : ∀ x ∈ l, x.length ≤ 1048576) :
    Calls Try.prog 72 #[.slice A n c] w fun e w' => e = .returned (.bool (rightB l)) ∧ Below w.heap.size w w' := by
  have e1 : n = l.length := by have := (sl_lens h).1; simp [STd] at this; omega
  have hc1 := (sl_lens h).2
  subst e1
  have HR := hid (rightB_iff l)
  go_enter Try.func72, Try.ntmps72
  go_wp2_with fail
  go_loopw [3] (fun i wr => ∃ k : Nat, k ≤ l.length ∧ i = .int .i64 k ∧ (∀ m, m < k → 1 ≤ (l.getD m []).length ∧ (l.getD m []).length ≤ 8192) ∧ Below w.heap.size w wr) (fun i _ => l.length - (intOf i).toNat)
  case atStart => exact ⟨0, Nat.zero_le _, rfl, fun m hm => absurd hm (by omega), Below.refl _ _⟩
  case round =>
    obtain ⟨k, hk, rfl, heq, hb⟩ := hrel
    have HEQ := hid heq
    clear heq
    by_cases hkn : k < l.length
    · obtain ⟨b1, o1, rfl, hb1, q1⟩ := ST_cell h hkn
      have r1 := (hb.cell (p := ⟨b1, o1 + k, none⟩) hb1).trans q1
      have hm : l.getD k [] ∈ l := by rw [List.getD_eq_getElem?_getD, List.getElem?_eq_getElem hkn]; exact List.getElem_mem _
      have hx := hl _ hm
      have hsz := S8_len (l.getD k [])
      clear q1 h hl
      generalize hgx : l.getD k [] = x at *
      have HGX := hid hgx
      clear hgx
      by_cases hok : 1 ≤ x.length ∧ x.length ≤ 8192
      · go_wp2_with fail
        go_light
        refine ⟨⟨k + 1, by omega, by go_num, fun m hm => ?_, hb⟩, by simp [intOf]; omega⟩
        rcases Nat.lt_succ_iff_lt_or_eq.1 hm with e | e
        · exact HEQ.out m e
        · rw [e, HGX.out]; exact hok
      · have HF : Hid (rightB l = false) := hid (by
          rw [Bool.eq_false_iff]
          intro e
          exact hok (HR.out.1 e x hm))
        by_cases hlo : x.length < 1
        · go_wp2_with fail
          go_ret
          rw [HF.out]
          exact ⟨rfl, hb⟩
        · have hhi : 8192 < x.length := by omega
          go_wp2_with fail
          go_ret
          rw [HF.out]
          exact ⟨rfl, hb⟩
    · obtain rfl : k = l.length := by omega
      have HT : Hid (rightB l = true) := hid (HR.out.2 (fun x hx => by
        obtain ⟨m, hm, e⟩ := List.getElem_of_mem hx
        have := HEQ.out m hm
        rw [List.getD_eq_getElem?_getD, List.getElem?_eq_getElem hm] at this
        rw [← e]; exact this))
      go_wp2_with fail
      go_ret
      rw [HT.out]
      exact ⟨rfl, hb⟩
end Go.Proofs.Ytfhlidlmipleaaa
namespace Go.Proofs.Ytfhlidlmipleaaa
set_option linter.unusedVariables false
set_option linter.unusedSimpArgs false
open Go Go.RowKit LM

/-- two rows of entries in one block -/
structure TwoAt (base : Nat) (w : World) (g : Nat) (L0 L1 : List (List UInt8)) (A0 : Option Addr) (c0 : Nat) (vs0 : List Value) (A1 : Option Addr) (c1 : Nat) (vs1 : List Value) (E : Nat → Prop) : Prop where
  blk : w.heap[g]? = some (.cells #[.slice A0 L0.length c0, .slice A1 L1.length c1] 126 (0, 0))
  r0 : w.ownsRow base 27 1 (.slice A0 L0.length c0) L0.length vs0
  r1 : w.ownsRow base 27 1 (.slice A1 L1.length c1) L1.length vs1
  e0 : Entv w vs0 L0 E
  e1 : Entv w vs1 L1 E
  gb : base ≤ g
  eb : ∀ b, E b → base ≤ b ∧ b < w.heap.size ∧ b ≠ g ∧ Value.ownBlock (.slice A0 L0.length c0) ≠ some b ∧ Value.ownBlock (.slice A1 L1.length c1) ≠ some b
  d0 : Value.ownBlock (.slice A0 L0.length c0) ≠ some g
  d1 : Value.ownBlock (.slice A1 L1.length c1) ≠ some g
  d01 : ∀ b, Value.ownBlock (.slice A0 L0.length c0) = some b → Value.ownBlock (.slice A1 L1.length c1) ≠ some b
def Pr2 (base : Nat) (w : World) (g : Nat) (L0 L1 : List (List UInt8)) (T : Nat → Prop) : Prop :=
  ∃ A0 c0 vs0 A1 c1 vs1 E, TwoAt base w g L0 L1 A0 c0 vs0 A1 c1 vs1 E ∧ ∀ b, T b ↔ (b = g ∨ Value.ownBlock (.slice A0 L0.length c0) = some b ∨ Value.ownBlock (.slice A1 L1.length c1) = some b ∨ E b)
theorem Pr2.lt {base : Nat} {w : World} {g : Nat} {L0 L1 : List (List UInt8)} {T : Nat → Prop} (h : Pr2 base w g L0 L1 T) : ∀ b, T b → base ≤ b ∧ b < w.heap.size := by
  obtain ⟨A0, c0, vs0, A1, c1, vs1, E, h, hT⟩ := h
  intro b hb
  rcases (hT b).1 hb with e | e | e | e
  · subst e; exact ⟨h.gb, (Array.getElem?_eq_some_iff.1 h.blk).1⟩
  · exact ⟨(h.r0.lt b e).1, (h.r0.lt b e).2⟩
  · exact ⟨(h.r1.lt b e).1, (h.r1.lt b e).2⟩
  · exact ⟨(h.eb b e).1, (h.eb b e).2.1⟩
theorem Pr2.kept {base : Nat} {w w' : World} {g : Nat} {L0 L1 : List (List UInt8)} {T S : Nat → Prop} (h : Pr2 base w g L0 L1 T) (hk : Kept S w w') (hS : ∀ b, T b → ¬ S b) : Pr2 base w' g L0 L1 T := by
  obtain ⟨A0, c0, vs0, A1, c1, vs1, E, h, hT⟩ := h
  have hs := hk.size
  exact ⟨A0, c0, vs0, A1, c1, vs1, E, ⟨blk_kept h.blk hk (hS g ((hT g).2 (.inl rfl))), ownsRow_kept h.r0 hk (fun b hb => hS b ((hT b).2 (.inr (.inl hb)))), ownsRow_kept h.r1 hk (fun b hb => hS b ((hT b).2 (.inr (.inr (.inl hb))))),
    h.e0.kept hk (fun b hb _ => hS b ((hT b).2 (.inr (.inr (.inr hb))))), h.e1.kept hk (fun b hb _ => hS b ((hT b).2 (.inr (.inr (.inr hb))))), h.gb, fun b hb => ⟨(h.eb b hb).1, by have := (h.eb b hb).2.1; omega, (h.eb b hb).2.2⟩, h.d0, h.d1, h.d01⟩, hT⟩
theorem Pr2.below {base : Nat} {w w' : World} {g : Nat} {L0 L1 : List (List UInt8)} {T : Nat → Prop} (h : Pr2 base w g L0 L1 T) (hb : Below w.heap.size w w') : Pr2 base w' g L0 L1 T := h.kept (S := fun _ => False) (Kept.of_below hb) (fun _ _ e => e)
theorem two_app0 {base : Nat} {wr w7 : World} {g : Nat} {L0 L1 : List (List UInt8)} {A0 : Option Addr} {c0 : Nat} {vs0 : List Value} {A1 : Option Addr} {c1 : Nat} {vs1 : List Value} {E : Nat → Prop} (h : TwoAt base wr g L0 L1 A0 c0 vs0 A1 c1 vs1 E) (hbase : base ≤ wr.heap.size) (l : List UInt8) (hl : l.length ≤ 9223372036854775807) {A7 : Option Addr} {c7 : Nat}
    (hown7 : w7.ownsRow base 27 1 (.slice A7 (L0.length + 1) c7) (L0.length + 1) (vs0 ++ [.slice (some ⟨wr.heap.size, 0, none⟩) l.length l.length]))
    (hg7 : ((wr.alloc (.cells (B8 l).toArray 5)).alloc (.cells #[.slice (some ⟨wr.heap.size, 0, none⟩) l.length l.length] 27)).grownBy w7 (Value.ownBlock (.slice A0 L0.length c0)))
    (hf7 : Value.ownBlock (.slice A7 (L0.length + 1) c7) = Value.ownBlock (.slice A0 L0.length c0) ∨ Value.ownBlock (.slice A7 (L0.length + 1) c7) = some ((wr.alloc (.cells (B8 l).toArray 5)).alloc (.cells #[.slice (some ⟨wr.heap.size, 0, none⟩) l.length l.length] 27)).heap.size) :
    ∃ vs E', TwoAt base (w7.setCell ⟨g, 0, none⟩ (.slice A7 (L0.length + 1) c7)) g (L0 ++ [l]) L1 A7 c7 vs A1 c1 vs1 E' ∧ Kept (fun b => base ≤ b) wr (w7.setCell ⟨g, 0, none⟩ (.slice A7 (L0.length + 1) c7)) ∧ w7.heap[g]? = some (.cells #[.slice A0 L0.length c0, .slice A1 L1.length c1] 126 (0, 0)) := by
  obtain ⟨hkA, hkB⟩ : Kept (fun _ => False) wr ((wr.alloc (.cells (B8 l).toArray 5)).alloc (.cells #[.slice (some ⟨wr.heap.size, 0, none⟩) l.length l.length] 27)) ∧ Sl ((wr.alloc (.cells (B8 l).toArray 5)).alloc (.cells #[.slice (some ⟨wr.heap.size, 0, none⟩) l.length l.length] 27)) 1 (.slice (some ⟨wr.heap.size, 0, none⟩) l.length l.length) (B8 l) :=
    ⟨((Kept.refl _ wr).alloc _).alloc _, (sl_mark wr l _ _ _ _ _ rfl rfl rfl hl).below ((Below.refl _ _).alloc (Nat.le_refl _) _)⟩
  have hsz6 : ((wr.alloc (.cells (B8 l).toArray 5)).alloc (.cells #[.slice (some ⟨wr.heap.size, 0, none⟩) l.length l.length] 27)).heap.size = wr.heap.size + 2 := by simp
  generalize ((wr.alloc (.cells (B8 l).toArray 5)).alloc (.cells #[.slice (some ⟨wr.heap.size, 0, none⟩) l.length l.length] 27)) = w6 at *
  have hk7 : Kept (fun b => Value.ownBlock (.slice A0 L0.length c0) = some b) w6 w7 := (Kept.of_row hg7).wider (fun b hb => hb.symm)
  have hs7 := hk7.size
  have hgl := (Array.getElem?_eq_some_iff.1 h.blk).1
  have hb7 : w7.heap[g]? = some (.cells #[.slice A0 L0.length c0, .slice A1 L1.length c1] 126 (0, 0)) := blk_kept (blk_kept h.blk hkA (fun e => e)) hk7 h.d0
  have hb8 := blk_set hb7 0 (.slice A7 (L0.length + 1) c7)
  simp at hb8
  have hk8 : Kept (fun b => b = g) w7 (w7.setCell ⟨g, 0, none⟩ (.slice A7 (L0.length + 1) c7)) := (Kept.refl (fun b => b = g) w7).setCell (p := ⟨g, 0, none⟩) (.inl rfl) _
  have hs8 := hk8.size
  have hnw : ∀ b, Value.ownBlock (.slice A7 (L0.length + 1) c7) = some b → Value.ownBlock (.slice A0 L0.length c0) = some b ∨ b = wr.heap.size + 2 := fun b hb => by
    rcases hf7 with e | e
    · exact .inl (e ▸ hb)
    · rw [hb] at e
      injection e with e
      exact .inr (by omega)
  have hngA : ∀ b, Value.ownBlock (.slice A7 (L0.length + 1) c7) = some b → b ≠ g := fun b hb e => by
    rcases hnw b hb with e2 | e2
    · exact h.d0 (e ▸ e2)
    · omega
  have hE : ∀ b, (E b ∨ b = wr.heap.size) → base ≤ b ∧ b < wr.heap.size + 1 ∧ b ≠ g ∧ Value.ownBlock (.slice A0 L0.length c0) ≠ some b ∧ Value.ownBlock (.slice A1 L1.length c1) ≠ some b := fun b hb => by
    rcases hb with e | e
    · obtain ⟨a1, a2, a3⟩ := h.eb b e
      exact ⟨a1, by omega, a3⟩
    · subst e
      exact ⟨hbase, by omega, by omega, fun e => by have := (h.r0.lt _ e).2; omega, fun e => by have := (h.r1.lt _ e).2; omega⟩
  have hsn : Entv w6 (vs0 ++ [.slice (some ⟨wr.heap.size, 0, none⟩) l.length l.length]) (L0 ++ [l]) (fun b => E b ∨ b = wr.heap.size) := by
    refine Entv.snoc ((h.e0.kept hkA (fun _ _ _ e => e)).weak (fun b hb => .inl hb)) ?_ hkB (fun h0 ad had => ?_)
    · have := h.r0.1; omega
    · injection had with had
      subst had
      exact .inr rfl
  have hoth : Entv w6 vs1 L1 (fun b => E b ∨ b = wr.heap.size) := (h.e1.kept hkA (fun _ _ _ e => e)).weak (fun b hb => .inl hb)
  have eL : (L0 ++ [l]).length = L0.length + 1 := by simp
  refine ⟨vs0 ++ [.slice (some ⟨wr.heap.size, 0, none⟩) l.length l.length], fun b => E b ∨ b = wr.heap.size, ⟨?_, ?_, ?_, ?_, ?_, h.gb, fun b hb => ?_, ?_, ?_, fun b hb => ?_⟩, ?_, hb7⟩
  · rw [eL]; exact hb8
  · rw [eL]; exact ownsRow_kept hown7 hk8 hngA
  · exact ownsRow_kept (ownsRow_kept (ownsRow_kept h.r1 hkA (fun _ _ e => e)) hk7 (fun b hb e => h.d01 b e hb)) hk8 (fun b hb e => h.d1 (e ▸ hb))
  · exact (hsn.kept hk7 (fun b hb _ => (hE b hb).2.2.2.1)).kept hk8 (fun b hb _ => (hE b hb).2.2.1)
  · exact (hoth.kept hk7 (fun b hb _ => (hE b hb).2.2.2.1)).kept hk8 (fun b hb _ => (hE b hb).2.2.1)
  · obtain ⟨a1, a2, a3, a4, a5⟩ := hE b hb
    refine ⟨a1, by omega, a3, fun e => ?_, a5⟩
    rw [eL] at e
    rcases hnw b e with e2 | e2
    · exact a4 e2
    · omega
  · rw [eL]; exact fun e => hngA g e rfl
  · exact h.d1
  · rw [eL] at hb
    rcases hnw b hb with e2 | e2
    · exact h.d01 b e2
    · exact fun e => by have := (h.r1.lt _ e).2; omega
  · refine (Kept.step (S := fun b => base ≤ b) (S0 := fun b => base ≤ b) (Kept.step (S0 := fun b => base ≤ b) (hkA.wider (fun _ e => e.elim)) (hk7.wider (S' := fun b => base ≤ b) (fun b hb => (h.r0.lt b hb).1)) (fun b hb => .inl hb)) (hk8.wider (fun b hb => by subst hb; exact h.gb)) (fun b hb => .inl hb))
theorem two_app1 {base : Nat} {wr w7 : World} {g : Nat} {L0 L1 : List (List UInt8)} {A0 : Option Addr} {c0 : Nat} {vs0 : List Value} {A1 : Option Addr} {c1 : Nat} {vs1 : List Value} {E : Nat → Prop} (h : TwoAt base wr g L0 L1 A0 c0 vs0 A1 c1 vs1 E) (hbase : base ≤ wr.heap.size) (l : List UInt8) (hl : l.length ≤ 9223372036854775807) {A7 : Option Addr} {c7 : Nat}
    (hown7 : w7.ownsRow base 27 1 (.slice A7 (L1.length + 1) c7) (L1.length + 1) (vs1 ++ [.slice (some ⟨wr.heap.size, 0, none⟩) l.length l.length]))
    (hg7 : ((wr.alloc (.cells (B8 l).toArray 5)).alloc (.cells #[.slice (some ⟨wr.heap.size, 0, none⟩) l.length l.length] 27)).grownBy w7 (Value.ownBlock (.slice A1 L1.length c1)))
    (hf7 : Value.ownBlock (.slice A7 (L1.length + 1) c7) = Value.ownBlock (.slice A1 L1.length c1) ∨ Value.ownBlock (.slice A7 (L1.length + 1) c7) = some ((wr.alloc (.cells (B8 l).toArray 5)).alloc (.cells #[.slice (some ⟨wr.heap.size, 0, none⟩) l.length l.length] 27)).heap.size) :
    ∃ vs E', TwoAt base (w7.setCell ⟨g, 1, none⟩ (.slice A7 (L1.length + 1) c7)) g L0 (L1 ++ [l]) A0 c0 vs0 A7 c7 vs E' ∧ Kept (fun b => base ≤ b) wr (w7.setCell ⟨g, 1, none⟩ (.slice A7 (L1.length + 1) c7)) ∧ w7.heap[g]? = some (.cells #[.slice A0 L0.length c0, .slice A1 L1.length c1] 126 (0, 0)) := by
  obtain ⟨hkA, hkB⟩ : Kept (fun _ => False) wr ((wr.alloc (.cells (B8 l).toArray 5)).alloc (.cells #[.slice (some ⟨wr.heap.size, 0, none⟩) l.length l.length] 27)) ∧ Sl ((wr.alloc (.cells (B8 l).toArray 5)).alloc (.cells #[.slice (some ⟨wr.heap.size, 0, none⟩) l.length l.length] 27)) 1 (.slice (some ⟨wr.heap.size, 0, none⟩) l.length l.length) (B8 l) :=
    ⟨((Kept.refl _ wr).alloc _).alloc _, (sl_mark wr l _ _ _ _ _ rfl rfl rfl hl).below ((Below.refl _ _).alloc (Nat.le_refl _) _)⟩
  have hsz6 : ((wr.alloc (.cells (B8 l).toArray 5)).alloc (.cells #[.slice (some ⟨wr.heap.size, 0, none⟩) l.length l.length] 27)).heap.size = wr.heap.size + 2 := by simp
  generalize ((wr.alloc (.cells (B8 l).toArray 5)).alloc (.cells #[.slice (some ⟨wr.heap.size, 0, none⟩) l.length l.length] 27)) = w6 at *
  have hk7 : Kept (fun b => Value.ownBlock (.slice A1 L1.length c1) = some b) w6 w7 := (Kept.of_row hg7).wider (fun b hb => hb.symm)
  have hs7 := hk7.size
  have hgl := (Array.getElem?_eq_some_iff.1 h.blk).1
  have hb7 : w7.heap[g]? = some (.cells #[.slice A0 L0.length c0, .slice A1 L1.length c1] 126 (0, 0)) := blk_kept (blk_kept h.blk hkA (fun e => e)) hk7 h.d1
  have hb8 := blk_set hb7 1 (.slice A7 (L1.length + 1) c7)
  simp at hb8
  have hk8 : Kept (fun b => b = g) w7 (w7.setCell ⟨g, 1, none⟩ (.slice A7 (L1.length + 1) c7)) := (Kept.refl (fun b => b = g) w7).setCell (p := ⟨g, 1, none⟩) (.inl rfl) _
  have hs8 := hk8.size
  have hnw : ∀ b, Value.ownBlock (.slice A7 (L1.length + 1) c7) = some b → Value.ownBlock (.slice A1 L1.length c1) = some b ∨ b = wr.heap.size + 2 := fun b hb => by
    rcases hf7 with e | e
    · exact .inl (e ▸ hb)
    · rw [hb] at e
      injection e with e
      exact .inr (by omega)
  have hngA : ∀ b, Value.ownBlock (.slice A7 (L1.length + 1) c7) = some b → b ≠ g := fun b hb e => by
    rcases hnw b hb with e2 | e2
    · exact h.d1 (e ▸ e2)
    · omega
  have hE : ∀ b, (E b ∨ b = wr.heap.size) → base ≤ b ∧ b < wr.heap.size + 1 ∧ b ≠ g ∧ Value.ownBlock (.slice A0 L0.length c0) ≠ some b ∧ Value.ownBlock (.slice A1 L1.length c1) ≠ some b := fun b hb => by
    rcases hb with e | e
    · obtain ⟨a1, a2, a3⟩ := h.eb b e
      exact ⟨a1, by omega, a3⟩
    · subst e
      exact ⟨hbase, by omega, by omega, fun e => by have := (h.r0.lt _ e).2; omega, fun e => by have := (h.r1.lt _ e).2; omega⟩
  have hsn : Entv w6 (vs1 ++ [.slice (some ⟨wr.heap.size, 0, none⟩) l.length l.length]) (L1 ++ [l]) (fun b => E b ∨ b = wr.heap.size) := by
    refine Entv.snoc ((h.e1.kept hkA (fun _ _ _ e => e)).weak (fun b hb => .inl hb)) ?_ hkB (fun h0 ad had => ?_)
    · have := h.r1.1; omega
    · injection had with had
      subst had
      exact .inr rfl
  have hoth : Entv w6 vs0 L0 (fun b => E b ∨ b = wr.heap.size) := (h.e0.kept hkA (fun _ _ _ e => e)).weak (fun b hb => .inl hb)
  have eL : (L1 ++ [l]).length = L1.length + 1 := by simp
  refine ⟨vs1 ++ [.slice (some ⟨wr.heap.size, 0, none⟩) l.length l.length], fun b => E b ∨ b = wr.heap.size, ⟨?_, ?_, ?_, ?_, ?_, h.gb, fun b hb => ?_, ?_, ?_, fun b hb => ?_⟩, ?_, hb7⟩
  · rw [eL]; exact hb8
  · exact ownsRow_kept (ownsRow_kept (ownsRow_kept h.r0 hkA (fun _ _ e => e)) hk7 (fun b hb e => h.d01 b hb e)) hk8 (fun b hb e => h.d0 (e ▸ hb))
  · rw [eL]; exact ownsRow_kept hown7 hk8 hngA
  · exact (hoth.kept hk7 (fun b hb _ => (hE b hb).2.2.2.2)).kept hk8 (fun b hb _ => (hE b hb).2.2.1)
  · exact (hsn.kept hk7 (fun b hb _ => (hE b hb).2.2.2.2)).kept hk8 (fun b hb _ => (hE b hb).2.2.1)
  · obtain ⟨a1, a2, a3, a4, a5⟩ := hE b hb
    refine ⟨a1, by omega, a3, a4, fun e => ?_⟩
    rw [eL] at e
    rcases hnw b e with e2 | e2
    · exact a5 e2
    · omega
  · exact h.d0
  · rw [eL]; exact fun e => hngA g e rfl
  · rw [eL]
    intro e
    rcases hnw b e with e2 | e2
    · exact h.d01 b hb e2
    · have := (h.r0.lt _ hb).2; omega
  · refine (Kept.step (S := fun b => base ≤ b) (S0 := fun b => base ≤ b) (Kept.step (S0 := fun b => base ≤ b) (hkA.wider (fun _ e => e.elim)) (hk7.wider (S' := fun b => base ≤ b) (fun b hb => (h.r1.lt b hb).1)) (fun b hb => .inl hb)) (hk8.wider (fun b hb => by subst hb; exact h.gb)) (fun b hb => .inl hb))
def entT (i m : Nat) : List (List UInt8) := (List.range m).map fun k => [UInt8.ofNat i, UInt8.ofNat k, 120]
theorem entT_succ (i m : Nat) : entT i (m + 1) = entT i m ++ [[UInt8.ofNat i, UInt8.ofNat m, 120]] := by simp [entT, List.range_succ]
theorem entT_len (i m : Nat) : (entT i m).length = m := by simp [entT]
theorem entT_ok (i m : Nat) : ∀ l ∈ entT i m, 1 ≤ l.length ∧ l.length ≤ 8192 := by
  intro l hl
  obtain ⟨k, _, rfl⟩ := List.mem_map.1 hl
  simp
theorem entT_sum (i m : Nat) : sumT (entT i m) = m := by
  induction m with
  | zero => rfl
  | succ m ih => rw [entT_succ, sumT_app, ih]; simp [sumT, takesN]
/-- Compact, whatever it meets -/
theorem compact_any (base n : Nat) (w : World) (D : Dk) (J : Jn) (j d : Nat) (I K : Nat → Prop) (h : Jd base w D J j d I K) (hF : FitJ D n) (hn : 4 ≤ n ∧ n ≤ 1000) (hbase : base ≤ w.heap.size) (hO : JOk J) (hg9 : J.gen < 9223372036854775806)
    (A : Option Addr) (na c : Nat) (vs : List Value) (ls : List (List UInt8)) (F : Nat → Prop) (hE : Ents w A na c vs ls F) (hna : na ≤ 1048576) (hA : 0 < na → ∀ ad, A = some ad → ¬ (I ad.block ∨ K ad.block)) (hFI : ∀ b, F b → ¬ (I b ∨ K b)) :
    Calls Try.prog 63 #[.pointer (some ⟨j, 0, none⟩), .slice A na c] w fun e w' => e = .returned (.int .i64 (compS D J ls).2.2) ∧ ∃ I' K', Stp base w w' (compS D J ls).1 (compS D J ls).2.1 j d I K I' K' := by
  by_cases hm : mayJ D J ls 0 = 0
  · exact compact_yes base n w D J j d I K h hF hn hbase hO hg9 A na c vs ls F hE hna hA hFI hm
  · have hc : compS D J ls = (D, J, mayJ D J ls 0) := by unfold compS; rw [if_pos hm]
    rw [hc]
    refine (compact_no base n w D J j d I K h hF hn A na c vs ls F hE hna hm).mono ?_
    rintro e w' ⟨rfl, rfl⟩
    exact ⟨rfl, I, K, Stp.refl h⟩
/-- what a row of two hands to a reader -/
theorem Pr2.fst {base : Nat} {w : World} {g : Nat} {L0 L1 : List (List UInt8)} {T : Nat → Prop} (h : Pr2 base w g L0 L1 T) : ∃ A c vs, w.cell? ⟨g, 0, none⟩ = some (.slice A L0.length c) ∧ Ents w A L0.length c vs L0 T ∧ (0 < L0.length → ∀ ad, A = some ad → T ad.block) := by
  obtain ⟨A0, c0, vs0, A1, c1, vs1, E, h, hT⟩ := h
  have hq := (blk_cells h.blk).1 0
  simp at hq
  refine ⟨A0, c0, vs0, hq, ⟨own_sl h.r0, rfl, fun k hk => ?_⟩, fun h0 ad had => ?_⟩
  · obtain ⟨A', n', c', a, b, c⟩ := h.e0 k hk
    exact ⟨A', n', c', a, b, fun h0 ad had => (hT _).2 (.inr (.inr (.inr (c h0 ad had))))⟩
  · subst had
    obtain ⟨g', e, _⟩ := own_some h.r0 h0
    injection e with e
    subst e
    exact (hT _).2 (.inr (.inl rfl))
theorem Pr2.snd {base : Nat} {w : World} {g : Nat} {L0 L1 : List (List UInt8)} {T : Nat → Prop} (h : Pr2 base w g L0 L1 T) : ∃ A c vs, w.cell? ⟨g, 1, none⟩ = some (.slice A L1.length c) ∧ Ents w A L1.length c vs L1 T ∧ (0 < L1.length → ∀ ad, A = some ad → T ad.block) := by
  obtain ⟨A0, c0, vs0, A1, c1, vs1, E, h, hT⟩ := h
  have hq := (blk_cells h.blk).1 1
  simp at hq
  refine ⟨A1, c1, vs1, hq, ⟨own_sl h.r1, rfl, fun k hk => ?_⟩, fun h0 ad had => ?_⟩
  · obtain ⟨A', n', c', a, b, c⟩ := h.e1 k hk
    exact ⟨A', n', c', a, b, fun h0 ad had => (hT _).2 (.inr (.inr (.inr (c h0 ad had))))⟩
  · subst had
    obtain ⟨g', e, _⟩ := own_some h.r1 h0
    injection e with e
    subst e
    exact (hT _).2 (.inr (.inr (.inl rfl)))
end Go.Proofs.Ytfhlidlmipleaaa
namespace Go.Proofs.Ytfhlidlmipleaaa
set_option linter.unusedVariables false
set_option linter.unusedSimpArgs false
open Go Go.RowKit LM

def tFirst : List UInt8 := [102, 105, 114, 115, 116]
def tMore : List UInt8 := [109, 111, 114, 101]
/-- the disk and the journal behind the first entry -/
def tD1 : Dk := (appS (beginD (newD 42)) jn0 tFirst).1
def tJ1 : Jn := ⟨1, 0, [tFirst], 1, false⟩
theorem one_rest {gen idx : Nat} {l : List UInt8} (h : takesN l.length = 1) : ∀ k, 1 ≤ k → k < takesN l.length → Dead (chunk (frameJ gen idx l) k) := fun k h1 h2 => by omega
theorem app_quiet {D : Dk} {J : Jn} {n : Nat} (h : Inv D J n) (hn : 4 ≤ n ∧ n ≤ 1000) (hq : Quiet D) {l : List UInt8} (hm : mayJ D J [l] J.used = 0) (h1 : takesN l.length = 1) : (appS D J l).2 = (addJ J l, 0) ∧ Inv (appS D J l).1 (addJ J l) n ∧ Quiet (appS D J l).1 := by
  obtain ⟨a, b, c⟩ := hq.app h.frm.ok.half (by rw [h.fit.len]; omega) (by rw [h.size]; exact h.frm.room) hm
  rcases app_law h hn l hm (one_rest h1) with ⟨e1, e2⟩ | ⟨e1, _⟩
  · exact ⟨a, e2, b⟩
  · rw [a] at e1
    cases e1
theorem comp_quiet {D : Dk} {J : Jn} {n : Nat} (h : Inv D J n) (hn : 4 ≤ n ∧ n ≤ 1000) (hg : J.gen < 1099511627775) (hq : Quiet D) {ls : List (List UInt8)} (hm : mayJ D J ls 0 = 0) : (compS D J ls).2 = (packJ J ls, 0) ∧ Inv (compS D J ls).1 (packJ J ls) n ∧ Quiet (compS D J ls).1 := by
  obtain ⟨a, b⟩ := hq.comp h.frm.ok.half (by rw [h.fit.len]; omega) hm
  rcases comp_law h hn hg ls hm with ⟨e1, e2, _⟩ | ⟨e1, _⟩
  · exact ⟨e1, e2, b⟩
  · rw [a] at e1
    cases e1
theorem tries_one : (appS (beginD (newD 42)) jn0 tFirst).2 = (tJ1, 0) ∧ Inv tD1 tJ1 42 ∧ Quiet tD1 := by
  have h := inv_begin 42 (by omega)
  have hm : mayJ (beginD (newD 42)) jn0 [tFirst] jn0.used = 0 := by
    rw [h.may]
    exact mayL_ok _ _ _ (by simp [tFirst]) (by decide)
  exact app_quiet h (by omega) (quiet_begin 42 (by omega)).1 hm (by rfl)
/-- the compaction in which power goes -/
theorem tries_stop (y : Nat) (hy : y < 21) (i m : Nat) (hm : m ≤ 9) : (compS (armD tD1 y) tJ1 (entT i m)).2.2 = 2 ∧ FitK (compS (armD tD1 y) tJ1 (entT i m)).1 42 ∧ ∀ kl, Inv (crashD (compS (armD tD1 y) tJ1 (entT i m)).1 kl) tJ1 42 := by
  obtain ⟨h, ha⟩ := tries_one.2.1.arm (y : Int)
  have hmy : mayJ (armD tD1 y) tJ1 (entT i m) 0 = 0 := by
    rw [h.may]
    exact mayL_ok _ _ _ (entT_ok i m) (by rw [entT_sum]; omega)
  have hn : ¬ ((armD tD1 (y : Int)).armed < 0 ∨ ((42 - 2) / 2 : Nat) < (armD tD1 (y : Int)).armed) := by rw [ha]; omega
  rcases comp_law h (by omega) (by decide) (entT i m) hmy with ⟨_, _, e⟩ | ⟨e1, e2, e3 | ⟨e, _⟩⟩
  · exact absurd e hn
  · exact ⟨e1, e2, e3⟩
  · exact absurd e hn
def tJ2 (m : Nat) : Jn := packJ tJ1 (entT 1 m)
theorem tries_two {D : Dk} (h : Inv D tJ1 42) (hq : Quiet D) (m : Nat) (hm : m ≤ 9) : (compS D tJ1 (entT 1 m)).2 = (tJ2 m, 0) ∧ Inv (compS D tJ1 (entT 1 m)).1 (tJ2 m) 42 ∧ Quiet (compS D tJ1 (entT 1 m)).1 :=
  comp_quiet h (by omega) (by decide) hq (by
    rw [h.may]
    exact mayL_ok _ _ _ (entT_ok 1 m) (by rw [entT_sum]; omega))
theorem tries_three {D : Dk} {m : Nat} (h : Inv D (tJ2 m) 42) (hq : Quiet D) (hm : m ≤ 9) : (appS D (tJ2 m) tMore).2 = (addJ (tJ2 m) tMore, 0) ∧ Inv (appS D (tJ2 m) tMore).1 (addJ (tJ2 m) tMore) 42 ∧ Quiet (appS D (tJ2 m) tMore).1 :=
  app_quiet h (by omega) hq (by
    rw [h.may]
    have e : (tJ2 m).used = m := entT_sum 1 m
    refine mayL_ok _ _ _ (by simp [tMore]) ?_
    rw [e]
    simp [sumT, takesN, tMore]
    omega) (by rfl)
theorem Inv.opens {D : Dk} {J : Jn} {n : Nat} (h : Inv D J n) (hn : 4 ≤ n) (base : Nat) (w : World) (d : Nat) (I : Nat → Prop) (hd : Dsk base w D d I) (hbase : base ≤ w.heap.size) (hn2 : n ≤ 1000) :
    Calls Try.prog 64 #[.pointer (some ⟨d, 0, none⟩)] w fun e w' => ∃ j K, e = .returned (.tuple #[.pointer (some ⟨j, 0, none⟩), .int .i64 0]) ∧ Jd base w' D J j d I K ∧ (∀ b, K b → w.heap.size ≤ b) ∧ Below w.heap.size w w' := by
  have hc := h.cur hn
  have hg := h.g1
  have hl := h.fit.len
  refine (open_any base w D d I hd hbase (by omega) h.on (by rw [hc]; simp only []; omega) (by rw [hc]; simp only []; omega)).mono ?_
  rintro e w' ⟨j, K, rfl, hjd, hK, _, _, hb⟩
  rw [h.open hn] at hjd
  exact ⟨j, K, rfl, hjd, hK, hb⟩
set_option maxRecDepth 100000 in
set_option maxHeartbeats 12800000 in
theorem journalTries_walk (x0 x1 xf : Int) (Ka : Option Addr) (nk ck : Nat) (kl : List Bool) (w : World)
    (hK : Sl w 1 (.slice Ka nk ck) (BO kl)) :
    Calls Try.prog 10 #[.agg #[.int .i64 x0, .int .i64 x1], .int .i64 xf, .slice Ka nk ck] w fun e w' => e = .returned (.bool true) ∧ Below w.heap.size w w' := by
  obtain ⟨y0, hy0, ey0'⟩ := modU x0 9 (by omega) (by omega)
  obtain ⟨y1, hy1, ey1'⟩ := modU x1 9 (by omega) (by omega)
  obtain ⟨yf, hyf, eyf'⟩ := modU xf 21 (by omega) (by omega)
  have ey0 : wrap64 ((IntKind.u64.wrap x0).tmod 9) = (y0 : Int) := ey0'
  have ey1 : wrap64 ((IntKind.u64.wrap x1).tmod 9) = (y1 : Int) := ey1'
  have eyf : wrap64 ((IntKind.u64.wrap xf).tmod 21) = (yf : Int) := eyf'
  clear ey0' ey1' eyf'
  obtain ⟨n0, hn0⟩ : ∃ n0, 1 + y0 = n0 := ⟨_, rfl⟩
  obtain ⟨n1, hn1⟩ : ∃ n1, 1 + y1 = n1 := ⟨_, rfl⟩
  have en0 : 1 + (y0 : Int) = (n0 : Int) := by omega
  have en1 : 1 + (y1 : Int) = (n1 : Int) := by omega
  have hn09 : 1 ≤ n0 ∧ n0 ≤ 9 := by omega
  have hn19 : 1 ≤ n1 ∧ n1 ≤ 9 := by omega
  clear hn0 hn1 hy0 hy1
  have hba := (Below.refl w.heap.size w).alloc (Nat.le_refl _) (.cells #[.int .i64 x0, .int .i64 x1] 79)
  have b0 : (w.alloc (.cells #[.int .i64 x0, .int .i64 x1] 79)).cell? ⟨w.heap.size, 0, none⟩ = some (.int .i64 x0) := by rw [World.cell?_alloc_at _ _ _ _ rfl]; rfl
  have b1 : (w.alloc (.cells #[.int .i64 x0, .int .i64 x1] 79)).cell? ⟨w.heap.size, 1, none⟩ = some (.int .i64 x1) := by rw [World.cell?_alloc_at _ _ _ _ rfl]; rfl
  have hsa : (w.alloc (.cells #[.int .i64 x0, .int .i64 x1] 79)).heap.size = w.heap.size + 1 := by simp
  have hK' := hK.below hba
  have hKb : ∀ ad, 0 < nk → Ka = some ad → ad.block < w.heap.size := fun ad h0 had => by
    obtain ⟨A', n', c', he, _, _, _, hr⟩ := hK
    injection he with h4 h5 h6
    subst h4; subst h5; subst h6
    obtain ⟨b, off, rfl, hb, _⟩ := hr h0
    injection had with had
    subst had
    exact hb
  have kc := fun (w : World) (C : Array Value) (n c : Nat) => Lib.run_convert_bytes_const (P := Try.prog) w 27 5 C n c Try.underlying27 Try.underlying5
  go_enter Try.func10, Try.ntmps10
  go_wp2_with fail
  generalize hwa : w.alloc (.cells #[.int .i64 x0, .int .i64 x1] 79) = wa at *
  have HWA := hid hwa
  have HSA := hid hsa
  clear hwa hsa
  refine (newDsk 42 wa (by omega) (by omega)).mono ?_
  rintro e w1 ⟨d, I, rfl, hd, hb1⟩
  go_wp2_with fail
  refine (begin_new wa.heap.size 42 w1 d I hd hb1.size (by omega)).mono ?_
  rintro e w2 ⟨j, I2, K2, rfl, hjd2, hK2, hI2, hk2'⟩
  have hs1 := hb1.size
  have hb2 : Below wa.heap.size wa w2 := hb1.trans (hk2'.below_of hs1 (fun b hb => (hd.bd b hb).1))
  have hF2 : FitJ (beginD (newD 42)) 42 := ((fitJ_new 42).write _ _).sure _ _
  obtain ⟨t1, tI, tQ⟩ := tries_one
  have t12 : (appS (beginD (newD 42)) jn0 tFirst).2.2 = 0 := by rw [t1]
  have t11 : (appS (beginD (newD 42)) jn0 tFirst).2.1 = tJ1 := by rw [t1]
  have T1 := hid t1
  clear hd hb1 hk2' t1
  go_wp2_with fail
  refine (stays_any w2).mono ?_
  rintro e w3 ⟨rfl, hb3⟩
  have hs2 := hb2.size
  have hjd3 := hjd2.below hb3
  have hb3' := hb2.trans (hb3.mono hs2)
  have hs3 := hb3'.size
  have hsl : Sl (w3.alloc (.cells #[.int .u8 102, .int .u8 105, .int .u8 114, .int .u8 115, .int .u8 116] 5 (5, 6))) 1 (.slice (some ⟨w3.heap.size, 0, none⟩) 5 5) (B8 tFirst) := sl_mark _ _ _ _ _ _ _ rfl rfl rfl (by simp [tFirst])
  have hbx := (Below.refl w3.heap.size w3).alloc (Nat.le_refl _) (.cells #[.int .u8 102, .int .u8 105, .int .u8 114, .int .u8 115, .int .u8 116] 5 (5, 6))
  have hjd4 := hjd3.below hbx
  have hb4 := hb3'.trans (hbx.mono hs3)
  have hgn : ¬ (I2 w3.heap.size ∨ K2 w3.heap.size) := fun e => by have := (hjd3.lt _ e).2; omega
  have hs4 := hb4.size
  clear hjd2 hjd3 hb2 hb3 hbx hb3' hK2 hI2
  go_wp2_with fail
  generalize hw4 : w3.alloc (.cells #[.int .u8 102, .int .u8 105, .int .u8 114, .int .u8 115, .int .u8 116] 5 (5, 6)) = w4 at *
  generalize w3.heap.size = g3 at *
  refine (append_any wa.heap.size 42 w4 (beginD (newD 42)) jn0 j d I2 K2 hjd4 hF2 (by omega) hs4 ⟨by decide, by decide, by decide, by decide, by simp [jn0]⟩ g3 0 5 5 tFirst hsl hgn).mono ?_
  rintro e w5 ⟨rfl, I5, K5, s5⟩
  rw [t12]
  rw [t11] at s5
  have hjd5 : Jd wa.heap.size w5 tD1 tJ1 j d I5 K5 := s5.jd
  have hb5 : Below wa.heap.size wa w5 := hb4.trans (s5.kp.below_of hs4 (fun b hb => (hjd4.lt b hb).1))
  clear hw4 hsl hgn hjd4 hb4 s5 t12 t11 hF2
  have hs5 := hb5.size
  have p0 := (hb5.cell (p := ⟨w.heap.size, 0, none⟩) (by have := HSA.out; show w.heap.size < wa.heap.size; omega)).trans b0
  have p1 := (hb5.cell (p := ⟨w.heap.size, 1, none⟩) (by have := HSA.out; show w.heap.size < wa.heap.size; omega)).trans b1
  have hP5 : Pr2 w5.heap.size (w5.alloc (.cells #[.slice none 0 0, .slice none 0 0] 126)) w5.heap.size [] [] (fun b => b = w5.heap.size) :=
    ⟨none, 0, [], none, 0, [], fun _ => False, ⟨heap_alloc_new w5 _, World.ownsRow_nil _ _ _ _, World.ownsRow_nil _ _ _ _, fun k hk => absurd hk (by simp), fun k hk => absurd hk (by simp), Nat.le_refl _, fun _ e => e.elim, by simp [Value.ownBlock], by simp [Value.ownBlock], by simp [Value.ownBlock]⟩, fun b => by simp [Value.ownBlock]⟩
  have hbz := (Below.refl w5.heap.size w5).alloc (Nat.le_refl _) (.cells #[.slice none 0 0, .slice none 0 0] 126)
  go_wp2_with fail
  generalize hw6 : w5.alloc (.cells #[.slice none 0 0, .slice none 0 0] 126) = w6 at *
  clear hw6
  obtain ⟨g, hg⟩ : ∃ g, w5.heap.size = g := ⟨_, rfl⟩
  have hP6 : Pr2 w5.heap.size w6 g [] [] (fun b => b = w5.heap.size) := by rw [← hg]; exact hP5
  rw [hg]
  have HG := hid hg
  clear hg hP5
  go_loopw [12] (fun v wr => ∃ (m : Nat) (T : Nat → Prop), m ≤ 2 ∧ v = .int .i64 m ∧ Pr2 w5.heap.size wr g (entT 0 (if 1 ≤ m then n0 else 0)) (entT 1 (if 2 ≤ m then n1 else 0)) T ∧ Below w5.heap.size w5 wr) (fun v _ => 2 - (intOf v).toNat)
  case atStart => exact ⟨0, _, Nat.zero_le _, rfl, hP6, hbz⟩
  case round =>
    clear hP6 hbz
    obtain ⟨m, T, hm, rfl, hP, hb⟩ := hrel
    rcases (by omega : m = 0 ∨ m = 1 ∨ m = 2) with rfl | rfl | rfl
    · simp only [Nat.not_succ_le_zero, if_false, show ¬ (2 ≤ 0) by omega] at hP
      rw [show (((0 : Nat) : Int)) = 0 from rfl]
      have hcell := (hb.cell (p := ⟨w.heap.size, 0, none⟩) (by have := HSA.out; have := hs5; show w.heap.size < w5.heap.size; omega)).trans p0
      go_wp2_with fail
      go_loopw [13] (fun v wr => ∃ (k : Nat) (T : Nat → Prop), k ≤ n0 ∧ v = .int .i64 k ∧ Pr2 w5.heap.size wr g (entT 0 k) [] T ∧ Below w5.heap.size w5 wr) (fun v _ => n0 - (intOf v).toNat)
      case atStart => exact ⟨0, T, Nat.zero_le _, rfl, by simpa [entT] using hP, hb⟩
      case round =>
        clear hP hcell
        obtain ⟨k, T, hk, rfl, hP, hb⟩ := hrel
        have hcell := (hb.cell (p := ⟨w.heap.size, 0, none⟩) (by have := HSA.out; have := hs5; show w.heap.size < w5.heap.size; omega)).trans p0
        by_cases hkc : k < n0
        · obtain ⟨A0, k0, vs0, A1, k1, vs1, E, hA, hT⟩ := hP
          have hq := (blk_cells hA.blk).1
          have hfz := (blk_cells hA.blk).2
          have q0 := hq 0
          simp at q0
          have hl1 := own_lens hA.r0
          have hbs := hb.size
          have hgl := (Array.getElem?_eq_some_iff.1 hA.blk).1
          have hkl : (UInt8.ofNat k).toNat = k := by simp; omega
          obtain ⟨el, hel⟩ : ∃ el : List UInt8, [UInt8.ofNat 0, UInt8.ofNat k, 120] = el := ⟨_, rfl⟩
          have hel2 : (B8 el).toArray = #[.int .u8 0, .int .u8 (k : Int), .int .u8 120] := by rw [← hel]; simp [B8, hkl]
          have hel3 : el.length = 3 := by rw [← hel]; rfl
          have HEL := hid hel
          clear hel hq hkl
          have H0 := fun (A7 : Option Addr) (c7 : Nat) (w7 : World) (h7 : w7.ownsRow w5.heap.size 27 1 (.slice A7 ((entT 0 k).length + 1) c7) ((entT 0 k).length + 1) (vs0 ++ [.slice (some ⟨wr.heap.size, 0, none⟩) el.length el.length])) h8 h9 => two_app0 hA hbs el (by omega) h7 h8 h9
          rw [hel2, hel3] at H0
          rw [entT_len] at H0 q0 hl1
          have hown := hA.r0
          rw [entT_len] at hown
          have hrow := (hown.alloc (.cells #[.int .u8 0, .int .u8 (k : Int), .int .u8 120] 5)).alloc (.cells #[.slice (some ⟨wr.heap.size, 0, none⟩) 3 3] 27)
          have hsl : Sl ((wr.alloc (.cells #[.int .u8 0, .int .u8 (k : Int), .int .u8 120] 5)).alloc (.cells #[.slice (some ⟨wr.heap.size, 0, none⟩) 3 3] 27)) 1 (.slice (some ⟨wr.heap.size + 1, 0, none⟩) 1 1) [.slice (some ⟨wr.heap.size, 0, none⟩) 3 3] := by
            refine ⟨_, _, _, rfl, by simp, Nat.le_refl _, by simp [maxLen], fun _ => ⟨wr.heap.size + 1, 0, rfl, by simp, fun i hi => ?_⟩⟩
            obtain rfl : i = 0 := by omega
            rw [World.cell?_alloc_at _ _ _ _ (by simp)]
            rfl
          have HA := hid hA
          clear hown hA hT hel2 hel3 hfz
          go_wp2_with (at_builtin; refine wpList_app rfl (.tmp 64) (.tmp 70) st_rows rfl w5.heap.size rfl hrow rfl hsl (by simp [Value.oneCell']) (by simp [maxLen]; omega) (by omega) (by simp; omega) ?_)
          intro A7 c7 w7 hown7 hg7 hf7
          obtain ⟨vs7, E7, hA7, hk7, hblk7⟩ := H0 A7 c7 w7 hown7 hg7 (by rcases hf7 with e | e; exact .inl e; exact .inr (by rw [e]; simp))
          obtain ⟨cc7, ff7⟩ := blk_cells hblk7
          have cq := cc7 0
          simp at cq
          rw [HEL.out.symm, ← entT_succ] at hA7
          have hb7 : Below w5.heap.size w5 _ := hb.trans (hk7.below_of hb.size (fun b hb => hb))
          have HA7 := hid hA7
          clear hA7 hk7 hblk7 cc7 hown7 hg7 hf7 H0 HA hrow hsl hcell q0 hb HEL
          go_wp2_with fail
          go_light
          exact ⟨⟨k + 1, _, by omega, by go_num, ⟨_, _, _, _, _, _, _, HA7.out, fun b => Iff.rfl⟩, hb7⟩, by simp [intOf]; omega⟩
        · obtain rfl : k = n0 := by omega
          go_wp2_with fail
          go_light
          exact ⟨⟨0 + 1, T, by omega, by go_num, by simpa [entT] using hP, hb⟩, by simp [intOf]⟩
    · simp only [if_true, Nat.le_refl, if_false, show ¬ (2 ≤ 1) by omega] at hP
      rw [show (((1 : Nat) : Int)) = 1 from rfl]
      have hcell := (hb.cell (p := ⟨w.heap.size, 1, none⟩) (by have := HSA.out; have := hs5; show w.heap.size < w5.heap.size; omega)).trans p1
      go_wp2_with fail
      go_loopw [13] (fun v wr => ∃ (k : Nat) (T : Nat → Prop), k ≤ n1 ∧ v = .int .i64 k ∧ Pr2 w5.heap.size wr g (entT 0 n0) (entT 1 k) T ∧ Below w5.heap.size w5 wr) (fun v _ => n1 - (intOf v).toNat)
      case atStart => exact ⟨0, T, Nat.zero_le _, rfl, by simpa [entT] using hP, hb⟩
      case round =>
        clear hP hcell
        obtain ⟨k, T, hk, rfl, hP, hb⟩ := hrel
        have hcell := (hb.cell (p := ⟨w.heap.size, 1, none⟩) (by have := HSA.out; have := hs5; show w.heap.size < w5.heap.size; omega)).trans p1
        by_cases hkc : k < n1
        · obtain ⟨A0, k0, vs0, A1, k1, vs1, E, hA, hT⟩ := hP
          have hq := (blk_cells hA.blk).1
          have hfz := (blk_cells hA.blk).2
          have q0 := hq 1
          simp at q0
          have hl1 := own_lens hA.r1
          have hbs := hb.size
          have hgl := (Array.getElem?_eq_some_iff.1 hA.blk).1
          have hkl : (UInt8.ofNat k).toNat = k := by simp; omega
          obtain ⟨el, hel⟩ : ∃ el : List UInt8, [UInt8.ofNat 1, UInt8.ofNat k, 120] = el := ⟨_, rfl⟩
          have hel2 : (B8 el).toArray = #[.int .u8 1, .int .u8 (k : Int), .int .u8 120] := by rw [← hel]; simp [B8, hkl]
          have hel3 : el.length = 3 := by rw [← hel]; rfl
          have HEL := hid hel
          clear hel hq hkl
          have H0 := fun (A7 : Option Addr) (c7 : Nat) (w7 : World) (h7 : w7.ownsRow w5.heap.size 27 1 (.slice A7 ((entT 1 k).length + 1) c7) ((entT 1 k).length + 1) (vs1 ++ [.slice (some ⟨wr.heap.size, 0, none⟩) el.length el.length])) h8 h9 => two_app1 hA hbs el (by omega) h7 h8 h9
          rw [hel2, hel3] at H0
          rw [entT_len] at H0 q0 hl1
          have hown := hA.r1
          rw [entT_len] at hown
          have hrow := (hown.alloc (.cells #[.int .u8 1, .int .u8 (k : Int), .int .u8 120] 5)).alloc (.cells #[.slice (some ⟨wr.heap.size, 0, none⟩) 3 3] 27)
          have hsl : Sl ((wr.alloc (.cells #[.int .u8 1, .int .u8 (k : Int), .int .u8 120] 5)).alloc (.cells #[.slice (some ⟨wr.heap.size, 0, none⟩) 3 3] 27)) 1 (.slice (some ⟨wr.heap.size + 1, 0, none⟩) 1 1) [.slice (some ⟨wr.heap.size, 0, none⟩) 3 3] := by
            refine ⟨_, _, _, rfl, by simp, Nat.le_refl _, by simp [maxLen], fun _ => ⟨wr.heap.size + 1, 0, rfl, by simp, fun i hi => ?_⟩⟩
            obtain rfl : i = 0 := by omega
            rw [World.cell?_alloc_at _ _ _ _ (by simp)]
            rfl
          have HA := hid hA
          clear hown hA hT hel2 hel3 hfz
          go_wp2_with (at_builtin; refine wpList_app rfl (.tmp 64) (.tmp 70) st_rows rfl w5.heap.size rfl hrow rfl hsl (by simp [Value.oneCell']) (by simp [maxLen]; omega) (by omega) (by simp; omega) ?_)
          intro A7 c7 w7 hown7 hg7 hf7
          obtain ⟨vs7, E7, hA7, hk7, hblk7⟩ := H0 A7 c7 w7 hown7 hg7 (by rcases hf7 with e | e; exact .inl e; exact .inr (by rw [e]; simp))
          obtain ⟨cc7, ff7⟩ := blk_cells hblk7
          have cq := cc7 1
          simp at cq
          rw [HEL.out.symm, ← entT_succ] at hA7
          have hb7 : Below w5.heap.size w5 _ := hb.trans (hk7.below_of hb.size (fun b hb => hb))
          have HA7 := hid hA7
          clear hA7 hk7 hblk7 cc7 hown7 hg7 hf7 H0 HA hrow hsl hcell q0 hb HEL
          go_wp2_with fail
          go_light
          exact ⟨⟨k + 1, _, by omega, by go_num, ⟨_, _, _, _, _, _, _, HA7.out, fun b => Iff.rfl⟩, hb7⟩, by simp [intOf]; omega⟩
        · obtain rfl : k = n1 := by omega
          go_wp2_with fail
          go_light
          exact ⟨⟨1 + 1, T, by omega, by go_num, by simpa [entT] using hP, hb⟩, by simp [intOf]⟩
    · simp only [if_true, Nat.le_refl, show (1 ≤ 2) by omega] at hP
      have hjd6 := hjd5.below (hb.mono (Nat.le_refl _))
      have hbs := hb.size
      have hbw : Below wa.heap.size wa wr := hb5.trans (hb.mono hs5)
      have hsw := hbw.size
      have hT : ∀ b, T b → ¬ (I5 b ∨ K5 b) := fun b hb e => by
        have := (hP.lt b hb).1
        have := (hjd5.lt b e).2
        omega
      clear hjd5 hb5 hb p0 p1 b0 b1
      obtain ⟨t2, tF, tK⟩ := tries_stop yf hyf 0 n0 hn09.2
      have hFa : FitJ (armD tD1 (yf : Int)) 42 := (tI.arm yf).1.fit.fit
      have hO1 : JOk tJ1 := tI.frm.ok
      go_wp2_with fail
      refine (dsk_arm wa.heap.size wr tD1 d I5 yf hjd6.dk (by omega)).mono ?_
      rintro e w8 ⟨rfl, I8, hd8, ht8⟩
      have s8 := hjd6.turn hd8 ht8
      have hP8 := hP.kept s8.kp hT
      have hT8 : ∀ b, T b → ¬ (I8 b ∨ K5 b) := fun b hb => s8.nb (hP.lt b hb).2 (hT b hb)
      have hb8 : Below wa.heap.size wa w8 := hbw.trans (s8.kp.below_of hsw (fun b hb => (hjd6.lt b hb).1))
      have hjd8 := s8.jd
      have hs8 := hb8.size
      obtain ⟨A, c, vs, q, hE, hA⟩ := hP8.fst
      rw [entT_len] at q hE hA
      have hcA := sl_lens hE.row
      clear hd8 ht8 s8 hP hT hbw hjd6
      go_wp2_with fail
      refine (compact_any wa.heap.size 42 w8 _ tJ1 j d I8 K5 hjd8 hFa (by omega) hs8 hO1 (by decide) A n0 c vs (entT 0 n0) T hE (by omega) (fun h0 ad had => hT8 _ (hA h0 ad had)) hT8).mono ?_
      rintro e w9 ⟨rfl, I9, K9, s9⟩
      rw [t2]
      have hP9 := hP8.kept s9.kp hT8
      have hT9 : ∀ b, T b → ¬ (I9 b ∨ K9 b) := fun b hb => s9.nb (hP8.lt b hb).2 (hT8 b hb)
      have hb9 : Below wa.heap.size wa w9 := hb8.trans (s9.kp.below_of hs8 (fun b hb => (hjd8.lt b hb).1))
      have hs9 := hb9.size
      have hd9 := s9.jd.dk
      have hKw := hK'.below hb9
      clear hP8 hT8 hjd8 hE hA q s9 hcA t2
      generalize (compS (armD tD1 (yf : Int)) tJ1 (entT 0 n0)).1 = D9 at *
      go_wp2_with fail
      refine (dsk_crash wa.heap.size w9 D9 d I9 Ka nk ck kl hd9 hs9 tF.fit.ok hKw (fun h0 ad had => by have := hKb ad h0 had; have := HSA.out; omega)).mono ?_
      rintro e w10 ⟨rfl, I10, hd10, ht10⟩
      have hI := tK kl
      have hQ := crash_quiet D9 kl
      have hP10 := hP9.kept ht10.1 (fun b hb e => hT9 b hb (.inl e))
      have hT10 : ∀ b, T b → ¬ I10 b := fun b hb e => by
        rcases ht10.2 b e with e | e
        · exact hT9 b hb (.inl e)
        · have := (hP9.lt b hb).2; omega
      have hb10 : Below wa.heap.size wa w10 := hb9.trans (ht10.1.below_of hs9 (fun b hb => (hd9.bd b hb).1))
      have hs10 := hb10.size
      clear hd9 ht10 hP9 hT9 hb9 tK tF hKw
      generalize crashD D9 kl = Dc at *
      go_wp2_with fail
      refine (hI.opens (by omega) wa.heap.size w10 d I10 hd10 hs10 (by omega)).mono ?_
      rintro e w11 ⟨j11, K11, rfl, hjd11, hK11, hb11⟩
      have hP11 := hP10.below hb11
      have hT11 : ∀ b, T b → ¬ (I10 b ∨ K11 b) := fun b hb e => by
        rcases e with e | e
        · exact hT10 b hb e
        · have := hK11 b e; have := (hP10.lt b hb).2; omega
      have hb11' := hb10.trans (hb11.mono hs10)
      have hs11 := hb11'.size
      clear hd10 hP10 hT10 hK11 hb11 hb10
      go_wp2_with fail
      refine (all_any wa.heap.size w11 tJ1 j11 d K11 hjd11.jn hO1).mono ?_
      rintro e w12 ⟨A12, c12, vs12, E12, rfl, hown12, hev12, hE12, hb12⟩
      have hal : allJ tJ1 = [tFirst] := rfl
      have hen := hev12.ents hown12 rfl
      rw [hal] at hen ⊢
      have hb12' := hb11'.trans (hb12.mono hs11)
      have hs12 := hb12'.size
      have hjd12 := hjd11.below hb12
      have hP12 := hP11.below hb12
      clear hown12 hev12 hE12 hjd11 hP11 hal hb12 hb11'
      go_wp2_with fail
      refine (texts_any w12 A12 _ c12 vs12 [tFirst] E12 hen (by simp)).mono ?_
      rintro e w13 ⟨A13, c13, rfl, hown13, hb13⟩
      have hb13' := hb12'.trans (hb13.mono hs12)
      have hs13 := hb13'.size
      have hjd13 := hjd12.below hb13
      have hP13 := hP12.below hb13
      obtain ⟨g13, rfl, _, hg13⟩ := own_some hown13 (by simp)
      have q13 : w13.cell? ⟨g13, 0, none⟩ = some (.string ⟨#[102, 105, 114, 115, 116]⟩) := (own_cell hown13 0 (by simp)).1
      have hcp13 := own_lens hown13
      have hl13 : [tFirst].length = 1 := rfl
      rw [hl13] at hcp13 ⊢
      obtain ⟨A, c, vs, q, hE, hA⟩ := hP13.snd
      rw [entT_len] at q hE hA
      have hcA := sl_lens hE.row
      clear hown13 hen hjd12 hP12 hb13 hb12' hl13
      go_wp2_with fail
      refine (texts_any w13 A n1 c vs (entT 1 n1) T hE (by omega)).mono ?_
      rintro e w14 ⟨A14, c14, rfl, hown14, hb14⟩
      rw [entT_len] at hown14 ⊢
      have hb14' := hb13'.trans (hb14.mono hs13)
      have hs14 := hb14'.size
      have hjd14 := hjd13.below hb14
      have hP14 := hP13.below hb14
      have hcp14 := own_lens hown14
      have hs13w := hb14.size
      have hsl : Sl (w14.alloc (.cells #[.string ⟨#[109, 111, 114, 101]⟩] 9)) 1 (.slice (some ⟨w14.heap.size, 0, none⟩) 1 1) [.string ⟨#[109, 111, 114, 101]⟩] := by
        refine ⟨_, _, _, rfl, by simp, Nat.le_refl _, by simp [maxLen], fun _ => ⟨w14.heap.size, 0, rfl, by simp, fun i hi => ?_⟩⟩
        obtain rfl : i = 0 := by omega
        rw [World.cell?_alloc_at _ _ _ _ rfl]
        rfl
      have hrow := hown14.alloc (.cells #[.string ⟨#[109, 111, 114, 101]⟩] 9)
      have hz : w13.heap.size ≤ (w14.alloc (.cells #[.string ⟨#[109, 111, 114, 101]⟩] 9)).heap.size := by simp; omega
      have hba14 := (Below.refl w14.heap.size w14).alloc (Nat.le_refl _) (.cells #[.string ⟨#[109, 111, 114, 101]⟩] 9)
      have hba13 := hb14.alloc hs13w (.cells #[.string ⟨#[109, 111, 114, 101]⟩] 9)
      clear hE hA q hcA hown14
      go_wp2_with (at_builtin; refine wpList_app rfl (.tmp 110) (.tmp 111) st_strd rfl w13.heap.size rfl hrow rfl hsl (by simp [Value.oneCell']) (by simp [maxLen]; omega) (by omega) hz ?_)
      intro A15 c15 w15 hown15 hg15 hf15
      have hb15 : Below w13.heap.size w13 w15 := hba13.trans (grown_below hrow hg15 hz)
      have hb15' := hb13'.trans (hb15.mono hs13)
      have hs15 := hb15'.size
      have hjd15 := hjd13.below hb15
      have hP15 := hP13.below hb15
      obtain ⟨g15, rfl, hg15a, hg15b⟩ := own_some hown15 (by omega)
      have hwn : Sl w15 1 (.slice (some ⟨g15, 0, none⟩) (n1 + 1) c15) (STd (entT 1 n1 ++ [tMore])) := by
        have e : STd (entT 1 n1 ++ [tMore]) = STd (entT 1 n1) ++ [.string ⟨#[109, 111, 114, 101]⟩] := by
          rw [STd, List.map_append]
          rfl
        rw [e]
        exact own_sl hown15
      have hng : ¬ (I10 g15 ∨ K11 g15) := fun e => by have := (hjd13.lt _ e).2; omega
      obtain ⟨A, c, vs, q, hE, hA⟩ := hP15.snd
      rw [entT_len] at q hE hA
      have hcA := sl_lens hE.row
      obtain ⟨u1, u2, u3⟩ := tries_two hI hQ n1 hn19.2
      have u11 : (compS Dc tJ1 (entT 1 n1)).2.1 = tJ2 n1 := by rw [u1]
      have u12 : (compS Dc tJ1 (entT 1 n1)).2.2 = 0 := by rw [u1]
      have hFc : FitJ Dc 42 := hI.fit.fit
      have hcw := sl_lens hwn
      clear hown15 hg15 hf15 hrow hsl hz hba13 hba14 hb14 hb14' hjd14 hP14 hcp14 hjd13 hP13 hb13' q13 hcp13 hP15 u1 hs13w hs14
      go_wp2_with fail
      refine (compact_any wa.heap.size 42 w15 Dc tJ1 j11 d I10 K11 hjd15 hFc (by omega) hs15 hO1 (by decide) A n1 c vs (entT 1 n1) T hE (by omega) (fun h0 ad had => hT11 _ (hA h0 ad had)) hT11).mono ?_
      rintro e w16 ⟨rfl, I16, K16, s16⟩
      rw [u12]
      rw [u11] at s16
      have hjd16 := s16.jd
      have hwn16 := sl_kept hwn s16.kp (fun ad had => by injection had with had; subst had; exact hng)
      have hng16 : ¬ (I16 g15 ∨ K16 g15) := s16.nb hg15b hng
      have hb16 : Below wa.heap.size wa w16 := hb15'.trans (s16.kp.below_of hs15 (fun b hb => (hjd15.lt b hb).1))
      have hs16 := hb16.size
      have hsz16 := s16.size
      generalize (compS Dc tJ1 (entT 1 n1)).1 = D16 at *
      obtain ⟨v1, v2, v3⟩ := tries_three u2 u3 hn19.2
      have v11 : (appS D16 (tJ2 n1) tMore).2.1 = addJ (tJ2 n1) tMore := by rw [v1]
      have v12 : (appS D16 (tJ2 n1) tMore).2.2 = 0 := by rw [v1]
      have hF16 : FitJ D16 42 := u2.fit.fit
      have hO2 : JOk (tJ2 n1) := u2.frm.ok
      have hO3 : JOk (addJ (tJ2 n1) tMore) := v2.frm.ok
      have hsl : Sl (w16.alloc (.cells #[.int .u8 109, .int .u8 111, .int .u8 114, .int .u8 101] 5 (4, 5))) 1 (.slice (some ⟨w16.heap.size, 0, none⟩) 4 4) (B8 tMore) := sl_mark _ _ _ _ _ _ _ rfl rfl rfl (by simp [tMore])
      have hbx := (Below.refl w16.heap.size w16).alloc (Nat.le_refl _) (.cells #[.int .u8 109, .int .u8 111, .int .u8 114, .int .u8 101] 5 (4, 5))
      have hjd17 := hjd16.below hbx
      have hwn17 := hwn16.below hbx
      have hb17 := hb16.trans (hbx.mono hs16)
      have hgn : ¬ (I16 w16.heap.size ∨ K16 w16.heap.size) := fun e => by have := (hjd16.lt _ e).2; omega
      have hs17 := hb17.size
      have hg17 : g15 < (w16.alloc (.cells #[.int .u8 109, .int .u8 111, .int .u8 114, .int .u8 101] 5 (4, 5))).heap.size := by simp; omega
      clear hE hA q hcA hjd15 hT11 hwn hng hb15 hb15' s16 u2 u3 u11 u12 hI hQ hFc hjd16 hwn16 hb16 hbx v1
      go_wp2_with fail
      generalize hw17 : w16.alloc (.cells #[.int .u8 109, .int .u8 111, .int .u8 114, .int .u8 101] 5 (4, 5)) = w17 at *
      generalize w16.heap.size = g16 at *
      refine (append_any wa.heap.size 42 w17 D16 (tJ2 n1) j11 d I16 K16 hjd17 hF16 (by omega) hs17 hO2 g16 0 4 4 tMore hsl hgn).mono ?_
      rintro e w18 ⟨rfl, I18, K18, s18⟩
      rw [v12]
      have hd18 := s18.jd.dk
      have hwn18 := sl_kept hwn17 s18.kp (fun ad had => by injection had with had; subst had; exact hng16)
      have hb18 : Below wa.heap.size wa w18 := hb17.trans (s18.kp.below_of hs17 (fun b hb => (hjd17.lt b hb).1))
      have hs18 := hb18.size
      generalize (appS D16 (tJ2 n1) tMore).1 = D18 at *
      clear s18 hwn17 hb17 hjd17 hsl hgn v3 v11 v12 hF16 hng16 hw17
      go_wp2_with fail
      refine (v2.opens (by omega) wa.heap.size w18 d I18 hd18 hs18 (by omega)).mono ?_
      rintro e w19 ⟨j19, K19, rfl, hjd19, hK19, hb19⟩
      have hb19' := hb18.trans (hb19.mono hs18)
      have hs19 := hb19'.size
      have hwn19 := hwn18.below hb19
      clear hd18 hwn18 hb18 hb19 hK19
      go_wp2_with fail
      refine (all_any wa.heap.size w19 (addJ (tJ2 n1) tMore) j19 d K19 hjd19.jn hO3).mono ?_
      rintro e w20 ⟨A20, c20, vs20, E20, rfl, hown20, hev20, hE20, hb20⟩
      have hal : allJ (addJ (tJ2 n1) tMore) = entT 1 n1 ++ [tMore] := rfl
      rw [hal] at hev20 hown20 ⊢
      have hll : (entT 1 n1 ++ [tMore]).length = n1 + 1 := by rw [List.length_append, entT_len]; rfl
      rw [hll] at hown20 ⊢
      have hen := hev20.ents hown20 hll.symm
      have hb20' := hb19'.trans (hb20.mono hs19)
      have hs20 := hb20'.size
      have hwn20 := hwn19.below hb20
      clear hown20 hev20 hE20 hjd19 hal hb20 hb19' hwn19
      go_wp2_with fail
      refine (texts_any w20 A20 _ c20 vs20 (entT 1 n1 ++ [tMore]) E20 hen (by omega)).mono ?_
      rintro e w21 ⟨A21, c21, rfl, hown21, hb21⟩
      rw [hll] at hown21 ⊢
      have hb21' := hb20'.trans (hb21.mono hs20)
      have hs21 := hb21'.size
      have hwn21 := hwn20.below hb21
      have hsl21 := own_sl hown21
      clear hown21 hen hb21 hb20' hwn20 hll
      go_wp2_with fail
      refine (refSame_any w21 A21 _ c21 _ _ c15 _ _ hsl21 hwn21).mono ?_
      rintro e w22 ⟨rfl, hb22⟩
      have hde : decide (entT 1 n1 ++ [tMore] = entT 1 n1 ++ [tMore]) = true := decide_eq_true rfl
      rw [hde]
      have hb22' := hba.trans ((hb21'.trans (hb22.mono hs21)).mono (by have := HSA.out; omega))
      clear hb22 hb21' hsl21 hwn21 hde
      go_wp2_with fail
      go_ret
      exact ⟨rfl, hb22'⟩
end Go.Proofs.Ytfhlidlmipleaaa
