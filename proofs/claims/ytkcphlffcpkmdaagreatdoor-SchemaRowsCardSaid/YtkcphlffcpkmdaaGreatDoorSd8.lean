/-
  Contracts of package schema: Net, Dotted.
-/
import Derived.Test.YtkcphlffcpkmdaaGreatDoorSc7
import Derived.Test.YtkcphlffcpkmdaaGreatDoorSd5
namespace Go.Proofs.YtkcphlffcpkmdaaGreatDoor
set_option linter.unusedVariables false
set_option linter.unusedSimpArgs false
open Go Go.RowKit

theorem net_if (l : List UInt8) : SC.net l = if SC.addrB (Lib.cut l [47]).1 = true ∧ SC.decB (Lib.cut l [47]).2.1 = true ∧ 1 ≤ SC.decV (Lib.cut l [47]).2.1 ∧ SC.decV (Lib.cut l [47]).2.1 ≤ 32 then some (SC.addrV (Lib.cut l [47]).1, SC.decV (Lib.cut l [47]).2.1) else none := by
  rw [SC.net_cut, addr_some, len32_eq]
  generalize (Lib.cut l [47]).1 = x
  generalize (Lib.cut l [47]).2.1 = y
  cases SC.addrB x with
  | false => simp
  | true =>
    by_cases hy : SC.decB y = true ∧ 1 ≤ SC.decV y ∧ SC.decV y ≤ 32
    · rw [if_pos hy]; simp only [true_and, if_true]; rw [if_pos hy]
    · rw [if_neg hy]; simp only [true_and, if_true]; rw [if_neg hy]
theorem cut_sizes (l : List UInt8) : (Lib.cut l [47]).1.length ≤ l.length ∧ (Lib.cut l [47]).2.1.length ≤ l.length := by
  unfold Lib.cut
  split
  · simp only [List.length_take, List.length_drop]; omega
  · simp
set_option maxRecDepth 100000 in
set_option maxHeartbeats 3200000 in
theorem net_any (s : ByteArray) (w : World) (hs : s.size ≤ 100000) (hen : Env w) : Calls Tryz.prog 15 #[.string s] w fun e w' => e = .returned (.tuple #[.int .u32 (SC.netA (bl s) : Nat), .int .i64 (SC.netL (bl s) : Nat), .bool (SC.netB (bl s))]) ∧ Below w.heap.size w w' := by
  have HC := hid (cutS_any s w hen hs)
  have HN2 := hid (net_if (bl s))
  have hcz := cut_sizes (bl s)
  rw [bl_len] at hcz
  go_enter Tryz.func15, Tryz.ntmps15
  go_wp2_with fail
  refine HC.out.mono ?_
  rintro e w1 ⟨rfl, hb1⟩
  clear HC
  have hen1 := hen.below hb1
  generalize (Lib.cut (bl s) [47]).1 = x at *
  generalize (Lib.cut (bl s) [47]).2.1 = y at *
  generalize (Lib.cut (bl s) [47]).2.2 = z at *
  have hA := addr_any (S8 x) w1 (by rw [S8_size]; omega) hen1
  rw [bl_S8] at hA
  have HA := hid hA
  have hD := fun w2 => decimal_any (S8 y) w2 (by rw [S8_size]; omega)
  rw [bl_S8] at hD
  have HD := hid hD
  clear hA hD hen hen1
  have hadl := SC.addrV_lt x
  have hdvl := SC.decV_lt y
  go_wp2_with fail
  refine HA.out.mono ?_
  rintro e w2 ⟨rfl, hb2⟩
  have hbw2 := hb1.trans (hb2.mono hb1.size)
  clear hb1 hb2 HA
  go_wp2_with fail
  refine (HD.out w2).mono ?_
  rintro e w3 ⟨rfl, hb3⟩
  have hbz := hbw2.trans (hb3.mono hbw2.size)
  clear HD hbw2 hb3
  by_cases hq : SC.addrB x = true ∧ SC.decB y = true ∧ 1 ≤ (SC.decV y) ∧ (SC.decV y) ≤ 32
  · have h0 : SC.net (bl s) = some (SC.addrV x, (SC.decV y)) := by rw [HN2.out, if_pos hq]
    obtain ⟨e1, e2, e3⟩ := net_of h0
    have E1 := hid e1
    have E2 := hid e2
    have E3 := hid e3
    obtain ⟨q1, q2, q3, q4⟩ := hq
    clear e1 e2 e3 h0 HN2
    rw [q1, q2]
    clear q1 q2
    generalize (SC.decV y) = dv at *
    generalize SC.addrV x = av at *
    as_aux_lemma =>
      go_wp2_with fail
      go_ret3
      exact ⟨by rw [E1.out, E2.out, E3.out]; rfl, hbz⟩
  · have h0 : SC.net (bl s) = none := by rw [HN2.out, if_neg hq]
    obtain ⟨e1, e2, e3⟩ := net_of h0
    have E1 := hid e1
    have E2 := hid e2
    have E3 := hid e3
    clear e1 e2 e3 h0 HN2
    cases hab : SC.addrB x with
    | false =>
      clear hq hab
      as_aux_lemma =>
        go_wp2_with fail
        go_ret3
        exact ⟨by rw [E1.out, E2.out, E3.out]; rfl, hbz⟩
    | true =>
      cases hdb : SC.decB y with
      | false =>
        clear hq hab hdb
        as_aux_lemma =>
          go_wp2_with fail
          go_ret3
          exact ⟨by rw [E1.out, E2.out, E3.out]; rfl, hbz⟩
      | true =>
        have hv : (SC.decV y) < 1 ∨ 32 < (SC.decV y) := by
          rcases Nat.lt_or_ge (SC.decV y) 1 with h | h
          · exact .inl h
          · rcases Nat.lt_or_ge 32 (SC.decV y) with h' | h'
            · exact .inr h'
            · exact absurd ⟨hab, hdb, h, h'⟩ hq
        clear hq hab hdb
        generalize (SC.decV y) = dv at *
        generalize SC.addrV x = av at *
        rcases hv with hv | hv
        · as_aux_lemma =>
            go_wp2_with fail
            go_ret3
            exact ⟨by rw [E1.out, E2.out, E3.out]; rfl, hbz⟩
        · as_aux_lemma =>
            go_wp2_with fail
            go_ret3
            exact ⟨by rw [E1.out, E2.out, E3.out]; rfl, hbz⟩
def fourD (n : Nat) : List (List UInt8) := [SC.digs (n / 16777216), SC.digs (n / 65536 % 256), SC.digs (n / 256 % 256), SC.digs (n % 256)]
set_option maxRecDepth 100000 in
set_option maxHeartbeats 3200000 in
theorem dotted_any (n : Nat) (w : World) (hn : n < 4294967296) (hen : Env w) : Calls Tryz.prog 16 #[.int .u32 (n : Int)] w fun e w' => e = .returned (.string (S8 (SC.dotted n))) ∧ Below w.heap.size w w' := by
  have HJ := hid (SC.join_dotted n)
  go_enter Tryz.func16, Tryz.ntmps16
  go_wp2_with fail
  go_loopw [3, 4] (fun v i wr => ∃ (k : Nat) (A : Option Addr) (c : Nat) (L : List (List UInt8)), k ≤ 4 ∧ v = .slice A L.length c ∧ i = .int .i64 (24 - 8 * (k : Int)) ∧ wr.ownsRow w.heap.size 9 1 (.slice A L.length c) L.length (STR L) ∧ Hid (L = (fourD n).take k) ∧ Below w.heap.size w wr) (fun _ i _ => (intOf i + 8).toNat)
  case atStart => exact ⟨0, none, 0, [], by omega, rfl, rfl, own_nilE _ _ _ _, rfl, Below.refl _ _⟩
  case round =>
    obtain ⟨k, A, c, L, hk, rfl, rfl, ho, HLL, hb⟩ := hrel
    rcases (by omega : k = 0 ∨ k = 1 ∨ k = 2 ∨ k = 3 ∨ k = 4) with rfl | rfl | rfl | rfl | rfl
    · have : True := trivial
      rw [show (24 : Int) - 8 * ((0 : Nat) : Int) = 24 by rfl]
      have HI := hid (itoa_any (n / 16777216) (by omega) wr (hen.below hb))
      have hx : ((n : Int) / 16777216) = (((n / 16777216) : Nat) : Int) := by omega
      have HXX := hid hx
      have hln : L.length = 0 := by rw [HLL.out]; rfl
      rw [hln] at ho
      rw [hln]
      have HLN := hid hln
      clear hx hln
      as_aux_lemma =>
        go_wp2_with fail
        rw [HXX.out]
        refine HI.out.mono ?_
        rintro e w1 ⟨rfl, hb1⟩
        have hba := (Below.refl w1.heap.size w1).alloc (Nat.le_refl _) (.cells #[.string (S8 (SC.digs (n / 16777216)))] 9)
        have hsl : Sl (w1.alloc (.cells #[.string (S8 (SC.digs (n / 16777216)))] 9)) 1 (.slice (some ⟨w1.heap.size, 0, none⟩) 1 1) (STR [SC.digs (n / 16777216)]) := own_sl (own_made w1 0 9 1 1 #[.string (S8 (SC.digs (n / 16777216)))] (STR [SC.digs (n / 16777216)]) (Nat.zero_le _) rfl rfl (by omega) (by omega))
        have ho2 := own_below (own_below ho hb1) hba
        have hbw2 := (hb.trans (hb1.mono hb.size)).trans (hba.mono (hb.trans (hb1.mono hb.size)).size)
        clear hba ho hb hb1 HI
        go_wp2_with (at_builtin; refine wpList_app rfl (.tmp 9) (.tmp 16) st_strs rfl w.heap.size rfl ho2 rfl hsl (STR_one _) (by simp [maxLen]) (by omega) hbw2.size ?_)
        intro A9 c9 w5 ho9 hg9 _
        have hb9 := hbw2.trans ((grown_below ho2 hg9 hbw2.size).mono (Nat.le_refl _))
        clear ho2 hbw2 hsl hg9
        rw [← STR_append] at ho9
        go_wp2_with fail
        go_light
        refine ⟨⟨0 + 1, A9, c9, L ++ [SC.digs (n / 16777216)], by omega, ?_, by rfl, ?_, by show _ = _; rw [HLL.out]; rfl, hb9⟩, by simp [intOf]⟩
        · rw [List.length_append, HLN.out]; rfl
        · rw [List.length_append, HLN.out]; exact ho9
    · have : True := trivial
      rw [show (24 : Int) - 8 * ((1 : Nat) : Int) = 16 by rfl]
      have HI := hid (itoa_any (n / 65536 % 256) (by omega) wr (hen.below hb))
      have hx : ((n : Int) / 65536 % 256) = (((n / 65536 % 256) : Nat) : Int) := by omega
      have HXX := hid hx
      have hln : L.length = 1 := by rw [HLL.out]; rfl
      rw [hln] at ho
      rw [hln]
      have HLN := hid hln
      clear hx hln
      as_aux_lemma =>
        go_wp2_with fail
        rw [HXX.out]
        refine HI.out.mono ?_
        rintro e w1 ⟨rfl, hb1⟩
        have hba := (Below.refl w1.heap.size w1).alloc (Nat.le_refl _) (.cells #[.string (S8 (SC.digs (n / 65536 % 256)))] 9)
        have hsl : Sl (w1.alloc (.cells #[.string (S8 (SC.digs (n / 65536 % 256)))] 9)) 1 (.slice (some ⟨w1.heap.size, 0, none⟩) 1 1) (STR [SC.digs (n / 65536 % 256)]) := own_sl (own_made w1 0 9 1 1 #[.string (S8 (SC.digs (n / 65536 % 256)))] (STR [SC.digs (n / 65536 % 256)]) (Nat.zero_le _) rfl rfl (by omega) (by omega))
        have ho2 := own_below (own_below ho hb1) hba
        have hbw2 := (hb.trans (hb1.mono hb.size)).trans (hba.mono (hb.trans (hb1.mono hb.size)).size)
        clear hba ho hb hb1 HI
        go_wp2_with (at_builtin; refine wpList_app rfl (.tmp 9) (.tmp 16) st_strs rfl w.heap.size rfl ho2 rfl hsl (STR_one _) (by simp [maxLen]) (by omega) hbw2.size ?_)
        intro A9 c9 w5 ho9 hg9 _
        have hb9 := hbw2.trans ((grown_below ho2 hg9 hbw2.size).mono (Nat.le_refl _))
        clear ho2 hbw2 hsl hg9
        rw [← STR_append] at ho9
        go_wp2_with fail
        go_light
        refine ⟨⟨1 + 1, A9, c9, L ++ [SC.digs (n / 65536 % 256)], by omega, ?_, by rfl, ?_, by show _ = _; rw [HLL.out]; rfl, hb9⟩, by simp [intOf]⟩
        · rw [List.length_append, HLN.out]; rfl
        · rw [List.length_append, HLN.out]; exact ho9
    · have : True := trivial
      rw [show (24 : Int) - 8 * ((2 : Nat) : Int) = 8 by rfl]
      have HI := hid (itoa_any (n / 256 % 256) (by omega) wr (hen.below hb))
      have hx : ((n : Int) / 256 % 256) = (((n / 256 % 256) : Nat) : Int) := by omega
      have HXX := hid hx
      have hln : L.length = 2 := by rw [HLL.out]; rfl
      rw [hln] at ho
      rw [hln]
      have HLN := hid hln
      clear hx hln
      as_aux_lemma =>
        go_wp2_with fail
        rw [HXX.out]
        refine HI.out.mono ?_
        rintro e w1 ⟨rfl, hb1⟩
        have hba := (Below.refl w1.heap.size w1).alloc (Nat.le_refl _) (.cells #[.string (S8 (SC.digs (n / 256 % 256)))] 9)
        have hsl : Sl (w1.alloc (.cells #[.string (S8 (SC.digs (n / 256 % 256)))] 9)) 1 (.slice (some ⟨w1.heap.size, 0, none⟩) 1 1) (STR [SC.digs (n / 256 % 256)]) := own_sl (own_made w1 0 9 1 1 #[.string (S8 (SC.digs (n / 256 % 256)))] (STR [SC.digs (n / 256 % 256)]) (Nat.zero_le _) rfl rfl (by omega) (by omega))
        have ho2 := own_below (own_below ho hb1) hba
        have hbw2 := (hb.trans (hb1.mono hb.size)).trans (hba.mono (hb.trans (hb1.mono hb.size)).size)
        clear hba ho hb hb1 HI
        go_wp2_with (at_builtin; refine wpList_app rfl (.tmp 9) (.tmp 16) st_strs rfl w.heap.size rfl ho2 rfl hsl (STR_one _) (by simp [maxLen]) (by omega) hbw2.size ?_)
        intro A9 c9 w5 ho9 hg9 _
        have hb9 := hbw2.trans ((grown_below ho2 hg9 hbw2.size).mono (Nat.le_refl _))
        clear ho2 hbw2 hsl hg9
        rw [← STR_append] at ho9
        go_wp2_with fail
        go_light
        refine ⟨⟨2 + 1, A9, c9, L ++ [SC.digs (n / 256 % 256)], by omega, ?_, by rfl, ?_, by show _ = _; rw [HLL.out]; rfl, hb9⟩, by simp [intOf]⟩
        · rw [List.length_append, HLN.out]; rfl
        · rw [List.length_append, HLN.out]; exact ho9
    · have : True := trivial
      rw [show (24 : Int) - 8 * ((3 : Nat) : Int) = 0 by rfl]
      have HI := hid (itoa_any (n % 256) (by omega) wr (hen.below hb))
      have hx : ((n : Int) % 256) = (((n % 256) : Nat) : Int) := by omega
      have HXX := hid hx
      have hln : L.length = 3 := by rw [HLL.out]; rfl
      rw [hln] at ho
      rw [hln]
      have HLN := hid hln
      clear hx hln
      as_aux_lemma =>
        go_wp2_with fail
        rw [HXX.out]
        refine HI.out.mono ?_
        rintro e w1 ⟨rfl, hb1⟩
        have hba := (Below.refl w1.heap.size w1).alloc (Nat.le_refl _) (.cells #[.string (S8 (SC.digs (n % 256)))] 9)
        have hsl : Sl (w1.alloc (.cells #[.string (S8 (SC.digs (n % 256)))] 9)) 1 (.slice (some ⟨w1.heap.size, 0, none⟩) 1 1) (STR [SC.digs (n % 256)]) := own_sl (own_made w1 0 9 1 1 #[.string (S8 (SC.digs (n % 256)))] (STR [SC.digs (n % 256)]) (Nat.zero_le _) rfl rfl (by omega) (by omega))
        have ho2 := own_below (own_below ho hb1) hba
        have hbw2 := (hb.trans (hb1.mono hb.size)).trans (hba.mono (hb.trans (hb1.mono hb.size)).size)
        clear hba ho hb hb1 HI
        go_wp2_with (at_builtin; refine wpList_app rfl (.tmp 9) (.tmp 16) st_strs rfl w.heap.size rfl ho2 rfl hsl (STR_one _) (by simp [maxLen]) (by omega) hbw2.size ?_)
        intro A9 c9 w5 ho9 hg9 _
        have hb9 := hbw2.trans ((grown_below ho2 hg9 hbw2.size).mono (Nat.le_refl _))
        clear ho2 hbw2 hsl hg9
        rw [← STR_append] at ho9
        go_wp2_with fail
        go_light
        refine ⟨⟨3 + 1, A9, c9, L ++ [SC.digs (n % 256)], by omega, ?_, by rfl, ?_, by show _ = _; rw [HLL.out]; rfl, hb9⟩, by simp [intOf]⟩
        · rw [List.length_append, HLN.out]; rfl
        · rw [List.length_append, HLN.out]; exact ho9
    · rw [show (24 : Int) - 8 * ((4 : Nat) : Int) = -8 by rfl]
      have hL : L = fourD n := by rw [HLL.out]; rfl
      subst hL
      have hsl := own_sl ho
      have HJN := hid (join_any A c (fourD n) wr hsl (by simp [fourD]) (by
        have h1 := SC.digs_len (n / 16777216) 2 (by omega)
        have h2 := SC.digs_len (n / 65536 % 256) 2 (by omega)
        have h3 := SC.digs_len (n / 256 % 256) 2 (by omega)
        have h4 := SC.digs_len (n % 256) 2 (by omega)
        show (Lib.join [_, _, _, _] [46]).length ≤ _
        rw [HJ.out]
        unfold SC.dotted
        simp
        omega) (by simp [fourD]))
      clear ho hsl
      as_aux_lemma =>
        go_wp2_with fail
        refine HJN.out.mono ?_
        rintro e w1 ⟨rfl, hb1⟩
        have hbw := hb.trans (hb1.mono hb.size)
        clear hb hb1 HJN
        go_wp2_with fail
        go_ret
        exact ⟨by show _ = Ending.returned (.string (S8 (SC.dotted n))); rw [← HJ.out]; rfl, hbw⟩
end Go.Proofs.YtkcphlffcpkmdaaGreatDoor
