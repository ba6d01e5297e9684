/-
  Contracts of package schema: Net, Dotted.
-/
import Derived.Test.YtecfkhgocjbocaaGreatDoorSc7
import Derived.Test.YtecfkhgocjbocaaGreatDoorSd5
namespace Go.Proofs.YtecfkhgocjbocaaGreatDoor
set_option linter.unusedVariables false
set_option linter.unusedSimpArgs false
open Go Go.RowKit

theorem net_if (l : List UInt8) : SC.net l = if SC.addrB (Lib.cut l [47]).1 = true ∧ SC.decB (Lib.cut l [47]).2.1 = true ∧ 1 ≤ SC.decV (Lib.cut l [47]).2.1 ∧ SC.decV (Lib.cut l [47]).2.1 ≤ 32 then some (SC.addrV (Lib.cut l [47]).1, SC.decV (Lib.cut l [47]).2.1) else none := by
  rw [SC.net_cut, addr_some, len32_eq]
  generalize (Lib.cut l [47]).1 = x
  generalize (Lib.cut l [47]).2.1 = y
  cases SC.addrB x with
  | false => simp
  | true =>
    by_cases hy : SC.decB y = true ∧ 1 ≤ SC.decV y ∧ SC.decV y ≤ 32
    · rw [if_pos hy]; simp only [true_and, if_true]; rw [if_pos hy]
    · rw [if_neg hy]; simp only [true_and, if_true]; rw [if_neg hy]
theorem cut_sizes (l : List UInt8) : (Lib.cut l [47]).1.length ≤ l.length ∧ (Lib.cut l [47]).2.1.length ≤ l.length := by
  unfold Lib.cut
  split
  · simp only [List.length_take, List.length_drop]; omega
  · simp
set_option maxRecDepth 100000 in
set_option maxHeartbeats 3200000 in
theorem net_any (s : ByteArray) (w : World) (hs : s.size ≤ 2000000) (hen : Env w) : Calls Tryz.prog 118 #[.string s] w fun e w' => e = .returned (.tuple #[.int .u32 (SC.netA (bl s) : Nat), .int .i64 (SC.netL (bl s) : Nat), .bool (SC.netB (bl s))]) ∧ Below w.heap.size w w' := by
  have HC := hid (cutS_any s w hen hs)
  have HN2 := hid (net_if (bl s))
  have hcz := cut_sizes (bl s)
  rw [bl_len] at hcz
  go_enter Tryz.func118, Tryz.ntmps118
  go_wp2_with fail
  refine HC.out.mono ?_
  rintro e w1 ⟨rfl, hb1⟩
  clear HC
  have hen1 := hen.below hb1
  generalize (Lib.cut (bl s) [47]).1 = x at *
  generalize (Lib.cut (bl s) [47]).2.1 = y at *
  generalize (Lib.cut (bl s) [47]).2.2 = z at *
  have hA := addr_any (S8 x) w1 (by rw [S8_size]; omega) hen1
  rw [bl_S8] at hA
  have HA := hid hA
  have hD := fun w2 => decimal_any (S8 y) w2 (by rw [S8_size]; omega)
  rw [bl_S8] at hD
  have HD := hid hD
  clear hA hD hen hen1
  have hadl := SC.addrV_lt x
  have hdvl := SC.decV_lt y
  go_wp2_with fail
  refine HA.out.mono ?_
  rintro e w2 ⟨rfl, hb2⟩
  have hbw2 := hb1.trans (hb2.mono hb1.size)
  clear hb1 hb2 HA
  go_wp2_with fail
  refine (HD.out w2).mono ?_
  rintro e w3 ⟨rfl, hb3⟩
  have hbz := hbw2.trans (hb3.mono hbw2.size)
  clear HD hbw2 hb3
  by_cases hq : SC.addrB x = true ∧ SC.decB y = true ∧ 1 ≤ (SC.decV y) ∧ (SC.decV y) ≤ 32
  · have h0 : SC.net (bl s) = some (SC.addrV x, (SC.decV y)) := by rw [HN2.out, if_pos hq]
    obtain ⟨e1, e2, e3⟩ := net_of h0
    have E1 := hid e1
    have E2 := hid e2
    have E3 := hid e3
    obtain ⟨q1, q2, q3, q4⟩ := hq
    clear e1 e2 e3 h0 HN2
    rw [q1, q2]
    clear q1 q2
    generalize (SC.decV y) = dv at *
    generalize SC.addrV x = av at *
    as_aux_lemma =>
      go_wp2_with fail
      go_ret3
      exact ⟨by rw [E1.out, E2.out, E3.out]; rfl, hbz⟩
  · have h0 : SC.net (bl s) = none := by rw [HN2.out, if_neg hq]
    obtain ⟨e1, e2, e3⟩ := net_of h0
    have E1 := hid e1
    have E2 := hid e2
    have E3 := hid e3
    clear e1 e2 e3 h0 HN2
    cases hab : SC.addrB x with
    | false =>
      clear hq hab
      as_aux_lemma =>
        go_wp2_with fail
        go_ret3
        exact ⟨by rw [E1.out, E2.out, E3.out]; rfl, hbz⟩
    | true =>
      cases hdb : SC.decB y with
      | false =>
        clear hq hab hdb
        as_aux_lemma =>
          go_wp2_with fail
          go_ret3
          exact ⟨by rw [E1.out, E2.out, E3.out]; rfl, hbz⟩
      | true =>
        have hv : (SC.decV y) < 1 ∨ 32 < (SC.decV y) := by
          rcases Nat.lt_or_ge (SC.decV y) 1 with h | h
          · exact .inl h
          · rcases Nat.lt_or_ge 32 (SC.decV y) with h' | h'
            · exact .inr h'
            · exact absurd ⟨hab, hdb, h, h'⟩ hq
        clear hq hab hdb
        generalize (SC.decV y) = dv at *
        generalize SC.addrV x = av at *
        rcases hv with hv | hv
        · as_aux_lemma =>
            go_wp2_with fail
            go_ret3
            exact ⟨by rw [E1.out, E2.out, E3.out]; rfl, hbz⟩
        · as_aux_lemma =>
            go_wp2_with fail
            go_ret3
            exact ⟨by rw [E1.out, E2.out, E3.out]; rfl, hbz⟩
def fourD (n : Nat) : List (List UInt8) := [SC.digs (n / 16777216), SC.digs (n / 65536 % 256), SC.digs (n / 256 % 256), SC.digs (n % 256)]
end Go.Proofs.YtecfkhgocjbocaaGreatDoor
