/-
  Contracts of layer 4's reference: Addr, Net.
-/
import Derived.Test.YtecfkhgocjbocaaGreatDoorSc2
namespace Go.Proofs.YtecfkhgocjbocaaGreatDoor
set_option linter.unusedVariables false
set_option linter.unusedSimpArgs false
open Go Go.RowKit

theorem part_eq (p : List UInt8) : SC.part p = if SC.decB p = true ∧ SC.decV p ≤ 255 then some (SC.decV p) else none := by
  unfold SC.part SC.decB SC.decV
  cases SC.dec p with
  | none => simp
  | some n => simp
theorem len32_eq (p : List UInt8) : SC.len32 p = if SC.decB p = true ∧ 1 ≤ SC.decV p ∧ SC.decV p ≤ 32 then some (SC.decV p) else none := by
  unfold SC.len32 SC.decB SC.decV
  cases SC.dec p with
  | none => simp
  | some n => simp
theorem addr_of {l : List UInt8} {o : Option Nat} (h : SC.addr l = o) : SC.addrV l = o.getD 0 ∧ SC.addrB l = o.isSome := by
  subst h
  unfold SC.addrV SC.addrB
  cases SC.addr l <;> exact ⟨rfl, rfl⟩
theorem net_of {l : List UInt8} {o : Option (Nat × Nat)} (h : SC.net l = o) : SC.netA l = (o.map Prod.fst).getD 0 ∧ SC.netL l = (o.map Prod.snd).getD 0 ∧ SC.netB l = o.isSome := by
  subst h
  unfold SC.netA SC.netL SC.netB
  cases SC.net l <;> exact ⟨rfl, rfl, rfl⟩
theorem addr_some (l : List UInt8) : SC.addr l = if SC.addrB l = true then some (SC.addrV l) else none := by
  unfold SC.addrV SC.addrB
  cases SC.addr l <;> rfl
theorem drop_get (L : List (List UInt8)) (k : Nat) (h : k < L.length) : L.drop k = L.getD k [] :: L.drop (k + 1) := by
  rw [List.drop_eq_getElem_cons h, List.getD_eq_getElem?_getD, List.getElem?_eq_getElem h]
  rfl
set_option maxRecDepth 100000 in
set_option maxHeartbeats 3200000 in
theorem refAddr_any (s : ByteArray) (w : World) (hs : s.size ≤ 2000000) : Calls Tryz.prog 94 #[.string s] w fun e w' => e = .returned (.tuple #[.int .u32 (SC.addrV (bl s) : Nat), .bool (SC.addrB (bl s))]) ∧ Below w.heap.size w w' := by
  have HE : Hid (SC.addr (bl s) = if (SC.cut 46 (bl s)).length = 4 then SC.addrF 0 (SC.cut 46 (bl s)) else none) := SC.addr_eq _
  have HPL : Hid (∀ p ∈ SC.cut 46 (bl s), p.length ≤ s.size) := by show ∀ _, _; rw [← bl_len]; exact SC.cut_part 46 (bl s)
  have hp := refParts_any s 46 w hs
  rw [show (((46 : UInt8).toNat : Nat) : Int) = 46 from rfl] at hp
  have HP := hid hp
  clear hp
  go_enter Tryz.func94, Tryz.ntmps94
  go_wp2_with fail
  refine HP.out.mono ?_
  rintro e w1 ⟨A, c, rfl, ho, hb⟩
  clear HP
  generalize SC.cut 46 (bl s) = L at *
  by_cases h4 : L.length = 4
  rotate_left
  · have h0 : SC.addr (bl s) = none := by rw [HE.out, if_neg h4]
    obtain ⟨e1, e2⟩ := addr_of h0
    have E1 := hid e1
    have E2 := hid e2
    clear e1 e2
    as_aux_lemma =>
      go_wp2_with fail
      go_ret2
      exact ⟨by rw [E1.out, E2.out]; rfl, hb⟩
  have hE := HE.out
  rw [if_pos h4] at hE
  have HEE := hid hE
  rw [h4] at ho ⊢
  have hsl := own_sl ho
  have H4 := hid h4
  clear hE HE h4 ho
  go_wp2_with fail
  go_loop [5, 6] (fun n i => ∃ k m : Nat, k ≤ 4 ∧ n = .int .u32 m ∧ i = .int .i64 k ∧ m < 256 ^ k ∧ Hid (SC.addrF 0 L = SC.addrF m (L.drop k))) (fun _ i => 4 - (intOf i).toNat)
  case atStart => exact ⟨0, 0, by omega, rfl, rfl, by omega, rfl⟩
  case round =>
    obtain ⟨k, m, hk, rfl, rfl, hm, HR⟩ := hrel
    by_cases hlt : k < 4
    · obtain ⟨b, off, rfl, hbl, p0⟩ := STR_cell hsl hlt
      have hdr := drop_get L k (by rw [H4.out]; exact hlt)
      have hin : L.getD k [] ∈ L := by
        rw [List.getD_eq_getElem?_getD, List.getElem?_eq_getElem (by rw [H4.out]; exact hlt)]
        exact List.getElem_mem _
      have hps := HPL.out _ hin
      generalize L.getD k [] = p at *
      have hD := refDecimal_any (S8 p) w1 (by rw [S8_size]; omega)
      rw [bl_S8] at hD
      have HD := hid hD
      have hm2 : m < 16777216 := Nat.lt_of_lt_of_le hm (Nat.le_trans (Nat.pow_le_pow_right (by omega) (show k ≤ 3 by omega)) (by decide))
      have HPE := hid (part_eq p)
      have hR2 : SC.addrF 0 L = match SC.part p with
        | some k' => SC.addrF (m * 256 + k') (L.drop (k + 1))
        | none => none := by rw [HR.out, hdr]; rfl
      have HR2 := hid hR2
      clear hdr hin hps hD hR2 HR
      go_wp2_with fail
      refine HD.out.mono ?_
      rintro e w2 ⟨rfl, rfl⟩
      clear HD
      by_cases hd : SC.decB p = true ∧ SC.decV p ≤ 255
      · have hR3 := HR2.out
        rw [HPE.out, if_pos hd] at hR3
        obtain ⟨hd1, hd2⟩ := hd
        rw [hd1]
        have HR3 := hid hR3
        clear HPE HR2 hR3 hd1
        generalize SC.decV p = v at *
        have hpow : m * 256 + v < 256 ^ (k + 1) := by rw [Nat.pow_succ]; omega
        have HPW := hid hpow
        clear hpow hm
        go_wp2_with fail
        go_light
        refine ⟨⟨k + 1, m * 256 + v, by omega, ?_, by go_num, HPW.out, HR3⟩, by simp [intOf]; omega⟩
        go_num
      · have h0 : SC.addr (bl s) = none := by rw [HEE.out, HR2.out, HPE.out, if_neg hd]
        obtain ⟨e1, e2⟩ := addr_of h0
        have E1 := hid e1
        have E2 := hid e2
        clear e1 e2 h0 HPE HR2
        cases hdb : SC.decB p with
        | false =>
          clear hd
          go_wp2_with fail
          go_ret2
          exact ⟨by rw [E1.out, E2.out]; rfl, hb⟩
        | true =>
          rw [hdb] at hd
          have hd2 : 255 < SC.decV p := by
            rcases Nat.lt_or_ge 255 (SC.decV p) with h | h
            · exact h
            · exact absurd ⟨rfl, h⟩ hd
          clear hd hdb
          generalize SC.decV p = v at *
          go_wp2_with fail
          go_ret2
          exact ⟨by rw [E1.out, E2.out]; rfl, hb⟩
    · obtain rfl : k = 4 := by omega
      have hR := HR.out
      rw [List.drop_of_length_le (by rw [H4.out]; exact Nat.le_refl _)] at hR
      have h0 : SC.addr (bl s) = some m := by rw [HEE.out, hR]; rfl
      obtain ⟨e1, e2⟩ := addr_of h0
      have E1 := hid e1
      have E2 := hid e2
      clear e1 e2 h0 hR HR HEE
      go_wp2_with fail
      go_ret2
      exact ⟨by rw [E1.out, E2.out]; rfl, hb⟩
theorem net2 {l x y : List UInt8} (h : SC.cut 47 l = [x, y]) : SC.net l = if SC.addrB x = true ∧ SC.decB y = true ∧ 1 ≤ SC.decV y ∧ SC.decV y ≤ 32 then some (SC.addrV x, SC.decV y) else none := by
  unfold SC.net
  rw [h]
  simp only
  rw [addr_some, len32_eq]
  cases SC.addrB x with
  | false => simp
  | true =>
    by_cases hy : SC.decB y = true ∧ 1 ≤ SC.decV y ∧ SC.decV y ≤ 32
    · rw [if_pos hy]; simp only [true_and, if_true]; rw [if_pos hy]
    · rw [if_neg hy]; simp only [true_and, if_true]; rw [if_neg hy]
set_option maxRecDepth 100000 in
set_option maxHeartbeats 3200000 in
theorem refNet_any (s : ByteArray) (w : World) (hs : s.size ≤ 2000000) : Calls Tryz.prog 97 #[.string s] w fun e w' => e = .returned (.tuple #[.int .u32 (SC.netA (bl s) : Nat), .int .i64 (SC.netL (bl s) : Nat), .bool (SC.netB (bl s))]) ∧ Below w.heap.size w w' := by
  have HPL : Hid (∀ p ∈ SC.cut 47 (bl s), p.length ≤ s.size) := by show ∀ _, _; rw [← bl_len]; exact SC.cut_part 47 (bl s)
  have HNE : Hid (∀ x y, SC.cut 47 (bl s) = [x, y] → SC.net (bl s) = if SC.addrB x = true ∧ SC.decB y = true ∧ 1 ≤ SC.decV y ∧ SC.decV y ≤ 32 then some (SC.addrV x, SC.decV y) else none) := fun x y h => net2 h
  have HNO : Hid ((SC.cut 47 (bl s)).length ≠ 2 → SC.net (bl s) = none) := by
    show _ → _
    intro h
    unfold SC.net
    match hq : SC.cut 47 (bl s) with
    | [] => rfl
    | [_] => rfl
    | [_, _] => rw [hq] at h; exact absurd rfl h
    | _ :: _ :: _ :: _ => rfl
  have hp := refParts_any s 47 w hs
  rw [show (((47 : UInt8).toNat : Nat) : Int) = 47 from rfl] at hp
  have HP := hid hp
  clear hp
  go_enter Tryz.func97, Tryz.ntmps97
  go_wp2_with fail
  refine HP.out.mono ?_
  rintro e w1 ⟨A, c, rfl, ho, hb⟩
  clear HP
  generalize SC.cut 47 (bl s) = L at *
  by_cases h2 : L.length = 2
  rotate_left
  · obtain ⟨e1, e2, e3⟩ := net_of (HNO.out h2)
    have E1 := hid e1
    have E2 := hid e2
    have E3 := hid e3
    clear e1 e2 e3 ho
    as_aux_lemma =>
      go_wp2_with fail
      go_ret3
      exact ⟨by rw [E1.out, E2.out, E3.out]; rfl, hb⟩
  obtain ⟨x, y, rfl⟩ : ∃ x y, L = [x, y] := by
    match L, h2 with
    | [x, y], _ => exact ⟨x, y, rfl⟩
  have hx := HPL.out x (by simp)
  have hy := HPL.out y (by simp)
  have HN2 := hid (HNE.out x y rfl)
  rw [h2] at ho ⊢
  have hsl := own_sl ho
  obtain ⟨b, off, rfl, hbl, p0⟩ := STR_cell hsl (k := 0) (by omega)
  obtain ⟨_, _, e1, _, p1⟩ := STR_cell hsl (k := 1) (by omega)
  injection e1 with e1
  injection e1 with e1 e2
  subst e1; subst e2
  simp only [List.getD_cons_zero, List.getD_cons_succ, Nat.add_zero] at p0 p1
  clear HPL HNE HNO ho h2
  have hA := refAddr_any (S8 x) w1 (by rw [S8_size]; omega)
  rw [bl_S8] at hA
  have HA := hid hA
  have hD := fun w2 => refDecimal_any (S8 y) w2 (by rw [S8_size]; omega)
  rw [bl_S8] at hD
  have HD := hid hD
  clear hA hD
  have hadl := SC.addrV_lt x
  have hdvl := SC.decV_lt y
  go_wp2_with fail
  refine HA.out.mono ?_
  rintro e w2 ⟨rfl, hb2⟩
  have p1' := (hb2.cell (p := ⟨b, off + 1, none⟩) hbl).trans p1
  have hbz := hb.trans (hb2.mono hb.size)
  clear p0 p1 hb2 HA hsl
  go_wp2_with fail
  refine (HD.out w2).mono ?_
  rintro e w3 ⟨rfl, rfl⟩
  clear HD p1' hb
  by_cases hq : SC.addrB x = true ∧ SC.decB y = true ∧ 1 ≤ (SC.decV y) ∧ (SC.decV y) ≤ 32
  · have h0 : SC.net (bl s) = some (SC.addrV x, (SC.decV y)) := by rw [HN2.out, if_pos hq]
    obtain ⟨e1, e2, e3⟩ := net_of h0
    have E1 := hid e1
    have E2 := hid e2
    have E3 := hid e3
    obtain ⟨q1, q2, q3, q4⟩ := hq
    clear e1 e2 e3 h0 HN2
    rw [q1, q2]
    clear q1 q2
    generalize (SC.decV y) = dv at *
    generalize SC.addrV x = av at *
    as_aux_lemma =>
      go_wp2_with fail
      go_ret3
      exact ⟨by rw [E1.out, E2.out, E3.out]; rfl, hbz⟩
  · have h0 : SC.net (bl s) = none := by rw [HN2.out, if_neg hq]
    obtain ⟨e1, e2, e3⟩ := net_of h0
    have E1 := hid e1
    have E2 := hid e2
    have E3 := hid e3
    clear e1 e2 e3 h0 HN2
    cases hab : SC.addrB x with
    | false =>
      clear hq hab
      as_aux_lemma =>
        go_wp2_with fail
        go_ret3
        exact ⟨by rw [E1.out, E2.out, E3.out]; rfl, hbz⟩
    | true =>
      cases hdb : SC.decB y with
      | false =>
        clear hq hab hdb
        as_aux_lemma =>
          go_wp2_with fail
          go_ret3
          exact ⟨by rw [E1.out, E2.out, E3.out]; rfl, hbz⟩
      | true =>
        have hv : (SC.decV y) < 1 ∨ 32 < (SC.decV y) := by
          rcases Nat.lt_or_ge (SC.decV y) 1 with h | h
          · exact .inl h
          · rcases Nat.lt_or_ge 32 (SC.decV y) with h' | h'
            · exact .inr h'
            · exact absurd ⟨hab, hdb, h, h'⟩ hq
        clear hq hab hdb
        generalize (SC.decV y) = dv at *
        generalize SC.addrV x = av at *
        rcases hv with hv | hv
        · as_aux_lemma =>
            go_wp2_with fail
            go_ret3
            exact ⟨by rw [E1.out, E2.out, E3.out]; rfl, hbz⟩
        · as_aux_lemma =>
            go_wp2_with fail
            go_ret3
            exact ⟨by rw [E1.out, E2.out, E3.out]; rfl, hbz⟩
end Go.Proofs.YtecfkhgocjbocaaGreatDoor
