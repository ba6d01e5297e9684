/-
  Contracts of package schema: Addr.
-/
import Derived.Test.YtecfkhgocjbocaaGreatDoorSc6
namespace Go.Proofs.YtecfkhgocjbocaaGreatDoor
set_option linter.unusedVariables false
set_option linter.unusedSimpArgs false
open Go Go.RowKit

theorem u32_or_256 (m v : Nat) (hm : m < 16777216) (hv : v < 256) : bits .or .u32 ((m : Int) * 256) (v : Int) = ((m * 256 + v : Nat) : Int) := by
  have e1 : (BitVec.ofInt 32 ((m : Int) * 256)).toNat = m * 256 := by rw [BitVec.toNat_ofInt]; omega
  have e2 : (BitVec.ofInt 32 (v : Int)).toNat = v := by rw [BitVec.toNat_ofInt]; omega
  show IntKind.u32.wrap ((BitVec.ofInt 32 ((m : Int) * 256) ||| BitVec.ofInt 32 (v : Int)).toNat : Int) = _
  have h3 : m * 256 ||| v = m * 256 + v := by
    have := Nat.shiftLeft_add_eq_or_of_lt (a := m) (i := 8) (b := v) (by omega)
    rw [Nat.shiftLeft_eq] at this
    exact this.symm
  rw [BitVec.toNat_or, e1, e2, h3, IntKind.wrap_u32]
  omega
set_option maxRecDepth 100000 in
set_option maxHeartbeats 3200000 in
theorem addr_any (s : ByteArray) (w : World) (hs : s.size ≤ 2000000) (hen : Env w) : Calls Tryz.prog 115 #[.string s] w fun e w' => e = .returned (.tuple #[.int .u32 (SC.addrV (bl s) : Nat), .bool (SC.addrB (bl s))]) ∧ Below w.heap.size w w' := by
  have HE : Hid (SC.addr (bl s) = if (SC.cut 46 (bl s)).length = 4 then SC.addrF 0 (SC.cut 46 (bl s)) else none) := SC.addr_eq _
  have HPL : Hid (∀ p ∈ SC.cut 46 (bl s), p.length ≤ s.size) := by show ∀ _, _; rw [← bl_len]; exact SC.cut_part 46 (bl s)
  have HP := hid (split_any s w hen hs)
  clear hen
  go_enter Tryz.func115, Tryz.ntmps115
  go_wp2_with fail
  refine HP.out.mono ?_
  rintro e w1 ⟨A, c, rfl, hsl, hb⟩
  clear HP
  generalize SC.cut 46 (bl s) = L at *
  by_cases h4 : L.length = 4
  rotate_left
  · have h0 : SC.addr (bl s) = none := by rw [HE.out, if_neg h4]
    obtain ⟨e1, e2⟩ := addr_of h0
    have E1 := hid e1
    have E2 := hid e2
    clear e1 e2 hsl
    as_aux_lemma =>
      go_wp2_with fail
      go_ret2
      exact ⟨by rw [E1.out, E2.out]; rfl, hb⟩
  have hE := HE.out
  rw [if_pos h4] at hE
  have HEE := hid hE
  rw [h4] at hsl ⊢
  have H4 := hid h4
  clear hE HE h4
  go_wp2_with fail
  go_loopw [5, 17] (fun n i wr => ∃ k m : Nat, k ≤ 4 ∧ n = .int .u32 m ∧ i = .int .i64 k ∧ m < 256 ^ k ∧ Hid (SC.addrF 0 L = SC.addrF m (L.drop k)) ∧ Below w1.heap.size w1 wr) (fun _ i _ => 4 - (intOf i).toNat)
  case atStart => exact ⟨0, 0, by omega, rfl, rfl, by omega, rfl, Below.refl _ _⟩
  case round =>
    obtain ⟨k, m, hk, rfl, rfl, hm, HR, hbr⟩ := hrel
    have hbw := hb.trans (hbr.mono hb.size)
    by_cases hlt : k < 4
    · obtain ⟨b, off, rfl, hbl, p0⟩ := STR_cell (hsl.below hbr) hlt
      have hdr := drop_get L k (by rw [H4.out]; exact hlt)
      have hin : L.getD k [] ∈ L := by
        rw [List.getD_eq_getElem?_getD, List.getElem?_eq_getElem (by rw [H4.out]; exact hlt)]
        exact List.getElem_mem _
      have hps := HPL.out _ hin
      generalize L.getD k [] = p at *
      have hD := decimal_any (S8 p) wr (by rw [S8_size]; omega)
      rw [bl_S8] at hD
      have HD := hid hD
      have hm2 : m < 16777216 := Nat.lt_of_lt_of_le hm (Nat.le_trans (Nat.pow_le_pow_right (by omega) (show k ≤ 3 by omega)) (by decide))
      have HPE := hid (part_eq p)
      have hR2 : SC.addrF 0 L = match SC.part p with
        | some k' => SC.addrF (m * 256 + k') (L.drop (k + 1))
        | none => none := by rw [HR.out, hdr]; rfl
      have HR2 := hid hR2
      clear hdr hin hps hD hR2 HR
      go_wp2_with fail
      refine HD.out.mono ?_
      rintro e w2 ⟨rfl, hb2⟩
      have hbr2 := hbr.trans (hb2.mono hbr.size)
      have hbw2 := hbw.trans (hb2.mono hbw.size)
      clear HD p0 hbr hbw hb2
      by_cases hd : SC.decB p = true ∧ SC.decV p ≤ 255
      · have hR3 := HR2.out
        rw [HPE.out, if_pos hd] at hR3
        obtain ⟨hd1, hd2⟩ := hd
        rw [hd1]
        have HR3 := hid hR3
        clear HPE HR2 hR3 hd1
        generalize SC.decV p = v at *
        have hor := u32_or_256 m v hm2 (by omega)
        have hpow : m * 256 + v < 256 ^ (k + 1) := by rw [Nat.pow_succ]; omega
        have HPW := hid hpow
        clear hpow hm
        go_wp2_with fail
        go_light
        refine ⟨⟨k + 1, m * 256 + v, by omega, ?_, by go_num, HPW.out, HR3, hbr2⟩, by simp [intOf]; omega⟩
        go_num
      · have h0 : SC.addr (bl s) = none := by rw [HEE.out, HR2.out, HPE.out, if_neg hd]
        obtain ⟨e1, e2⟩ := addr_of h0
        have E1 := hid e1
        have E2 := hid e2
        clear e1 e2 h0 HPE HR2
        cases hdb : SC.decB p with
        | false =>
          clear hd
          go_wp2_with fail
          go_ret2
          exact ⟨by rw [E1.out, E2.out]; rfl, hbw2⟩
        | true =>
          rw [hdb] at hd
          have hd2 : 255 < SC.decV p := by
            rcases Nat.lt_or_ge 255 (SC.decV p) with h | h
            · exact h
            · exact absurd ⟨rfl, h⟩ hd
          clear hd hdb
          generalize SC.decV p = v at *
          go_wp2_with fail
          go_ret2
          exact ⟨by rw [E1.out, E2.out]; rfl, hbw2⟩
    · obtain rfl : k = 4 := by omega
      have hR := HR.out
      rw [List.drop_of_length_le (by rw [H4.out]; exact Nat.le_refl _)] at hR
      have h0 : SC.addr (bl s) = some m := by rw [HEE.out, hR]; rfl
      obtain ⟨e1, e2⟩ := addr_of h0
      have E1 := hid e1
      have E2 := hid e2
      clear e1 e2 h0 hR HR HEE
      go_wp2_with fail
      go_ret2
      exact ⟨by rw [E1.out, E2.out]; rfl, hbw⟩
end Go.Proofs.YtecfkhgocjbocaaGreatDoor
