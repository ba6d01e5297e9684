/-
  Contracts of the reference of layer 11: greets, right.
-/
import Derived.Test.YtgopkpogakjckaaPk2
import Derived.Test.YtgopkpogakjckaaPkJ
import Derived.Test.YtgopkpogakjckaaLsa4
namespace Go.Proofs.Ytgopkpogakjckaa
set_option linter.unusedVariables false
set_option linter.unusedSimpArgs false
open Go Go.RowKit SM LM PK

set_option maxRecDepth 100000 in
set_option maxHeartbeats 800000 in
theorem refGreets_any (P : Pkt) (A1 : Option Addr) (n1 c1 : Nat) (w : World) (hn : P.nbs.length = n1) :
    Calls Try.prog 79 #[.agg (gtC P A1 n1 c1)] w fun e w' => e = .returned (.bool (!noHello P)) ∧ Below w.heap.size w w' := by
  obtain ⟨ty, router, area, auth, mask, intv, dead, prio, dr, bdr, nbs, flags, seq, heads, keys, lsas⟩ := P
  simp only at hn
  have hok : Hid (noHello ⟨ty, router, area, auth, mask, intv, dead, prio, dr, bdr, nbs, flags, seq, heads, keys, lsas⟩ = (mask == 0 && intv == 0 && dead == 0 && prio == 0 && dr == 0 && bdr == 0 && n1 == 0)) := by
    show _ = _
    unfold noHello
    simp only [hn]
  clear hn
  have hal := (Below.refl w.heap.size w).alloc (Nat.le_refl _) (.cells (gtC ⟨ty, router, area, auth, mask, intv, dead, prio, dr, bdr, nbs, flags, seq, heads, keys, lsas⟩ A1 n1 c1) 25)
  have HAL := hid hal
  clear hal
  obtain ⟨hcl, hfl⟩ := blk_cells (heap_alloc_new w (.cells (gtC ⟨ty, router, area, auth, mask, intv, dead, prio, dr, bdr, nbs, flags, seq, heads, keys, lsas⟩ A1 n1 c1) 25))
  go_enter Try.func79, Try.ntmps79
  go_upto_region 1 with fail
  generalize w.alloc (.cells (gtC ⟨ty, router, area, auth, mask, intv, dead, prio, dr, bdr, nbs, flags, seq, heads, keys, lsas⟩ A1 n1 c1) 25) = w0 at *
  go_wp2_with fail
  all_goals go_light
  all_goals go_ret
  all_goals refine ⟨ret_bool ?_, HAL.out⟩
  all_goals rw [hok.out]
  all_goals clear HAL hok
  all_goals (first | (simp_all [beq0]; done) | (rw [Bool.eq_iff_iff]; simp; omega) | (rw [Bool.eq_iff_iff]; simp_all; omega))

theorem getD_in {α : Type} (d : α) (l : List α) (k : Nat) (h : k < l.length) : l.getD k d ∈ l := by
  rw [List.getD_eq_getElem?_getD, List.getElem?_eq_getElem h]; exact List.getElem_mem h
theorem ls_zip (l : List Lsa) (R : List LsR) (h : R.length = l.length) (k : Nat) (hk : k < l.length) : (lsAt (l.zip R) k).1 = l.getD k ls0.1 ∧ lsAt (l.zip R) k ∈ l.zip R := by
  have hz : k < (l.zip R).length := by rw [List.length_zip]; omega
  refine ⟨?_, getD_in _ _ _ hz⟩
  unfold lsAt
  rw [List.getD_eq_getElem?_getD, List.getD_eq_getElem?_getD, List.getElem?_eq_getElem hz, List.getElem?_eq_getElem hk]
  simp
theorem rr_zero (P : Pkt) (h : noZero P.auth = false) : rightR P = false := by unfold rightR rightP; rw [h]; simp
theorem rr_heads (P : Pkt) (h : P.heads.all Hdr.ok = false) : rightR P = false := by unfold rightR rightP; rw [h]; simp
theorem rr_keys (P : Pkt) (h : P.keys.all Ky.ok = false) : rightR P = false := by unfold rightR rightP; rw [h]; simp
theorem rr_lsas (P : Pkt) (h : P.lsas.all Lsa.right = false) : rightR P = false := by unfold rightR; rw [h]; simp
theorem rr_lens (P : Pkt) (h : 8 < P.auth.size ∨ 20 < P.heads.length ∨ 20 < P.keys.length ∨ 20 < P.lsas.length ∨ 20 < P.nbs.length) : rightR P = false := by
  cases hr : rightR P
  · rfl
  · exfalso
    have hs := rightR_spec P hr
    unfold rightR rightP plainP noHello greetsP at hr
    simp only [Bool.and_eq_true, Bool.or_eq_true, decide_eq_true_eq, beq_iff_eq, bne_iff_ne, ne_eq, List.length_eq_zero_iff] at hr
    obtain ⟨⟨⟨⟨⟨⟨⟨⟨⟨⟨⟨h1, h2⟩, h3⟩, ⟨⟨⟨q1, q2⟩, q3⟩, q4⟩, q5⟩, h5⟩, h6⟩, h7⟩, h8⟩, h9⟩, h10⟩, h11⟩, _⟩ := hr
    have hnb : P.nbs.length ≤ 20 := by
      rcases q1 with q | q
      · rcases h5 with g | g
        · exact absurd q g
        · exact g.2
      · rw [q.2]; simp
    omega
theorem rr_rest (P : Pkt) (hz : noZero P.auth = true) (hh : P.heads.all Hdr.ok = true) (hk : P.keys.all Ky.ok = true) (hl : P.lsas.all Lsa.right = true) (h8 : P.auth.size ≤ 8) (b1 : P.nbs.length ≤ 20) (b2 : P.heads.length ≤ 20) (b3 : P.keys.length ≤ 20) (b4 : P.lsas.length ≤ 20) :
    rightR P = (decide (1 ≤ P.ty ∧ P.ty ≤ 5) && plainP P && (P.ty != 1 || (decide (1 ≤ P.intv ∧ P.intv ≤ 65535) && decide (1 ≤ P.dead ∧ P.dead ≤ 65535) && decide (0 ≤ P.prio ∧ P.prio ≤ 255))) && decide (0 ≤ P.flags ∧ P.flags ≤ 7)) := by
  unfold rightR rightP greetsP
  rw [hz, hh, hk, hl]
  simp [h8, b1, b2, b3, b4]
theorem ba_get (s : ByteArray) (k : Nat) (h : k < s.size) : s[k] = s.data.toList.getD k 0 := by
  have hs : s.data.toList.length = s.size := by rw [Array.length_toList]; rfl
  rw [List.getD_eq_getElem?_getD, List.getElem?_eq_getElem (by omega)]
  rfl
set_option maxRecDepth 100000 in
set_option maxHeartbeats 20000000 in
theorem rright_any
    (P : Pkt) (A1 : Option Addr) (n1 c1 : Nat) (A2 : Option Addr) (n2 c2 : Nat) (A3 : Option Addr) (n3 c3 : Nat) (A4 : Option Addr) (n4 c4 : Nat) (R : List LsR) (w : World) (h : IsPk w P A1 n1 c1 A2 n2 c2 A3 n3 c3 A4 n4 c4 R)
    (hsa : P.auth.size ≤ 9223372036854775807) : Calls Try.prog 41 #[.agg (pkC P A1 n1 c1 A2 n2 c2 A3 n3 c3 A4 n4 c4)] w fun e w' => e = .returned (.bool (rightR P)) ∧ Below w.heap.size w w' := by
  have hal := (Below.refl w.heap.size w).alloc (Nat.le_refl _) (.cells (pkC P A1 n1 c1 A2 n2 c2 A3 n3 c3 A4 n4 c4) 30)
  have hc0 := (blk_cells (heap_alloc_new w (.cells (pkC P A1 n1 c1 A2 n2 c2 A3 n3 c3 A4 n4 c4) 30))).1
  have hz0 : (w.alloc (.cells (pkC P A1 n1 c1 A2 n2 c2 A3 n3 c3 A4 n4 c4) 30)).heap.size = w.heap.size + 1 := by simp
  have hn := h.lens
  have HG := fun w hn => hid (refGreets_any P A1 n1 c1 w hn)
  have hm2 : n2 ≤ 9223372036854775807 := by have := h.heads.lenN; omega
  have hm3 : n3 ≤ 9223372036854775807 := by have := h.keys.lenN; omega
  have hm4 : n4 ≤ 9223372036854775807 := by have := h.lsas.lenN; omega
  have HRZ := hid (rr_zero P)
  have HRH0 := hid (rr_heads P)
  have HRK0 := hid (rr_keys P)
  have HRL0 := hid (rr_lsas P)
  have HRN := hid (rr_lens P)
  have HRS := hid (rr_rest P)
  have HPL : Hid (plainP P = ((P.ty == 1 || noHello P) && (P.ty == 2 || P.flags == 0 && P.seq == 0) && (P.ty == 2 || P.ty == 5 || P.heads.length == 0) && (P.ty == 3 || P.keys.length == 0) && (P.ty == 4 || P.lsas.length == 0))) := rfl
  obtain ⟨ty, router, area, auth, mask, intv, dead, prio, dr, bdr, nbs, flags, seq, heads, keys, lsas⟩ := P
  simp only at HRZ HRH0 HRK0 HRL0 HRN HRS HPL hsa
  have HZ : Hid (noZero auth = auth.data.toList.all (· != 0)) := rfl
  have hsz : auth.data.toList.length = auth.size := by rw [Array.length_toList]; rfl
  have HSZ := hid hsz
  generalize hrr : rightR ⟨ty, router, area, auth, mask, intv, dead, prio, dr, bdr, nbs, flags, seq, heads, keys, lsas⟩ = RR at *
  clear hsz hrr
  go_enter Try.func41, Try.ntmps41
  go_upto_region 2 with fail
  generalize w.alloc (.cells (pkC ⟨ty, router, area, auth, mask, intv, dead, prio, dr, bdr, nbs, flags, seq, heads, keys, lsas⟩ A1 n1 c1 A2 n2 c2 A3 n3 c3 A4 n4 c4) 30) = w0 at *
  go_loop [3] (fun i => ∃ k : Nat, k ≤ auth.size ∧ i = .int .i64 k ∧ (auth.data.toList.take k).all (· != 0) = true) (fun i => auth.size - (intOf i).toNat)
  case atStart => exact ⟨0, Nat.zero_le _, rfl, by simp⟩
  case round =>
    obtain ⟨k, hk, rfl, hok⟩ := hrel
    have HOK := hid hok
    clear hok
    by_cases hlt : k < auth.size
    · have HS := hid (all_take_succ (· != (0 : UInt8)) 0 auth.data.toList k (by rw [HSZ.out]; exact hlt))
      have hg := ba_get auth k hlt
      have HG := hid hg
      by_cases h00 : auth.data.toList.getD k 0 = 0
      · have q0 : auth[k].toNat = 0 := by rw [hg, h00]; rfl
        have q1 : ((auth[k].toNat : Int) == 0) = true := by rw [q0]; rfl
        have hno : noZero auth = false := by
          rw [HZ.out]
          refine all_take_no _ _ (k + 1) ?_
          rw [HS.out, h00]
          simp
        have HR := hid (HRZ.out hno)
        clear hno hg h00
        as_aux_lemma =>
          go_wp2_with fail
          go_ret
          exact ⟨ret_bool HR.out.symm, hal⟩
      · have q0 : ¬ auth[k].toNat = 0 := by rw [hg]; intro hh; exact h00 (UInt8.toNat_inj.1 (by simpa using hh))
        have q1 : ((auth[k].toNat : Int) == 0) = false := by rw [beq_eq_false_iff_ne]; omega
        have hb : (auth.data.toList.getD k 0 != 0) = true := by simpa using h00
        have HB := hid hb
        clear hg h00 hb
        as_aux_lemma =>
          go_wp2_with fail
          go_light
          exact ⟨⟨k + 1, by omega, by go_num, by rw [HS.out, HOK.out, HB.out]; rfl⟩, by simp [intOf]; omega⟩
    · obtain rfl : k = auth.size := by omega
      have hz : noZero auth = true := by
        have := HOK.out
        rw [List.take_of_length_le (by rw [HSZ.out]; exact Nat.le_refl _)] at this
        exact this
      have HZ1 := hid hz
      clear hz HOK HRZ HZ HSZ
      as_aux_lemma =>
        go_upto_region 7 with fail
        have hrh : ∀ k, k ≤ n2 → ((heads.take k).all Hdr.ok = false) → RR = false := fun k _ hk => HRH0.out (all_take_no Hdr.ok heads k hk)
        have HRH := hid hrh
        clear hrh HRH0
        have hbw : ∀ wr, Below w0.heap.size w0 wr → Below w.heap.size w wr := fun wr hb => hal.trans (hb.mono (by omega))
        have HBW := hid hbw
        have HC0 := hid hc0
        have HH := hid h
        have HN := hid hn
        clear hbw hc0 h hn
        go_loopw [4] (fun i wr => ∃ k : Nat, k ≤ n2 ∧ i = .int .i64 k ∧ (heads.take k).all Hdr.ok = true ∧ Below w0.heap.size w0 wr) (fun i _ => n2 - (intOf i).toNat)
        case atStart => exact ⟨0, Nat.zero_le _, rfl, by simp, Below.refl _ _⟩
        case round =>
          obtain ⟨k, hk, rfl, hok, hbr⟩ := hrel
          have HOK := hid hok
          clear hok
          have hsz := hbr.size
          have k1 : ∀ i, wr.cell? ⟨w.heap.size, i, none⟩ = _ := fun i => (hbr.cell (p := ⟨w.heap.size, i, none⟩) (by simp; omega)).trans (HC0.out i)
          by_cases hlt : k < n2
          · have hlt' : k < heads.length := by rw [HN.out.2.1]; exact hlt
            obtain ⟨b, off, rfl, hbl, q0, q1, q2, q3, q4, q5, q6⟩ := (HH.out.heads.below (HBW.out wr hbr)).hd hlt
            have HS := hid (all_take_succ Hdr.ok hd0 heads k hlt')
            rw [show heads.getD k hd0 = hdAt heads k from rfl] at HS
            clear hlt'
            generalize hdAt heads k = X at *
            obtain ⟨xa, xt, xi, xv, xs, xm, xl⟩ := X
            simp only at q0 q1 q2 q3 q4 q5 q6
            by_cases a1 : xa < 0
            ·
              have t1 : decide (xa < 0) = true := by simpa using a1
              have hX : Hdr.ok ⟨xa, xt, xi, xv, xs, xm, xl⟩ = false := by simp [Hdr.ok]; omega
              have hR := HRH.out (k + 1) (by omega) (by rw [HS.out, hX, Bool.and_false])
              have HR := hid hR
              clear hX hR a1
              as_aux_lemma =>
                go_wp2_with fail
                go_ret
                exact ⟨ret_bool HR.out.symm, HBW.out _ (hbr.alloc (by omega) _)⟩
            have t1 : decide (xa < 0) = false := by simpa using a1
            by_cases a2 : 65535 < xa
            ·
              have t2 : decide (65535 < xa) = true := by simpa using a2
              have hX : Hdr.ok ⟨xa, xt, xi, xv, xs, xm, xl⟩ = false := by simp [Hdr.ok]; omega
              have hR := HRH.out (k + 1) (by omega) (by rw [HS.out, hX, Bool.and_false])
              have HR := hid hR
              clear hX hR a1 a2
              as_aux_lemma =>
                go_wp2_with fail
                go_ret
                exact ⟨ret_bool HR.out.symm, HBW.out _ (hbr.alloc (by omega) _)⟩
            have t2 : decide (65535 < xa) = false := by simpa using a2
            by_cases a3 : xl < 0
            ·
              have t3 : decide (xl < 0) = true := by simpa using a3
              have hX : Hdr.ok ⟨xa, xt, xi, xv, xs, xm, xl⟩ = false := by simp [Hdr.ok]; omega
              have hR := HRH.out (k + 1) (by omega) (by rw [HS.out, hX, Bool.and_false])
              have HR := hid hR
              clear hX hR a1 a2 a3
              as_aux_lemma =>
                go_wp2_with fail
                go_ret
                exact ⟨ret_bool HR.out.symm, HBW.out _ (hbr.alloc (by omega) _)⟩
            have t3 : decide (xl < 0) = false := by simpa using a3
            by_cases a4 : 65535 < xl
            ·
              have t4 : decide (65535 < xl) = true := by simpa using a4
              have hX : Hdr.ok ⟨xa, xt, xi, xv, xs, xm, xl⟩ = false := by simp [Hdr.ok]; omega
              have hR := HRH.out (k + 1) (by omega) (by rw [HS.out, hX, Bool.and_false])
              have HR := hid hR
              clear hX hR a1 a2 a3 a4
              as_aux_lemma =>
                go_wp2_with fail
                go_ret
                exact ⟨ret_bool HR.out.symm, HBW.out _ (hbr.alloc (by omega) _)⟩
            have t4 : decide (65535 < xl) = false := by simpa using a4
            by_cases a5 : xs < -2147483648
            ·
              have t5 : decide (xs < -2147483648) = true := by simpa using a5
              have hX : Hdr.ok ⟨xa, xt, xi, xv, xs, xm, xl⟩ = false := by simp [Hdr.ok]; omega
              have hR := HRH.out (k + 1) (by omega) (by rw [HS.out, hX, Bool.and_false])
              have HR := hid hR
              clear hX hR a1 a2 a3 a4 a5
              as_aux_lemma =>
                go_wp2_with fail
                go_ret
                exact ⟨ret_bool HR.out.symm, HBW.out _ (hbr.alloc (by omega) _)⟩
            have t5 : decide (xs < -2147483648) = false := by simpa using a5
            by_cases a6 : 2147483647 < xs
            ·
              have t6 : decide (2147483647 < xs) = true := by simpa using a6
              have hX : Hdr.ok ⟨xa, xt, xi, xv, xs, xm, xl⟩ = false := by simp [Hdr.ok]; omega
              have hR := HRH.out (k + 1) (by omega) (by rw [HS.out, hX, Bool.and_false])
              have HR := hid hR
              clear hX hR a1 a2 a3 a4 a5 a6
              as_aux_lemma =>
                go_wp2_with fail
                go_ret
                exact ⟨ret_bool HR.out.symm, HBW.out _ (hbr.alloc (by omega) _)⟩
            have t6 : decide (2147483647 < xs) = false := by simpa using a6
            by_cases a7 : xt < 0
            ·
              have t7 : decide (xt < 0) = true := by simpa using a7
              have hX : Hdr.ok ⟨xa, xt, xi, xv, xs, xm, xl⟩ = false := by simp [Hdr.ok]; omega
              have hR := HRH.out (k + 1) (by omega) (by rw [HS.out, hX, Bool.and_false])
              have HR := hid hR
              clear hX hR a1 a2 a3 a4 a5 a6 a7
              as_aux_lemma =>
                go_wp2_with fail
                go_ret
                exact ⟨ret_bool HR.out.symm, HBW.out _ (hbr.alloc (by omega) _)⟩
            have t7 : decide (xt < 0) = false := by simpa using a7
            by_cases a8 : 255 < xt
            ·
              have t8 : decide (255 < xt) = true := by simpa using a8
              have hX : Hdr.ok ⟨xa, xt, xi, xv, xs, xm, xl⟩ = false := by simp [Hdr.ok]; omega
              have hR := HRH.out (k + 1) (by omega) (by rw [HS.out, hX, Bool.and_false])
              have HR := hid hR
              clear hX hR a1 a2 a3 a4 a5 a6 a7 a8
              as_aux_lemma =>
                go_wp2_with fail
                go_ret
                exact ⟨ret_bool HR.out.symm, HBW.out _ (hbr.alloc (by omega) _)⟩
            have t8 : decide (255 < xt) = false := by simpa using a8
            have hX : Hdr.ok ⟨xa, xt, xi, xv, xs, xm, xl⟩ = true := by simp [Hdr.ok]; omega
            have HX := hid hX
            clear hX a1 a2 a3 a4 a5 a6 a7 a8
            as_aux_lemma =>
              go_wp2_with fail
              go_light
              exact ⟨⟨k + 1, by omega, by go_num, by rw [HS.out, HOK.out, HX.out]; rfl, hbr.alloc (by omega) _⟩, by simp [intOf]; omega⟩
          · obtain rfl : n2 = k := by omega
            have hha : heads.all Hdr.ok = true := by
              have := HOK.out
              rw [List.take_of_length_le (by rw [HN.out.2.1]; exact Nat.le_refl _)] at this
              exact this
            have HHA := hid hha
            have hbbr := HBW.out wr hbr
            have hzr : w.heap.size < wr.heap.size := by omega
            clear hha HOK HRH HBW HC0 hbr hk hlt hsz hz0 hal
            as_aux_lemma =>
              go_upto_region 13 with fail
              have hrh : ∀ k, k ≤ n3 → ((keys.take k).all Ky.ok = false) → RR = false := fun k _ hk => HRK0.out (all_take_no Ky.ok keys k hk)
              have HRH := hid hrh
              clear hrh HRK0
              have K1 := hid k1
              clear k1
              go_loop [6] (fun i => ∃ k : Nat, k ≤ n3 ∧ i = .int .i64 k ∧ (keys.take k).all Ky.ok = true) (fun i => n3 - (intOf i).toNat)
              case atStart => exact ⟨0, Nat.zero_le _, rfl, by simp⟩
              case round =>
                obtain ⟨k, hk, rfl, hok⟩ := hrel
                have HOK := hid hok
                have k1 := K1.out
                clear hok
                by_cases hlt : k < n3
                · have hlt' : k < keys.length := by rw [HN.out.2.2.1]; exact hlt
                  obtain ⟨b, off, rfl, hbl, q0, q1, q2⟩ := (HH.out.keys.below hbbr).ky hlt
                  have HS := hid (all_take_succ Ky.ok ky0 keys k hlt')
                  rw [show keys.getD k ky0 = kyAt keys k from rfl] at HS
                  clear hlt'
                  generalize kyAt keys k = X at *
                  obtain ⟨xt, xi, xv⟩ := X
                  simp only at q0 q1 q2
                  by_cases a1 : xt < 0
                  · have t1 : decide (xt < 0) = true := by simpa using a1
                    have hX : Ky.ok ⟨xt, xi, xv⟩ = false := by simp [Ky.ok]; omega
                    have HR := hid (HRH.out (k + 1) (by omega) (by rw [HS.out, hX, Bool.and_false]))
                    clear hX a1
                    as_aux_lemma =>
                      go_wp2_with fail
                      go_ret
                      exact ⟨ret_bool HR.out.symm, hbbr⟩
                  have t1 : decide (xt < 0) = false := by simpa using a1
                  by_cases a2 : 255 < xt
                  · have t2 : decide (255 < xt) = true := by simpa using a2
                    have hX : Ky.ok ⟨xt, xi, xv⟩ = false := by simp [Ky.ok]; omega
                    have HR := hid (HRH.out (k + 1) (by omega) (by rw [HS.out, hX, Bool.and_false]))
                    clear hX a1 a2
                    as_aux_lemma =>
                      go_wp2_with fail
                      go_ret
                      exact ⟨ret_bool HR.out.symm, hbbr⟩
                  have t2 : decide (255 < xt) = false := by simpa using a2
                  have hX : Ky.ok ⟨xt, xi, xv⟩ = true := by simp [Ky.ok]; omega
                  have HX := hid hX
                  clear hX a1 a2
                  as_aux_lemma =>
                    go_wp2_with fail
                    go_light
                    exact ⟨⟨k + 1, by omega, by go_num, by rw [HS.out, HOK.out, HX.out]; rfl⟩, by simp [intOf]; omega⟩
                · obtain rfl : n3 = k := by omega
                  have hka : keys.all Ky.ok = true := by
                    have := HOK.out
                    rw [List.take_of_length_le (by rw [HN.out.2.2.1]; exact Nat.le_refl _)] at this
                    exact this
                  have HKA := hid hka
                  clear hka HOK HRH hk
                  obtain ⟨w0, rfl⟩ : ∃ w0 : World, w0 = wr := ⟨_, rfl⟩
                  as_aux_lemma =>
                    go_upto_region 18 with fail
                    clear k1 hlt
                    have hrh : ∀ k, k ≤ n4 → ((lsas.take k).all Lsa.right = false) → RR = false := fun k _ hk => HRL0.out (all_take_no Lsa.right lsas k hk)
                    have HRH := hid hrh
                    clear hrh HRL0
                    go_loopw [7] (fun i wr => ∃ k : Nat, k ≤ n4 ∧ i = .int .i64 k ∧ (lsas.take k).all Lsa.right = true ∧ Below w0.heap.size w0 wr) (fun i _ => n4 - (intOf i).toNat)
                    case atStart => exact ⟨0, Nat.zero_le _, rfl, by simp, Below.refl _ _⟩
                    case round =>
                      obtain ⟨k, hk, rfl, hok, hbr⟩ := hrel
                      have HOK := hid hok
                      clear hok
                      have hsz := hbr.size
                      have hbb := hbbr.trans (hbr.mono (by omega))
                      have k1 : ∀ i, wr.cell? ⟨w.heap.size, i, none⟩ = _ := fun i => (hbr.cell (p := ⟨w.heap.size, i, none⟩) (by simp; omega)).trans (K1.out i)
                      by_cases hlt : k < n4
                      · have hlt' : k < lsas.length := by rw [HN.out.2.2.2]; exact hlt
                        obtain ⟨z1, z2⟩ := ls_zip lsas R HH.out.rl k hlt'
                        have hil := (HH.out.each _ z2).below hbb
                        obtain ⟨b, off, rfl, hbl, hq⟩ := (HH.out.lsas.below hbb).ls hlt
                        have HS := hid (all_take_succ Lsa.right ls0.1 lsas k hlt')
                        rw [← z1] at HS
                        clear hlt' z1 z2
                        generalize lsAt (lsas.zip R) k = X at *
                        obtain ⟨X, rA1, rn1, rc1, rA2, rn2, rc2⟩ := X
                        have q0 := hq 0 (by omega); have q1 := hq 1 (by omega); have q2 := hq 2 (by omega); have q3 := hq 3 (by omega); have q4 := hq 4 (by omega); have q5 := hq 5 (by omega); have q6 := hq 6 (by omega); have q7 := hq 7 (by omega); have q8 := hq 8 (by omega)
                        simp [lsC] at q0 q1 q2 q3 q4 q5 q6 q7 q8
                        obtain ⟨i1, i2⟩ := hil
                        simp only at i1 i2
                        clear hq
                        as_aux_lemma =>
                          go_wp2_with fail
                          refine (refRight_l X rA1 rn1 rc1 rA2 rn2 rc2 wr i1 i2).mono ?_
                          rintro e w2 ⟨rfl, hb2⟩
                          have hbr2 := hbr.trans (hb2.mono hsz)
                          have hbb2 := hbb.trans (hb2.mono (by omega))
                          clear q0 q1 q2 q3 q4 q5 q6 q7 q8 i1 i2 k1
                          try simp only at HS
                          cases hX : X.right
                          · have HR := hid (HRH.out (k + 1) (by omega) (by rw [HS.out, hX, Bool.and_false]))
                            clear hX
                            go_wp2_with fail
                            go_ret
                            exact ⟨ret_bool HR.out.symm, hbb2⟩
                          · have HX := hid hX
                            clear hX
                            go_wp2_with fail
                            go_light
                            exact ⟨⟨k + 1, by omega, by go_num, by rw [HS.out, HOK.out, HX.out]; rfl, hbr2⟩, by simp [intOf]; omega⟩
                      · obtain rfl : n4 = k := by omega
                        have hla : lsas.all Lsa.right = true := by
                          have := HOK.out
                          rw [List.take_of_length_le (by rw [HN.out.2.2.2]; exact Nat.le_refl _)] at this
                          exact this
                        obtain ⟨m1, m2, m3, m4⟩ := HN.out
                        try simp only at m1 m2 m3 m4
                        rw [m1, m2, m3, m4] at HRN
                        rw [m2, m3, m4] at HPL
                        have HRS2 := hid (HRS.out HZ1.out HHA.out HKA.out hla)
                        rw [m1, m2, m3, m4, HPL.out] at HRS2
                        have HGW := fun wz => (HG wz m1).out
                        generalize noHello ⟨ty, router, area, auth, mask, intv, dead, prio, dr, bdr, nbs, flags, seq, heads, keys, lsas⟩ = nh at *
                        have hzr2 : w.heap.size < wr.heap.size := by omega
                        clear hla HOK HRH hk hlt HRS HZ1 HHA HKA HH HN m1 m2 m3 m4 HPL HG K1 hbr hbbr hsz hzr
                        as_aux_lemma =>
                          by_cases hlong : 8 < auth.size ∨ 20 < n2 ∨ 20 < n3 ∨ 20 < n4 ∨ 20 < n1
                          · have HR := hid (HRN.out hlong)
                            have HLO := hid hlong
                            clear HRN HRS2 HGW hlong
                            as_aux_lemma =>
                              go_wp2_with fail
                              all_goals first
                                | (go_ret; exact ⟨ret_bool HR.out.symm, hbb⟩)
                                | (exfalso; have := HLO.out; omega)
                          · have g8 : auth.size ≤ 8 := by omega
                            have g1 : n1 ≤ 20 := by omega
                            have g2 : n2 ≤ 20 := by omega
                            have g3 : n3 ≤ 20 := by omega
                            have g4 : n4 ≤ 20 := by omega
                            have HRS3 := hid (HRS2.out g8 g1 g2 g3 g4)
                            have u8' : decide (8 < (auth.size : Int)) = false := by simp; omega
                            have u1 : decide (20 < (n1 : Int)) = false := by simp; omega
                            have u2' : decide (20 < (n2 : Int)) = false := by simp; omega
                            have u3' : decide (20 < (n3 : Int)) = false := by simp; omega
                            have u4' : decide (20 < (n4 : Int)) = false := by simp; omega
                            clear HRN HRS2 hlong g8 g1 g2 g3 g4
                            go_upto_region 24 with fail
                            clear u8' u1 u2' u3' u4'
                            obtain ⟨d, hd⟩ : ∃ d : Bool, d = (flags != 0 || seq != 0) := ⟨_, rfl⟩
                            obtain ⟨h2, hh2⟩ : ∃ b : Bool, b = decide (0 < (n2 : Int)) := ⟨_, rfl⟩
                            obtain ⟨h3, hh3⟩ : ∃ b : Bool, b = decide (0 < (n3 : Int)) := ⟨_, rfl⟩
                            obtain ⟨h4, hh4⟩ : ∃ b : Bool, b = decide (0 < (n4 : Int)) := ⟨_, rfl⟩
                            have q1 : (flags == 0 && seq == 0) = !d := by rw [hd]; rw [Bool.eq_iff_iff]; simp
                            have q2 : (n2 == 0) = !h2 := by rw [hh2]; rw [Bool.eq_iff_iff]; simp
                            have q3 : (n3 == 0) = !h3 := by rw [hh3]; rw [Bool.eq_iff_iff]; simp
                            have q4 : (n4 == 0) = !h4 := by rw [hh4]; rw [Bool.eq_iff_iff]; simp
                            have q5 : Hid (d = false → decide (0 ≤ flags ∧ flags ≤ 7) = true) := by
                              show _ → _
                              intro hdf
                              rw [hd] at hdf
                              simp at hdf
                              simp [hdf.1]
                            rw [q1, q2, q3, q4] at HRS3
                            have HD := hid hd
                            have HH2 := hid hh2
                            have HH3 := hid hh3
                            have HH4 := hid hh4
                            clear q1 q2 q3 q4 hd hh2 hh3 hh4
                            go_cut [8, 9, 10, 11, 12] (fun a b x y z wx => a = .bool (!nh) ∧ b = .bool d ∧ x = .bool h2 ∧ y = .bool h3 ∧ z = .bool h4 ∧ Below wr.heap.size wr wx)
                            case first =>
                              have k0 : ∀ (x : WK (fun _ => False) wr) j, (wat x).cell? ⟨w.heap.size, j, none⟩ = _ := fun x j => (wat_cell (p := ⟨w.heap.size, j, none⟩) hzr2 (by simp) x).trans (k1 j)
                              have z4 := fun x => k0 x 4; have z5 := fun x => k0 x 5; have z6 := fun x => k0 x 6; have z7 := fun x => k0 x 7; have z8 := fun x => k0 x 8; have z9 := fun x => k0 x 9; have z10 := fun x => k0 x 10
                              have z11 := fun x => k0 x 11; have z12 := fun x => k0 x 12; have z13 := fun x => k0 x 13; have z14 := fun x => k0 x 14; have z15 := fun x => k0 x 15
                              simp at z4 z5 z6 z7 z8 z9 z10 z11 z12 z13 z14 z15
                              clear k0 k1
                              by_cases f0 : flags = 0
                              · have f1 : (flags != 0) = false := by simpa using f0
                                have hdv : Hid (((seq : Int) != 0) = d) := by show _ = _; rw [HD.out, f1, Bool.false_or]; rw [Bool.eq_iff_iff]; simp
                                clear f0
                                as_aux_lemma =>
                                  refine wp_region_loud (fun _ => False) [(2, plainL [] (.bool (!nh)))] (fun _ => Fact.none) (by kernel_rfl) (by kernel_rfl) (.cons (plainL_ok _ _) .nil) good_nothing sat_none (WX.out ?_)
                                  repeat (first | (refine wx_quietU (by rfl) (by rfl) (by rfl) (fun K hK => ?_); go_big_quiet_op; refine hK _ ?_; clear hK K) | (refine wx_quietG (by rfl) (by rfl) (by rfl) (by rfl) (by rfl) (fun K hK => ?_); go_big_quiet_op; refine hK _ ?_; clear hK K) | (refine wx_skipG (by rfl) (by rfl) (by rfl) (fun K hK => ?_); go_simp; refine hK _ ?_; clear hK K) | (refine wx_skipN (by rfl) (by rfl) (by rfl) (fun K hK => ?_); go_simp; refine hK _ ?_; clear hK K))
                                  refine wx_loudU (us := []) (by rfl) (by rfl) (fun S wS hC hS hU => runs_enter (f := 79) (by go_simp <;> rfl) ?_) (fun v hv K hK => ?_)
                                  · refine (HGW wS).mono ?_
                                    rintro e w' ⟨rfl, hb2⟩
                                    exact ⟨_, rfl, rfl, Kept.of_below hb2, trivial⟩
                                  obtain rfl := hv; (go_simp; refine hK _ ?_; clear hK K)
                                  repeat (first | (refine wx_quietU (by rfl) (by rfl) (by rfl) (fun K hK => ?_); go_big_quiet_op; refine hK _ ?_; clear hK K) | (refine wx_quietG (by rfl) (by rfl) (by rfl) (by rfl) (by rfl) (fun K hK => ?_); go_big_quiet_op; refine hK _ ?_; clear hK K) | (refine wx_skipG (by rfl) (by rfl) (by rfl) (fun K hK => ?_); go_simp; refine hK _ ?_; clear hK K) | (refine wx_skipN (by rfl) (by rfl) (by rfl) (fun K hK => ?_); go_simp; refine hK _ ?_; clear hK K))
                                  refine wx_nil fun wreg hsat => ?_
                                  have hb9 := sat_below hsat
                                  clear hsat
                                  go_wp2_with fail
                                  all_goals go_meet
                                  all_goals go_light
                                  exact ⟨rfl, by rw [hdv.out], by rw [HH2.out] <;> simp, by rw [HH3.out] <;> simp, by rw [HH4.out] <;> simp, hb9⟩
                              · have f1 : (flags != 0) = true := by simpa using f0
                                have hdv : Hid (true = d) := by show _ = _; rw [HD.out, f1, Bool.true_or]
                                clear f0
                                as_aux_lemma =>
                                  refine wp_region_loud (fun _ => False) [(2, plainL [] (.bool (!nh)))] (fun _ => Fact.none) (by kernel_rfl) (by kernel_rfl) (.cons (plainL_ok _ _) .nil) good_nothing sat_none (WX.out ?_)
                                  repeat (first | (refine wx_quietU (by rfl) (by rfl) (by rfl) (fun K hK => ?_); go_big_quiet_op; refine hK _ ?_; clear hK K) | (refine wx_quietG (by rfl) (by rfl) (by rfl) (by rfl) (by rfl) (fun K hK => ?_); go_big_quiet_op; refine hK _ ?_; clear hK K) | (refine wx_skipG (by rfl) (by rfl) (by rfl) (fun K hK => ?_); go_simp; refine hK _ ?_; clear hK K) | (refine wx_skipN (by rfl) (by rfl) (by rfl) (fun K hK => ?_); go_simp; refine hK _ ?_; clear hK K))
                                  refine wx_loudU (us := []) (by rfl) (by rfl) (fun S wS hC hS hU => runs_enter (f := 79) (by go_simp <;> rfl) ?_) (fun v hv K hK => ?_)
                                  · refine (HGW wS).mono ?_
                                    rintro e w' ⟨rfl, hb2⟩
                                    exact ⟨_, rfl, rfl, Kept.of_below hb2, trivial⟩
                                  obtain rfl := hv; (go_simp; refine hK _ ?_; clear hK K)
                                  repeat (first | (refine wx_quietU (by rfl) (by rfl) (by rfl) (fun K hK => ?_); go_big_quiet_op; refine hK _ ?_; clear hK K) | (refine wx_quietG (by rfl) (by rfl) (by rfl) (by rfl) (by rfl) (fun K hK => ?_); go_big_quiet_op; refine hK _ ?_; clear hK K) | (refine wx_skipG (by rfl) (by rfl) (by rfl) (fun K hK => ?_); go_simp; refine hK _ ?_; clear hK K) | (refine wx_skipN (by rfl) (by rfl) (by rfl) (fun K hK => ?_); go_simp; refine hK _ ?_; clear hK K))
                                  refine wx_nil fun wreg hsat => ?_
                                  have hb9 := sat_below hsat
                                  clear hsat
                                  go_wp2_with fail
                                  all_goals go_meet
                                  all_goals go_light
                                  exact ⟨rfl, by rw [hdv.out], by rw [HH2.out] <;> simp, by rw [HH3.out] <;> simp, by rw [HH4.out] <;> simp, hb9⟩
                            case rest =>
                              obtain ⟨rfl, rfl, rfl, rfl, rfl, hbx⟩ := hcut
                              have hbbg := hbb.trans (hbx.mono (by omega))
                              have hcg : ∀ i, wc.cell? ⟨w.heap.size, i, none⟩ = _ := fun i => (hbx.cell (p := ⟨w.heap.size, i, none⟩) hzr2).trans (k1 i)
                              obtain ⟨g, hg⟩ : ∃ g : Bool, g = !nh := ⟨_, rfl⟩
                              have hnh : nh = !g := by rw [hg]; simp
                              rw [← hg]
                              rw [hnh] at HRS3
                              have hbs := hbbg.size
                              clear hg hnh k1 HD HH2 HH3 HH4 hbx hbb HGW
                              by_cases t1 : ty = 1
                              · subst t1
                                have HOK : Hid (RR = (!d && !h2 && !h3 && !h4 && (decide (1 ≤ intv ∧ intv ≤ 65535) && decide (1 ≤ dead ∧ dead ≤ 65535) && decide (0 ≤ prio ∧ prio ≤ 255)))) := by
                                  show _ = _
                                  rw [HRS3.out]
                                  cases d
                                  · rw [q5.out rfl]; simp
                                  · simp
                                clear HRS3 q5
                                cases d
                                rotate_left
                                ·
                                  as_aux_lemma =>
                                    go_wp2_with fail
                                    go_ret
                                    exact ⟨ret_bool (by rw [HOK.out]; simp), by first | exact hbbg | exact hbbg.alloc (by omega) _⟩
                                cases h2
                                rotate_left
                                ·
                                  as_aux_lemma =>
                                    go_wp2_with fail
                                    go_ret
                                    exact ⟨ret_bool (by rw [HOK.out]; simp), by first | exact hbbg | exact hbbg.alloc (by omega) _⟩
                                cases h3
                                rotate_left
                                ·
                                  as_aux_lemma =>
                                    go_wp2_with fail
                                    go_ret
                                    exact ⟨ret_bool (by rw [HOK.out]; simp), by first | exact hbbg | exact hbbg.alloc (by omega) _⟩
                                cases h4
                                rotate_left
                                ·
                                  as_aux_lemma =>
                                    go_wp2_with fail
                                    go_ret
                                    exact ⟨ret_bool (by rw [HOK.out]; simp), by first | exact hbbg | exact hbbg.alloc (by omega) _⟩
                                have i1 : (decide (1 ≤ intv ∧ intv ≤ 65535) && decide (1 ≤ dead ∧ dead ≤ 65535) && decide (0 ≤ prio ∧ prio ≤ 255)) = (decide (1 ≤ intv) && decide (intv ≤ 65535) && decide (1 ≤ dead) && decide (dead ≤ 65535) && decide (0 ≤ prio) && decide (prio ≤ 255)) := by rw [Bool.eq_iff_iff]; simp; omega
                                rw [i1] at HOK
                                clear i1
                                by_cases x1 : 1 ≤ intv
                                rotate_left
                                · have y1 : decide (1 ≤ intv) = false := by simpa using x1
                                  clear x1
                                  as_aux_lemma =>
                                    go_wp2_with fail
                                    go_ret
                                    refine ⟨ret_bool ?_, by first | exact hbbg | exact hbbg.alloc (by omega) _⟩
                                    rw [HOK.out, y1]
                                    simp
                                have y1 : decide (1 ≤ intv) = true := by simpa using x1
                                clear x1
                                by_cases x2 : intv ≤ 65535
                                rotate_left
                                · have y2 : decide (intv ≤ 65535) = false := by simpa using x2
                                  clear x2
                                  as_aux_lemma =>
                                    go_wp2_with fail
                                    go_ret
                                    refine ⟨ret_bool ?_, by first | exact hbbg | exact hbbg.alloc (by omega) _⟩
                                    rw [HOK.out, y2]
                                    simp
                                have y2 : decide (intv ≤ 65535) = true := by simpa using x2
                                clear x2
                                by_cases x3 : 1 ≤ dead
                                rotate_left
                                · have y3 : decide (1 ≤ dead) = false := by simpa using x3
                                  clear x3
                                  as_aux_lemma =>
                                    go_wp2_with fail
                                    go_ret
                                    refine ⟨ret_bool ?_, by first | exact hbbg | exact hbbg.alloc (by omega) _⟩
                                    rw [HOK.out, y3]
                                    simp
                                have y3 : decide (1 ≤ dead) = true := by simpa using x3
                                clear x3
                                by_cases x4 : dead ≤ 65535
                                rotate_left
                                · have y4 : decide (dead ≤ 65535) = false := by simpa using x4
                                  clear x4
                                  as_aux_lemma =>
                                    go_wp2_with fail
                                    go_ret
                                    refine ⟨ret_bool ?_, by first | exact hbbg | exact hbbg.alloc (by omega) _⟩
                                    rw [HOK.out, y4]
                                    simp
                                have y4 : decide (dead ≤ 65535) = true := by simpa using x4
                                clear x4
                                by_cases x5 : 0 ≤ prio
                                rotate_left
                                · have y5 : decide (0 ≤ prio) = false := by simpa using x5
                                  clear x5
                                  as_aux_lemma =>
                                    go_wp2_with fail
                                    go_ret
                                    refine ⟨ret_bool ?_, by first | exact hbbg | exact hbbg.alloc (by omega) _⟩
                                    rw [HOK.out, y5]
                                    simp
                                have y5 : decide (0 ≤ prio) = true := by simpa using x5
                                clear x5
                                as_aux_lemma =>
                                  go_wp2_with fail
                                  go_ret
                                  exact ⟨ret_bool (by rw [HOK.out]; simp [y1, y2, y3, y4, y5]), hbbg.alloc (by omega) _⟩
                              by_cases t2 : ty = 2
                              · subst t2
                                have HOK : Hid (RR = (!g && !h3 && !h4 && decide (0 ≤ flags ∧ flags ≤ 7))) := by
                                  show _ = _
                                  rw [HRS3.out]
                                  simp
                                clear HRS3 q5 t1
                                cases g
                                rotate_left
                                ·
                                  as_aux_lemma =>
                                    go_wp2_with fail
                                    go_ret
                                    exact ⟨ret_bool (by rw [HOK.out]; simp), by first | exact hbbg | exact hbbg.alloc (by omega) _⟩
                                cases h3
                                rotate_left
                                ·
                                  as_aux_lemma =>
                                    go_wp2_with fail
                                    go_ret
                                    exact ⟨ret_bool (by rw [HOK.out]; simp), by first | exact hbbg | exact hbbg.alloc (by omega) _⟩
                                cases h4
                                rotate_left
                                ·
                                  as_aux_lemma =>
                                    go_wp2_with fail
                                    go_ret
                                    exact ⟨ret_bool (by rw [HOK.out]; simp), by first | exact hbbg | exact hbbg.alloc (by omega) _⟩
                                have i1 : decide (0 ≤ flags ∧ flags ≤ 7) = (decide (0 ≤ flags) && decide (flags ≤ 7)) := by rw [Bool.eq_iff_iff]; simp
                                rw [i1] at HOK
                                clear i1
                                by_cases x1 : 0 ≤ flags
                                rotate_left
                                · have y1 : decide (0 ≤ flags) = false := by simpa using x1
                                  clear x1
                                  as_aux_lemma =>
                                    go_wp2_with fail
                                    go_ret
                                    refine ⟨ret_bool ?_, by first | exact hbbg | exact hbbg.alloc (by omega) _⟩
                                    rw [HOK.out, y1]
                                    simp
                                have y1 : decide (0 ≤ flags) = true := by simpa using x1
                                clear x1
                                as_aux_lemma =>
                                  go_wp2_with fail
                                  go_ret
                                  exact ⟨ret_bool (by rw [HOK.out]; simp [y1]), hbbg⟩
                              by_cases t3 : ty = 3
                              · subst t3
                                have HOK : Hid (RR = (!g && !d && !h2 && !h4)) := by
                                  show _ = _
                                  rw [HRS3.out]
                                  cases d
                                  · rw [q5.out rfl]; simp
                                  · simp
                                clear HRS3 q5 t1 t2
                                cases g
                                rotate_left
                                ·
                                  as_aux_lemma =>
                                    go_wp2_with fail
                                    go_ret
                                    exact ⟨ret_bool (by rw [HOK.out]; simp), by first | exact hbbg | exact hbbg.alloc (by omega) _⟩
                                cases d
                                rotate_left
                                ·
                                  as_aux_lemma =>
                                    go_wp2_with fail
                                    go_ret
                                    exact ⟨ret_bool (by rw [HOK.out]; simp), by first | exact hbbg | exact hbbg.alloc (by omega) _⟩
                                cases h2
                                rotate_left
                                ·
                                  as_aux_lemma =>
                                    go_wp2_with fail
                                    go_ret
                                    exact ⟨ret_bool (by rw [HOK.out]; simp), by first | exact hbbg | exact hbbg.alloc (by omega) _⟩
                                cases h4
                                rotate_left
                                ·
                                  as_aux_lemma =>
                                    go_wp2_with fail
                                    go_ret
                                    exact ⟨ret_bool (by rw [HOK.out]; simp), by first | exact hbbg | exact hbbg.alloc (by omega) _⟩
                                as_aux_lemma =>
                                  go_wp2_with fail
                                  go_ret
                                  exact ⟨ret_bool (by rw [HOK.out] <;> simp), hbbg⟩
                              by_cases t4 : ty = 4
                              · subst t4
                                have HOK : Hid (RR = (!g && !d && !h2 && !h3)) := by
                                  show _ = _
                                  rw [HRS3.out]
                                  cases d
                                  · rw [q5.out rfl]; simp
                                  · simp
                                clear HRS3 q5 t1 t2 t3
                                cases g
                                rotate_left
                                ·
                                  as_aux_lemma =>
                                    go_wp2_with fail
                                    go_ret
                                    exact ⟨ret_bool (by rw [HOK.out]; simp), by first | exact hbbg | exact hbbg.alloc (by omega) _⟩
                                cases d
                                rotate_left
                                ·
                                  as_aux_lemma =>
                                    go_wp2_with fail
                                    go_ret
                                    exact ⟨ret_bool (by rw [HOK.out]; simp), by first | exact hbbg | exact hbbg.alloc (by omega) _⟩
                                cases h2
                                rotate_left
                                ·
                                  as_aux_lemma =>
                                    go_wp2_with fail
                                    go_ret
                                    exact ⟨ret_bool (by rw [HOK.out]; simp), by first | exact hbbg | exact hbbg.alloc (by omega) _⟩
                                cases h3
                                rotate_left
                                ·
                                  as_aux_lemma =>
                                    go_wp2_with fail
                                    go_ret
                                    exact ⟨ret_bool (by rw [HOK.out]; simp), by first | exact hbbg | exact hbbg.alloc (by omega) _⟩
                                as_aux_lemma =>
                                  go_wp2_with fail
                                  go_ret
                                  exact ⟨ret_bool (by rw [HOK.out] <;> simp), hbbg⟩
                              by_cases t5 : ty = 5
                              · subst t5
                                have HOK : Hid (RR = (!g && !d && !h3 && !h4)) := by
                                  show _ = _
                                  rw [HRS3.out]
                                  cases d
                                  · rw [q5.out rfl]; simp
                                  · simp
                                clear HRS3 q5 t1 t2 t3 t4
                                cases g
                                rotate_left
                                ·
                                  as_aux_lemma =>
                                    go_wp2_with fail
                                    go_ret
                                    exact ⟨ret_bool (by rw [HOK.out]; simp), by first | exact hbbg | exact hbbg.alloc (by omega) _⟩
                                cases d
                                rotate_left
                                ·
                                  as_aux_lemma =>
                                    go_wp2_with fail
                                    go_ret
                                    exact ⟨ret_bool (by rw [HOK.out]; simp), by first | exact hbbg | exact hbbg.alloc (by omega) _⟩
                                cases h3
                                rotate_left
                                ·
                                  as_aux_lemma =>
                                    go_wp2_with fail
                                    go_ret
                                    exact ⟨ret_bool (by rw [HOK.out]; simp), by first | exact hbbg | exact hbbg.alloc (by omega) _⟩
                                cases h4
                                rotate_left
                                ·
                                  as_aux_lemma =>
                                    go_wp2_with fail
                                    go_ret
                                    exact ⟨ret_bool (by rw [HOK.out]; simp), by first | exact hbbg | exact hbbg.alloc (by omega) _⟩
                                as_aux_lemma =>
                                  go_wp2_with fail
                                  go_ret
                                  exact ⟨ret_bool (by rw [HOK.out] <;> simp), hbbg⟩
                              · have HOK : Hid (RR = false) := by
                                  show _ = _
                                  rw [HRS3.out]
                                  have : decide (1 ≤ ty ∧ ty ≤ 5) = false := by simp; omega
                                  rw [this]
                                  simp
                                have s1 : (ty == 1) = false := by simpa using t1
                                have s2 : (ty == 2) = false := by simpa using t2
                                have s3 : (ty == 3) = false := by simpa using t3
                                have s4 : (ty == 4) = false := by simpa using t4
                                have s5 : (ty == 5) = false := by simpa using t5
                                clear HRS3 q5 t1 t2 t3 t4 t5
                                as_aux_lemma =>
                                  go_wp2_with fail
                                  go_ret
                                  exact ⟨ret_bool (by rw [HOK.out] <;> simp), hbbg⟩
end Go.Proofs.Ytgopkpogakjckaa
