/-
  The walk of the law PacketPuts.
-/
import Derived.Test.YtgopkpogakjckaaPkW
import Derived.Test.YtgopkpogakjckaaPzC
namespace Go.Proofs.Ytgopkpogakjckaa
set_option linter.unusedVariables false
set_option linter.unusedSimpArgs false
open Go Go.RowKit SM LM PK

theorem ext_size12p (s : ByteArray) (m : Nat) (h : m ≤ s.size) : (s.extract 0 m).size = m := by
  rw [ByteArray.size_extract]; omega
theorem ba_ne {a b : ByteArray} (h : a ≠ b) : (a.toList == b.toList) = false := by
  rw [ba_toList, ba_toList]
  refine beq_eq_false_iff_ne.2 fun hh => h ?_
  cases a; cases b
  simp only at hh
  congr 1
  exact Array.toList_inj.1 hh
set_option maxRecDepth 100000 in
set_option maxHeartbeats 8000000 in
theorem packetPuts_walk (P : Pkt) (p1 : Option Addr) (pn1 pc1 : Nat) (p2 : Option Addr) (pn2 pc2 : Nat) (p3 : Option Addr) (pn3 pc3 : Nat) (p4 : Option Addr) (pn4 pc4 : Nat) (pR : List LsR) (s : ByteArray) (w : World) (h : IsPk w P p1 pn1 pc1 p2 pn2 pc2 p3 pn3 pc3 p4 pn4 pc4 pR)
    (hwf : WfP P) (hsa : P.auth.size ≤ 9223372036854775807) (k1 : pn1 * 4 ≤ 140737488355328) (k2 : pn2 * 48 ≤ 140737488355328) (k3 : pn3 * 16 ≤ 140737488355328) (k4 : pn4 * 96 ≤ 140737488355328) (k5 : ∀ p ∈ P.lsas.zip pR, p.2.n1 * 24 ≤ 140737488355328 ∧ p.2.n2 * 4 ≤ 140737488355328)
    (hs : s.size ≤ 9223372036854775807) :
    Calls Try.prog 3 #[.agg (pkC P p1 pn1 pc1 p2 pn2 pc2 p3 pn3 pc3 p4 pn4 pc4), .string s] w fun e w' => e = .returned (.bool true) ∧ Below w.heap.size w w' := by
  obtain ⟨m, hm, hm1, hm2⟩ : ∃ m : Nat, min (s.size : Int) 12 = (m : Int) ∧ m ≤ s.size ∧ m ≤ 12 := ⟨min s.size 12, by omega, by omega, by omega⟩
  have hsz := ext_size12p s m hm1
  have hbA := (Below.refl w.heap.size w).alloc (Nat.le_refl _) (.cells (pkC P p1 pn1 pc1 p2 pn2 pc2 p3 pn3 pc3 p4 pn4 pc4) 30)
  have h0 := h.below hbA
  have hg0 := heap_alloc_new w (.cells (pkC P p1 pn1 pc1 p2 pn2 pc2 p3 pn3 pc3 p4 pn4 pc4) 30)
  have hw0 : (w.alloc (.cells (pkC P p1 pn1 pc1 p2 pn2 pc2 p3 pn3 pc3 p4 pn4 pc4) 30)).heap.size = w.heap.size + 1 := by simp
  have K5 := hid k5
  have HWF := hid hwf
  clear h k5 hwf
  go_enter Try.func3, Try.ntmps3
  go_upto_region 2 with fail
  generalize w.alloc (.cells (pkC P p1 pn1 pc1 p2 pn2 pc2 p3 pn3 pc3 p4 pn4 pc4) 30) = w0 at *
  generalize s.extract 0 m = t at *
  go_wp2_with (refine wpList_load_row rfl 30 (.tmp 2) rfl w.heap.size rfl 30 (pkC P p1 pn1 pc1 p2 pn2 pc2 p3 pn3 pc3 p4 pn4 pc4) (0, 0) _ hg0 Try.underlying30 rfl (by kernel_rfl) ?_)
  refine (to_pk P p1 pn1 pc1 p2 pn2 pc2 p3 pn3 pc3 p4 pn4 pc4 pR w0 h0 k1 k2 k3 k4 K5.out).mono ?_
  rintro e w1 ⟨B1, m1, d1, B2, m2, d2, B3, m3, d3, B4, m4, d4, R, rfl, hB, hb1, hfr⟩
  have h1 := h0.below hb1
  have hg1 := blk_below hg0 hb1 (blk_lt hg0)
  have hbw1 := hbA.trans (hb1.mono (by omega))
  have hw1 := hbw1.size
  clear h0 hg0 hbA hb1 hfr
  cases hR : rightR P
  · have HNO := hid (pPut_no P B1 m1 d1 B2 m2 d2 B3 m3 d3 B4 m4 d4 R w1 hB HWF.out hR)
    have HNR := hid (fun w' h' => rPut_no P p1 pn1 pc1 p2 pn2 pc2 p3 pn3 pc3 p4 pn4 pc4 pR w' h' hR hsa)
    clear hR hB
    as_aux_lemma =>
      go_wp2_with fail
      refine HNO.out.mono ?_
      rintro e w2 ⟨rfl, hb2⟩
      have h2 := h1.below hb2
      have hg2 := blk_below hg1 hb2 (blk_lt hg1)
      have hbw2 := hbw1.trans (hb2.mono hbw1.size)
      clear h1 hg1 hbw1 hb2 HNO
      go_wp2_with (refine wpList_load_row rfl 30 (.tmp 2) rfl w.heap.size rfl 30 (pkC P p1 pn1 pc1 p2 pn2 pc2 p3 pn3 pc3 p4 pn4 pc4) (0, 0) _ hg2 Try.underlying30 rfl (by kernel_rfl) ?_)
      refine (HNR.out w2 h2).mono ?_
      rintro e w3 ⟨rfl, hb3⟩
      have hbw3 := hbw2.trans (hb3.mono hbw2.size)
      clear h2 hg2 hbw2 hb3 HNR
      go_wp2_with fail
      refine (puts11_any w3).mono ?_
      rintro e w4 ⟨rfl, hb4⟩
      have hbw4 := hbw3.trans (hb4.mono hbw3.size)
      have z0 : (convert 31 9 (.slice none 0 0)).run Try.prog w4 = .ok (.string (S8 [])) w4 := bstr (l := []) (sl_nil w4 1)
      clear hbw3 hb4
      go_wp2_with fail
      go_ret
      exact ⟨rfl, hbw4⟩
  · have HPO := hid (pPut_yes P B1 m1 d1 B2 m2 d2 B3 m3 d3 B4 m4 d4 R w1 hB HWF.out hR)
    have HPR := hid (fun w' h' => rPut_yes P p1 pn1 pc1 p2 pn2 pc2 p3 pn3 pc3 p4 pn4 pc4 pR w' h' HWF.out hR)
    have HOW := hid (get_own P HWF.out hR)
    have HOT := hid (get_other P HWF.out hR)
    have hlen : (putP P).length ≤ 20024 := by have := putP_length P; have := bodyB_length P (rightR_spec P hR); omega
    have HPQ := hid hlen
    clear hR hB hlen
    generalize putP P = l at *
    as_aux_lemma =>
      go_wp2_with fail
      refine HPO.out.mono ?_
      rintro e w2 ⟨A, c, n, rfl, hown, hb2⟩
      have hl2 := own_sl hown
      have h2 := h1.below hb2
      have hg2 := blk_below hg1 hb2 (blk_lt hg1)
      have hbw2 := hbw1.trans (hb2.mono hbw1.size)
      clear h1 hg1 hbw1 hb2 HPO hown
      go_wp2_with (refine wpList_load_row rfl 30 (.tmp 2) rfl w.heap.size rfl 30 (pkC P p1 pn1 pc1 p2 pn2 pc2 p3 pn3 pc3 p4 pn4 pc4) (0, 0) _ hg2 Try.underlying30 rfl (by kernel_rfl) ?_)
      refine (HPR.out w2 h2).mono ?_
      rintro e w3 ⟨A', c', n', rfl, hown', hb3⟩
      have hm3 := own_sl hown'
      have hl3 := hl2.below hb3
      have h3 := h2.below hb3
      have hg3 := blk_below hg2 hb3 (blk_lt hg2)
      have hbw3 := hbw2.trans (hb3.mono hbw2.size)
      clear h2 hg2 hbw2 hb3 HPR hown' hl2
      go_wp2_with fail
      refine (puts11_any w3).mono ?_
      rintro e w4 ⟨rfl, hb4⟩
      have hl4 := hl3.below hb4
      have h4 := h3.below hb4
      have hg4 := blk_below hg3 hb4 (blk_lt hg3)
      have hbw4 := hbw3.trans (hb4.mono hbw3.size)
      have z1 := bstr hl4
      have z2 := bstr (hm3.below hb4)
      have t1 : ((S8 l).toList == (S8 l).toList) = true := by simp
      have t2 : ((S8 l).toList != (S8 l).toList) = false := by simp
      have hnl : n ≤ 100000 := by have := hl4.len.1; have := HPQ.out; omega
      clear hbw3 hb4 hl3 hm3 h3 hg3 HPQ
      have hwg : w.heap.size < w4.heap.size := blk_lt hg4
      go_upto_region 8 with fail
      clear z1 z2 t1 t2
      have c3 := (blk_cells hg4).1 3
      simp only [pkC] at c3
      replace c3 : w4.cell? ⟨w.heap.size, 3, none⟩ = some (.string P.auth) := c3
      go_wp2_with fail
      refine (pget_any _ _ _ l P.auth w4 (by exact hl4) (by omega)).mono ?_
      rintro e w5 ⟨a1, an1, ac1, a2, an2, ac2, a3, an3, ac3, a4, an4, ac4, aR, rfl, hPa, hba⟩
      have hsm := get_small l P.auth hPa
      rw [HOW.out.2] at hsm hPa
      rw [HOW.out.1, HOW.out.2]
      have HSM := hid hsm
      have hl5 := hl4.below hba
      have h5 := h4.below hba
      have hg5 := blk_below hg4 hba (blk_lt hg4)
      have hbw5 := hbw4.trans (hba.mono hbw4.size)
      clear hsm hba hl4 h4 hg4 hbw4 c3
      go_upto_region 9 with fail
      have hbA := (Below.refl w5.heap.size w5).alloc (Nat.le_refl _) (.cells (pkC P a1 an1 ac1 a2 an2 ac2 a3 an3 ac3 a4 an4 ac4) 40)
      have hPa6 := hPa.below hbA
      have hl6 := hl5.below hbA
      have h6 := h5.below hbA
      have hg6 := blk_below hg5 hbA (blk_lt hg5)
      have hbw6 := hbw5.trans (hbA.mono hbw5.size)
      have hq6 := heap_alloc_new w5 (.cells (pkC P a1 an1 ac1 a2 an2 ac2 a3 an3 ac3 a4 an4 ac4) 40)
      clear hbA hPa hl5 h5 hg5 hbw5
      generalize w5.alloc (.cells (pkC P a1 an1 ac1 a2 an2 ac2 a3 an3 ac3 a4 an4 ac4) 40) = w6 at *
      have hRG := fun w' h' => rget_any A n c l t w' h' (by omega) (by omega)
      have hPG := fun w' h' => pget_any A n c l t w' h' (by omega)
      unfold GetPPost at hRG hPG
      have HSQ := hid (fun w A1 n1 c1 A2 n2 c2 A3 n3 c3 A4 n4 c4 R => get_small l t (w := w) (A1 := A1) (n1 := n1) (c1 := c1) (A2 := A2) (n2 := n2) (c2 := c2) (A3 := A3) (n3 := n3) (c3 := c3) (A4 := A4) (n4 := n4) (c4 := c4) (R := R))
      have HOTt := hid (HOT.out t)
      generalize getP l t = Q at *
      generalize getPE l t = pe at *
      have HRG := hid hRG
      have HPG := hid hPG
      clear hRG hPG
      go_wp2_with fail
      refine (HPG.out w6 hl6).mono ?_
      rintro e w7 ⟨b1, bn1, bc1, b2, bn2, bc2, b3, bn3, bc3, b4, bn4, bc4, bR, rfl, hPb, hbb⟩
      have HSb := hid (HSQ.out _ _ _ _ _ _ _ _ _ _ _ _ _ _ hPb)
      have hPa7 := hPa6.below hbb
      have hl7 := hl6.below hbb
      have h7 := h6.below hbb
      have hg7 := blk_below hg6 hbb (blk_lt hg6)
      have hq7 := blk_below hq6 hbb (blk_lt hq6)
      have hbw7 := hbw6.trans (hbb.mono hbw6.size)
      clear hbb hPa6 hl6 h6 hg6 hq6 hbw6 HPG HSQ
      go_upto_region 10 with fail
      have hbA := (Below.refl w7.heap.size w7).alloc (Nat.le_refl _) (.cells (pkC Q b1 bn1 bc1 b2 bn2 bc2 b3 bn3 bc3 b4 bn4 bc4) 40)
      have hPa8 := hPa7.below hbA
      have hPb8 := hPb.below hbA
      have hl8 := hl7.below hbA
      have h8 := h7.below hbA
      have hg8 := blk_below hg7 hbA (blk_lt hg7)
      have hq8 := blk_below hq7 hbA (blk_lt hq7)
      have hbw8 := hbw7.trans (hbA.mono hbw7.size)
      have hx8 := heap_alloc_new w7 (.cells (pkC Q b1 bn1 bc1 b2 bn2 bc2 b3 bn3 bc3 b4 bn4 bc4) 40)
      clear hbA hPa7 hPb hl7 h7 hg7 hq7 hbw7
      generalize w7.alloc (.cells (pkC Q b1 bn1 bc1 b2 bn2 bc2 b3 bn3 bc3 b4 bn4 bc4) 40) = w8 at *
      go_wp2_with fail
      refine (HRG.out w8 hl8).mono ?_
      rintro e w9 ⟨e1, en1, ec1, e2, en2, ec2, e3, en3, ec3, e4, en4, ec4, eR, rfl, hPe, hbe⟩
      have hPa9 := hPa8.below hbe
      have hPb9 := hPb8.below hbe
      have h9 := h8.below hbe
      have hg9 := blk_below hg8 hbe (blk_lt hg8)
      have hq9 := blk_below hq8 hbe (blk_lt hq8)
      have hx9 := blk_below hx8 hbe (blk_lt hx8)
      have hbw9 := hbw8.trans (hbe.mono hbw8.size)
      clear hbe hPa8 hPb8 hl8 h8 hg8 hq8 hx8 hbw8 HRG
      go_upto_region 11 with fail
      have hbA := (Below.refl w9.heap.size w9).alloc (Nat.le_refl _) (.cells (pkC Q e1 en1 ec1 e2 en2 ec2 e3 en3 ec3 e4 en4 ec4) 30)
      have hPa := hPa9.below hbA
      have hPb := hPb9.below hbA
      have hPE := hPe.below hbA
      have hPp := h9.below hbA
      have hg := blk_below hg9 hbA (blk_lt hg9)
      have hq := blk_below hq9 hbA (blk_lt hq9)
      have hx := blk_below hx9 hbA (blk_lt hx9)
      have hbw := hbw9.trans (hbA.mono hbw9.size)
      have hy := heap_alloc_new w9 (.cells (pkC Q e1 en1 ec1 e2 en2 ec2 e3 en3 ec3 e4 en4 ec4) 30)
      clear hbA hPa9 hPb9 hPe h9 hg9 hq9 hx9 hbw9
      generalize w9.alloc (.cells (pkC Q e1 en1 ec1 e2 en2 ec2 e3 en3 ec3 e4 en4 ec4) 30) = wA at *
      have qt : ((pe : Int) == pe) = true := by simp
      have hc3 : wA.cell? ⟨w.heap.size, 3, none⟩ = some (.string P.auth) := (blk_cells hg).1 3
      have kc3 : ∀ x : WK (fun _ => False) wA, (wat x).cell? ⟨w.heap.size, 3, none⟩ = some (.string P.auth) := fun x => (wat_cell (p := ⟨w.heap.size, 3, none⟩) (blk_lt hg) (by simp) x).trans hc3
      clear hc3
      obtain ⟨v1, v2, hv1, hv2, hv3⟩ : ∃ v1 v2 : Bool, ((pe : Int) == 0) = v1 ∧ (t.toList == P.auth.toList) = v2 ∧ (v1 == v2) = true := by
        by_cases he : t = P.auth
        · have h0 := HOTt.out.2 he
          exact ⟨true, true, by rw [h0]; rfl, by rw [he]; simp, rfl⟩
        · have h0 : pe ≠ 0 := fun hh => he (HOTt.out.1 hh)
          exact ⟨false, false, by simpa using h0, ba_ne he, rfl⟩
      refine wp_region_loud (fun _ => False) [
        (3, plainL [] (.agg (pkC P a1 an1 ac1 a2 an2 ac2 a3 an3 ac3 a4 an4 ac4))), (4, pkL [] P), (5, plainL [] (.agg (pkC P p1 pn1 pc1 p2 pn2 pc2 p3 pn3 pc3 p4 pn4 pc4))), (6, plainL [4] (.bool true))
        ,
        (14, plainL [] (.agg (pkC Q b1 bn1 bc1 b2 bn2 bc2 b3 bn3 bc3 b4 bn4 bc4))), (15, pkL [] Q), (16, plainL [] (.agg (pkC Q e1 en1 ec1 e2 en2 ec2 e3 en3 ec3 e4 en4 ec4))), (17, plainL [15] (.bool true))
        ] (fun _ => Fact.none) (by kernel_rfl) (by kernel_rfl) (.cons (plainL_ok _ _) (.cons (pkL_ok _ _) (.cons (plainL_ok _ _) (.cons (plainL_ok _ _) (.cons (plainL_ok _ _) (.cons (pkL_ok _ _) (.cons (plainL_ok _ _) (.cons (plainL_ok _ _) .nil)))))))) good_nothing sat_none (WX.out ?_)
      repeat (first | ((first | refine wx_quietU (by rfl) (by rfl) (by rfl) (fun K hK => ?_) | refine wx_quietG (by rfl) (by rfl) (by rfl) (by rfl) (by rfl) (fun K hK => ?_)); go_big_quiet_op; refine hK _ ?_; clear hK K) | ((first | refine wx_skipG (by rfl) (by rfl) (by rfl) (fun K hK => ?_) | refine wx_skipN (by rfl) (by rfl) (by rfl) (fun K hK => ?_)); go_simp; refine hK _ ?_; clear hK K))
      refine wx_loudG (us := []) (by rfl) (by rfl) (by rfl) (by rfl) (fun S wS hC hS hU => ?_) (fun v hv K hK => ?_)
      · exact runs_load_whole 40 (.tmp 9) rfl _ rfl 40 _ (0, 0) _ (blk_kept hq hC (by simp)) Try.underlying40 rfl (by kernel_rfl) ⟨rfl, Kept.refl _ _, trivial⟩
      obtain rfl := hv; (go_simp; refine hK _ ?_; clear hK K)
      repeat (first | ((first | refine wx_quietU (by rfl) (by rfl) (by rfl) (fun K hK => ?_) | refine wx_quietG (by rfl) (by rfl) (by rfl) (by rfl) (by rfl) (fun K hK => ?_)); go_big_quiet_op; refine hK _ ?_; clear hK K) | ((first | refine wx_skipG (by rfl) (by rfl) (by rfl) (fun K hK => ?_) | refine wx_skipN (by rfl) (by rfl) (by rfl) (fun K hK => ?_)); go_simp; refine hK _ ?_; clear hK K))
      refine wx_loudG (us := []) (by rfl) (by rfl) (by rfl) (by rfl) (fun S wS hC hS hU => runs_enter (f := 15) (by go_simp <;> rfl) ?_) (fun v hv K hK => ?_)
      · obtain ⟨k1, k2, k3, k4, k5⟩ := HSM.out
        refine (from_pk P a1 an1 ac1 a2 an2 ac2 a3 an3 ac3 a4 an4 ac4 aR wS (IsPk.below hPa hC.below) k1 k2 k3 k4 k5).mono ?_
        rintro e w' ⟨B1, m1, d1, B2, m2, d2, B3, m3, d3, B4, m4, d4, R, rfl, hi, hb, hf⟩
        exact ⟨_, rfl, ⟨_, _, _, _, _, _, _, _, _, _, _, _, rfl⟩, Kept.of_below hb, pkF_of hi hf⟩
      obtain ⟨B1, m1, d1, B2, m2, d2, B3, m3, d3, B4, m4, d4, rfl⟩ := hv; (go_simp; refine hK _ ?_; clear hK K)
      repeat (first | ((first | refine wx_quietU (by rfl) (by rfl) (by rfl) (fun K hK => ?_) | refine wx_quietG (by rfl) (by rfl) (by rfl) (by rfl) (by rfl) (fun K hK => ?_)); go_big_quiet_op; refine hK _ ?_; clear hK K) | ((first | refine wx_skipG (by rfl) (by rfl) (by rfl) (fun K hK => ?_) | refine wx_skipN (by rfl) (by rfl) (by rfl) (fun K hK => ?_)); go_simp; refine hK _ ?_; clear hK K))
      refine wx_loudG (us := []) (by rfl) (by rfl) (by rfl) (by rfl) (fun S wS hC hS hU => ?_) (fun v hv K hK => ?_)
      · exact runs_load_whole 30 (.tmp 2) rfl _ rfl 30 _ (0, 0) _ (blk_kept hg hC (by simp)) Try.underlying30 rfl (by kernel_rfl) ⟨rfl, Kept.refl _ _, trivial⟩
      obtain rfl := hv; (go_simp; refine hK _ ?_; clear hK K)
      repeat (first | ((first | refine wx_quietU (by rfl) (by rfl) (by rfl) (fun K hK => ?_) | refine wx_quietG (by rfl) (by rfl) (by rfl) (by rfl) (by rfl) (fun K hK => ?_)); go_big_quiet_op; refine hK _ ?_; clear hK K) | ((first | refine wx_skipG (by rfl) (by rfl) (by rfl) (fun K hK => ?_) | refine wx_skipN (by rfl) (by rfl) (by rfl) (fun K hK => ?_)); go_simp; refine hK _ ?_; clear hK K))
      refine wx_loudG (us := [4]) (by rfl) (by rfl) (by rfl) (by rfl) (fun S wS hC hS hU => runs_enter (f := 14) (by go_simp <;> rfl) ?_) (fun v hv K hK => ?_)
      · obtain ⟨RS, hRS⟩ := pkF_out (hU 4 (by simp))
        refine (refSame_pk P B1 m1 d1 B2 m2 d2 B3 m3 d3 B4 m4 d4 RS p1 pn1 pc1 p2 pn2 pc2 p3 pn3 pc3 p4 pn4 pc4 pR wS hRS (IsPk.below hPp hC.below)).mono ?_
        rintro e w' ⟨rfl, hb⟩
        exact ⟨_, rfl, rfl, Kept.of_below hb, trivial⟩
      obtain rfl := hv; (go_simp; refine hK _ ?_; clear hK K)
      repeat (first | ((first | refine wx_quietU (by rfl) (by rfl) (by rfl) (fun K hK => ?_) | refine wx_quietG (by rfl) (by rfl) (by rfl) (by rfl) (by rfl) (fun K hK => ?_)); go_big_quiet_op; refine hK _ ?_; clear hK K) | ((first | refine wx_skipG (by rfl) (by rfl) (by rfl) (fun K hK => ?_) | refine wx_skipN (by rfl) (by rfl) (by rfl) (fun K hK => ?_)); go_simp; refine hK _ ?_; clear hK K))
      refine wx_loudG (us := []) (by rfl) (by rfl) (by rfl) (by rfl) (fun S wS hC hS hU => ?_) (fun v hv K hK => ?_)
      · exact runs_load_whole 40 (.tmp 11) rfl _ rfl 40 _ (0, 0) _ (blk_kept hx hC (by simp)) Try.underlying40 rfl (by kernel_rfl) ⟨rfl, Kept.refl _ _, trivial⟩
      obtain rfl := hv; (go_simp; refine hK _ ?_; clear hK K)
      repeat (first | ((first | refine wx_quietU (by rfl) (by rfl) (by rfl) (fun K hK => ?_) | refine wx_quietG (by rfl) (by rfl) (by rfl) (by rfl) (by rfl) (fun K hK => ?_)); go_big_quiet_op; refine hK _ ?_; clear hK K) | ((first | refine wx_skipG (by rfl) (by rfl) (by rfl) (fun K hK => ?_) | refine wx_skipN (by rfl) (by rfl) (by rfl) (fun K hK => ?_)); go_simp; refine hK _ ?_; clear hK K))
      refine wx_loudG (us := []) (by rfl) (by rfl) (by rfl) (by rfl) (fun S wS hC hS hU => runs_enter (f := 15) (by go_simp <;> rfl) ?_) (fun v hv K hK => ?_)
      · obtain ⟨k1, k2, k3, k4, k5⟩ := HSb.out
        refine (from_pk Q b1 bn1 bc1 b2 bn2 bc2 b3 bn3 bc3 b4 bn4 bc4 bR wS (IsPk.below hPb hC.below) k1 k2 k3 k4 k5).mono ?_
        rintro e w' ⟨B1, m1, d1, B2, m2, d2, B3, m3, d3, B4, m4, d4, R, rfl, hi, hb, hf⟩
        exact ⟨_, rfl, ⟨_, _, _, _, _, _, _, _, _, _, _, _, rfl⟩, Kept.of_below hb, pkF_of hi hf⟩
      obtain ⟨B1, m1, d1, B2, m2, d2, B3, m3, d3, B4, m4, d4, rfl⟩ := hv; (go_simp; refine hK _ ?_; clear hK K)
      repeat (first | ((first | refine wx_quietU (by rfl) (by rfl) (by rfl) (fun K hK => ?_) | refine wx_quietG (by rfl) (by rfl) (by rfl) (by rfl) (by rfl) (fun K hK => ?_)); go_big_quiet_op; refine hK _ ?_; clear hK K) | ((first | refine wx_skipG (by rfl) (by rfl) (by rfl) (fun K hK => ?_) | refine wx_skipN (by rfl) (by rfl) (by rfl) (fun K hK => ?_)); go_simp; refine hK _ ?_; clear hK K))
      refine wx_loudG (us := []) (by rfl) (by rfl) (by rfl) (by rfl) (fun S wS hC hS hU => ?_) (fun v hv K hK => ?_)
      · exact runs_load_whole 30 (.tmp 13) rfl _ rfl 30 _ (0, 0) _ (blk_kept hy hC (by simp)) Try.underlying30 rfl (by kernel_rfl) ⟨rfl, Kept.refl _ _, trivial⟩
      obtain rfl := hv; (go_simp; refine hK _ ?_; clear hK K)
      repeat (first | ((first | refine wx_quietU (by rfl) (by rfl) (by rfl) (fun K hK => ?_) | refine wx_quietG (by rfl) (by rfl) (by rfl) (by rfl) (by rfl) (fun K hK => ?_)); go_big_quiet_op; refine hK _ ?_; clear hK K) | ((first | refine wx_skipG (by rfl) (by rfl) (by rfl) (fun K hK => ?_) | refine wx_skipN (by rfl) (by rfl) (by rfl) (fun K hK => ?_)); go_simp; refine hK _ ?_; clear hK K))
      refine wx_loudG (us := [15]) (by rfl) (by rfl) (by rfl) (by rfl) (fun S wS hC hS hU => runs_enter (f := 14) (by go_simp <;> rfl) ?_) (fun v hv K hK => ?_)
      · obtain ⟨RS, hRS⟩ := pkF_out (hU 15 (by simp))
        refine (refSame_pk Q B1 m1 d1 B2 m2 d2 B3 m3 d3 B4 m4 d4 RS e1 en1 ec1 e2 en2 ec2 e3 en3 ec3 e4 en4 ec4 eR wS hRS (IsPk.below hPE hC.below)).mono ?_
        rintro e w' ⟨rfl, hb⟩
        exact ⟨_, rfl, rfl, Kept.of_below hb, trivial⟩
      obtain rfl := hv; (go_simp; refine hK _ ?_; clear hK K)
      repeat (first | ((first | refine wx_quietU (by rfl) (by rfl) (by rfl) (fun K hK => ?_) | refine wx_quietG (by rfl) (by rfl) (by rfl) (by rfl) (by rfl) (fun K hK => ?_)); go_big_quiet_op; refine hK _ ?_; clear hK K) | ((first | refine wx_skipG (by rfl) (by rfl) (by rfl) (fun K hK => ?_) | refine wx_skipN (by rfl) (by rfl) (by rfl) (fun K hK => ?_)); go_simp; refine hK _ ?_; clear hK K))
      refine wx_nil fun wB hsat => ?_
      have hb5 := sat_below hsat
      have hbw5 := hbw.trans (hb5.mono hbw.size)
      clear hsat
      go_wp2_with fail
      go_ret
      exact ⟨by simp [hv3], hbw5⟩
end Go.Proofs.Ytgopkpogakjckaa
