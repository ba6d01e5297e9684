/-
  The walk of the law PacketRaw.
-/
import Derived.Test.YtgopkpogakjckaaPkW
import Derived.Test.YtgopkpogakjckaaPzC
namespace Go.Proofs.Ytgopkpogakjckaa
set_option linter.unusedVariables false
set_option linter.unusedSimpArgs false
open Go Go.RowKit SM LM PK

theorem ext_size12 (s : ByteArray) (m : Nat) (h : m ≤ s.size) : (s.extract 0 m).size = m := by
  rw [ByteArray.size_extract]; omega
set_option maxRecDepth 100000 in
set_option maxHeartbeats 8000000 in
theorem packetRaw_walk (A : Option Addr) (n c : Nat) (l : List UInt8) (s : ByteArray) (w : World) (h : Sl w 1 (.slice A n c) (B8 l)) (hs : s.size ≤ 9223372036854775807) :
    Calls Try.prog 5 #[.slice A n c, .string s] w fun e w' => e = .returned (.bool true) ∧ Below w.heap.size w w' := by
  obtain ⟨m, hm, hm1, hm2⟩ : ∃ m : Nat, min (s.size : Int) 12 = (m : Int) ∧ m ≤ s.size ∧ m ≤ 12 := ⟨min s.size 12, by omega, by omega, by omega⟩
  obtain ⟨k, hk, hk1, hk2⟩ : ∃ k : Nat, min (n : Int) 200 = (k : Int) ∧ k ≤ n ∧ k ≤ 200 := ⟨min n 200, by omega, by omega, by omega⟩
  have h0 := h.take k hk1
  obtain ⟨_, hnc, hcm⟩ := h.len
  have hsz := ext_size12 s m hm1
  clear h
  go_enter Try.func5, Try.ntmps5
  go_upto_region 1 with fail
  refine wp_region_loud (fun _ => False) [(3, plainL [] (.int .i64 (k : Int))), (8, plainL [] (.int .i64 (m : Int)))] (fun _ => Fact.none) (by kernel_rfl) (by kernel_rfl) (.cons (plainL_ok _ _) (.cons (plainL_ok _ _) .nil)) good_nothing sat_none (WX.out ?_)
  repeat (first | ((first | refine wx_quietU (by rfl) (by rfl) (by rfl) (fun K hK => ?_) | refine wx_quietG (by rfl) (by rfl) (by rfl) (by rfl) (by rfl) (fun K hK => ?_)); go_big_quiet_op; refine hK _ ?_; clear hK K) | ((first | refine wx_skipG (by rfl) (by rfl) (by rfl) (fun K hK => ?_) | refine wx_skipN (by rfl) (by rfl) (by rfl) (fun K hK => ?_)); go_simp; refine hK _ ?_; clear hK K))
  refine wx_loudU (us := []) (by rfl) (by rfl) (fun S wS hC hS hU => ?_) (fun v hv K hK => ?_)
  · exact runs_value (v := .int .i64 (k : Int)) (w' := wS) (by rw [← hk]; go_simp <;> rfl) ⟨rfl, Kept.refl _ _, trivial⟩
  obtain rfl := hv; (go_simp; refine hK _ ?_; clear hK K)
  repeat (first | ((first | refine wx_quietU (by rfl) (by rfl) (by rfl) (fun K hK => ?_) | refine wx_quietG (by rfl) (by rfl) (by rfl) (by rfl) (by rfl) (fun K hK => ?_)); go_big_quiet_op; refine hK _ ?_; clear hK K) | ((first | refine wx_skipG (by rfl) (by rfl) (by rfl) (fun K hK => ?_) | refine wx_skipN (by rfl) (by rfl) (by rfl) (fun K hK => ?_)); go_simp; refine hK _ ?_; clear hK K))
  refine wx_loudU (us := []) (by rfl) (by rfl) (fun S wS hC hS hU => ?_) (fun v hv K hK => ?_)
  · exact runs_value (v := .int .i64 (m : Int)) (w' := wS) (by rw [← hm]; go_simp <;> rfl) ⟨rfl, Kept.refl _ _, trivial⟩
  obtain rfl := hv; (go_simp; refine hK _ ?_; clear hK K)
  repeat (first | ((first | refine wx_quietU (by rfl) (by rfl) (by rfl) (fun K hK => ?_) | refine wx_quietG (by rfl) (by rfl) (by rfl) (by rfl) (by rfl) (fun K hK => ?_)); go_big_quiet_op; refine hK _ ?_; clear hK K) | ((first | refine wx_skipG (by rfl) (by rfl) (by rfl) (fun K hK => ?_) | refine wx_skipN (by rfl) (by rfl) (by rfl) (fun K hK => ?_)); go_simp; refine hK _ ?_; clear hK K))
  refine wx_nil fun w0 hsat => ?_
  have hb0 := sat_below hsat
  have h1 := h0.below hb0
  clear hsat h0
  generalize s.extract 0 m = t at *
  generalize l.take k = y at *
  go_wp2_with fail
  refine (pget_any _ _ _ y t w0 (by exact h1) (by omega)).mono ?_
  rintro e w1 ⟨a1, an1, ac1, a2, an2, ac2, a3, an3, ac3, a4, an4, ac4, aR, rfl, hPa, hba⟩
  have hsm := get_small y t hPa
  have h2 := h1.below hba
  have hbw := hb0.trans (hba.mono hb0.size)
  have HSM := hid hsm
  clear hsm hb0 hba h1
  have hRG := fun w' h' => rget_any A k c y t w' h' (by omega) (by omega)
  unfold GetPPost at hRG
  generalize getP y t = P at *
  generalize getPE y t = pe at *
  have HRG := hid hRG
  clear hRG
  go_upto_region 3 with fail
  have hbA := (Below.refl w1.heap.size w1).alloc (Nat.le_refl _) (.cells (pkC P a1 an1 ac1 a2 an2 ac2 a3 an3 ac3 a4 an4 ac4) 40)
  have hP2 := hPa.below hbA
  have h3 := h2.below hbA
  have hbw2 := hbw.trans (hbA.mono hbw.size)
  have hg2 := heap_alloc_new w1 (.cells (pkC P a1 an1 ac1 a2 an2 ac2 a3 an3 ac3 a4 an4 ac4) 40)
  clear hbA hPa h2 hbw
  generalize w1.alloc (.cells (pkC P a1 an1 ac1 a2 an2 ac2 a3 an3 ac3 a4 an4 ac4) 40) = w2 at *
  go_wp2_with fail
  refine (HRG.out w2 h3).mono ?_
  rintro e w3 ⟨b1, bn1, bc1, b2, bn2, bc2, b3, bn3, bc3, b4, bn4, bc4, bR, rfl, hPb, hbb⟩
  have hP3 := hP2.below hbb
  have hbw3 := hbw2.trans (hbb.mono hbw2.size)
  have hg3 := blk_below hg2 hbb (blk_lt hg2)
  clear hP2 h3 hbw2 hg2 hbb HRG
  go_upto_region 4 with fail
  have hbA := (Below.refl w3.heap.size w3).alloc (Nat.le_refl _) (.cells (pkC P b1 bn1 bc1 b2 bn2 bc2 b3 bn3 bc3 b4 bn4 bc4) 30)
  have hPa4 := hP3.below hbA
  have hPb4 := hPb.below hbA
  have hbw4 := hbw3.trans (hbA.mono hbw3.size)
  have hg4 := blk_alloc hg3 (.cells (pkC P b1 bn1 bc1 b2 bn2 bc2 b3 bn3 bc3 b4 bn4 bc4) 30)
  have hg5 := heap_alloc_new w3 (.cells (pkC P b1 bn1 bc1 b2 bn2 bc2 b3 bn3 bc3 b4 bn4 bc4) 30)
  clear hbA hP3 hPb hbw3 hg3
  generalize w3.alloc (.cells (pkC P b1 bn1 bc1 b2 bn2 bc2 b3 bn3 bc3 b4 bn4 bc4) 30) = w4 at *
  have qt : ((pe : Int) == pe) = true := by simp
  refine wp_region_loud (fun _ => False) [(0, plainL [] (.bool true)),
    (7, plainL [] (.agg (pkC P a1 an1 ac1 a2 an2 ac2 a3 an3 ac3 a4 an4 ac4))), (8, pkL [] P), (9, plainL [] (.agg (pkC P b1 bn1 bc1 b2 bn2 bc2 b3 bn3 bc3 b4 bn4 bc4))), (10, plainL [8] (.bool true))
    ] (fun _ => Fact.none) (by kernel_rfl) (by kernel_rfl) (.cons (plainL_ok _ _) (.cons (plainL_ok _ _) (.cons (pkL_ok _ _) (.cons (plainL_ok _ _) (.cons (plainL_ok _ _) .nil))))) good_nothing sat_none (WX.out ?_)
  repeat (first | ((first | refine wx_quietU (by rfl) (by rfl) (by rfl) (fun K hK => ?_) | refine wx_quietG (by rfl) (by rfl) (by rfl) (by rfl) (by rfl) (fun K hK => ?_)); go_big_quiet_op; refine hK _ ?_; clear hK K) | ((first | refine wx_skipG (by rfl) (by rfl) (by rfl) (fun K hK => ?_) | refine wx_skipN (by rfl) (by rfl) (by rfl) (fun K hK => ?_)); go_simp; refine hK _ ?_; clear hK K))
  refine wx_loudU (us := []) (by rfl) (by rfl) (fun S wS hC hS hU => runs_enter (f := 11) (by go_simp <;> rfl) ?_) (fun v hv K hK => ?_)
  · refine (puts11_any wS).mono ?_
    rintro e w' ⟨rfl, hb⟩
    exact ⟨_, rfl, rfl, Kept.of_below hb, trivial⟩
  obtain rfl := hv; (go_simp; refine hK _ ?_; clear hK K)
  repeat (first | ((first | refine wx_quietU (by rfl) (by rfl) (by rfl) (fun K hK => ?_) | refine wx_quietG (by rfl) (by rfl) (by rfl) (by rfl) (by rfl) (fun K hK => ?_)); go_big_quiet_op; refine hK _ ?_; clear hK K) | ((first | refine wx_skipG (by rfl) (by rfl) (by rfl) (fun K hK => ?_) | refine wx_skipN (by rfl) (by rfl) (by rfl) (fun K hK => ?_)); go_simp; refine hK _ ?_; clear hK K))
  refine wx_loudG (us := []) (by rfl) (by rfl) (by rfl) (by rfl) (fun S wS hC hS hU => ?_) (fun v hv K hK => ?_)
  · exact runs_load_whole 40 (.tmp 5) rfl _ rfl 40 _ (0, 0) _ (blk_kept hg4 hC (by simp)) Try.underlying40 rfl (by kernel_rfl) ⟨rfl, Kept.refl _ _, trivial⟩
  obtain rfl := hv; (go_simp; refine hK _ ?_; clear hK K)
  repeat (first | ((first | refine wx_quietU (by rfl) (by rfl) (by rfl) (fun K hK => ?_) | refine wx_quietG (by rfl) (by rfl) (by rfl) (by rfl) (by rfl) (fun K hK => ?_)); go_big_quiet_op; refine hK _ ?_; clear hK K) | ((first | refine wx_skipG (by rfl) (by rfl) (by rfl) (fun K hK => ?_) | refine wx_skipN (by rfl) (by rfl) (by rfl) (fun K hK => ?_)); go_simp; refine hK _ ?_; clear hK K))
  refine wx_loudG (us := []) (by rfl) (by rfl) (by rfl) (by rfl) (fun S wS hC hS hU => runs_enter (f := 15) (by go_simp <;> rfl) ?_) (fun v hv K hK => ?_)
  · obtain ⟨k1, k2, k3, k4, k5⟩ := HSM.out
    refine (from_pk P a1 an1 ac1 a2 an2 ac2 a3 an3 ac3 a4 an4 ac4 aR wS (IsPk.below hPa4 hC.below) k1 k2 k3 k4 k5).mono ?_
    rintro e w' ⟨B1, m1, d1, B2, m2, d2, B3, m3, d3, B4, m4, d4, R, rfl, hi, hb, hf⟩
    exact ⟨_, rfl, ⟨_, _, _, _, _, _, _, _, _, _, _, _, rfl⟩, Kept.of_below hb, pkF_of hi hf⟩
  obtain ⟨B1, m1, d1, B2, m2, d2, B3, m3, d3, B4, m4, d4, rfl⟩ := hv; (go_simp; refine hK _ ?_; clear hK K)
  repeat (first | ((first | refine wx_quietU (by rfl) (by rfl) (by rfl) (fun K hK => ?_) | refine wx_quietG (by rfl) (by rfl) (by rfl) (by rfl) (by rfl) (fun K hK => ?_)); go_big_quiet_op; refine hK _ ?_; clear hK K) | ((first | refine wx_skipG (by rfl) (by rfl) (by rfl) (fun K hK => ?_) | refine wx_skipN (by rfl) (by rfl) (by rfl) (fun K hK => ?_)); go_simp; refine hK _ ?_; clear hK K))
  refine wx_loudG (us := []) (by rfl) (by rfl) (by rfl) (by rfl) (fun S wS hC hS hU => ?_) (fun v hv K hK => ?_)
  · exact runs_load_whole 30 (.tmp 7) rfl _ rfl 30 _ (0, 0) _ (blk_kept hg5 hC (by simp)) Try.underlying30 rfl (by kernel_rfl) ⟨rfl, Kept.refl _ _, trivial⟩
  obtain rfl := hv; (go_simp; refine hK _ ?_; clear hK K)
  repeat (first | ((first | refine wx_quietU (by rfl) (by rfl) (by rfl) (fun K hK => ?_) | refine wx_quietG (by rfl) (by rfl) (by rfl) (by rfl) (by rfl) (fun K hK => ?_)); go_big_quiet_op; refine hK _ ?_; clear hK K) | ((first | refine wx_skipG (by rfl) (by rfl) (by rfl) (fun K hK => ?_) | refine wx_skipN (by rfl) (by rfl) (by rfl) (fun K hK => ?_)); go_simp; refine hK _ ?_; clear hK K))
  refine wx_loudG (us := [8]) (by rfl) (by rfl) (by rfl) (by rfl) (fun S wS hC hS hU => runs_enter (f := 14) (by go_simp <;> rfl) ?_) (fun v hv K hK => ?_)
  · obtain ⟨RS, hRS⟩ := pkF_out (hU 8 (by simp))
    refine (refSame_pk P B1 m1 d1 B2 m2 d2 B3 m3 d3 B4 m4 d4 RS b1 bn1 bc1 b2 bn2 bc2 b3 bn3 bc3 b4 bn4 bc4 bR wS hRS (IsPk.below hPb4 hC.below)).mono ?_
    rintro e w' ⟨rfl, hb⟩
    exact ⟨_, rfl, rfl, Kept.of_below hb, trivial⟩
  obtain rfl := hv; (go_simp; refine hK _ ?_; clear hK K)
  repeat (first | ((first | refine wx_quietU (by rfl) (by rfl) (by rfl) (fun K hK => ?_) | refine wx_quietG (by rfl) (by rfl) (by rfl) (by rfl) (by rfl) (fun K hK => ?_)); go_big_quiet_op; refine hK _ ?_; clear hK K) | ((first | refine wx_skipG (by rfl) (by rfl) (by rfl) (fun K hK => ?_) | refine wx_skipN (by rfl) (by rfl) (by rfl) (fun K hK => ?_)); go_simp; refine hK _ ?_; clear hK K))
  refine wx_nil fun w5 hsat => ?_
  have hb5 := sat_below hsat
  have hbw5 := hbw4.trans (hb5.mono hbw4.size)
  clear hsat
  go_wp2_with fail
  go_ret
  exact ⟨rfl, hbw5⟩
end Go.Proofs.Ytgopkpogakjckaa
