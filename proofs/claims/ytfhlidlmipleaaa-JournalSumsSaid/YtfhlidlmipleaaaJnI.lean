/-
  The walk of JournalSums.
-/
import Derived.Test.YtfhlidlmipleaaaJnH
namespace Go.Proofs.Ytfhlidlmipleaaa
set_option linter.unusedVariables false
set_option linter.unusedSimpArgs false
open Go Go.RowKit LM

set_option maxRecDepth 100000 in
set_option maxHeartbeats 3200000 in
theorem journalSums_walk (A : Option Addr) (m c : Nat) (l : List UInt8) (n : Int) (w : World) (hS : Sl w 1 (.slice A m c) (B8 l)) (hn : -9223372036854775808 ≤ n ∧ n ≤ 9223372036854775807) :
    Calls Try.prog 8 #[.slice A m c, .int .i64 n] w fun e w' => e = .returned (.bool true) ∧ Below w.heap.size w w' := by
  obtain ⟨hm, hmc, hcm⟩ := hS.len
  obtain ⟨y, hy8, ek⟩ : ∃ y : Nat, y < 8193 ∧ wrap64 ((IntKind.u64.wrap n).tmod 8193) = (y : Int) := by
    refine ⟨((IntKind.u64.wrap n) % 8193).toNat, by omega, ?_⟩
    rw [Int.tmod_eq_emod_of_nonneg (by rw [IntKind.wrap_u64]; omega)]
    unfold wrap64
    rw [IntKind.wrap_u64]
    omega
  obtain ⟨p, hp⟩ : ∃ p : Nat, p = min m 200 := ⟨_, rfl⟩
  have ep : min (m : Int) 200 = (p : Int) := by omega
  have hs2 := hS.take p (by omega)
  have hpm : p ≤ m ∧ p ≤ 200 := by omega
  have hcl := crcOf_lt (l.take p)
  generalize hcc : crcOf (l.take p) = cr at *
  clear hp
  go_enter Try.func8, Try.ntmps8
  go_wp2_with fail
  refine wp_region_loud (fun _ => False) [(0, plainL [] (.bool true)), (7, plainL [] (.int .u32 (cr : Int))), (13, plainL [] (.int .u32 (cr : Int))), (18, plainL [] (.int .i64 (takesN y : Int))), (20, plainL [] (.int .i64 (takesN y : Int)))] (fun _ => Fact.none) (by kernel_rfl) (by kernel_rfl)
    (.cons (plainL_ok _ _) (.cons (plainL_ok _ _) (.cons (plainL_ok _ _) (.cons (plainL_ok _ _) (.cons (plainL_ok _ _) .nil))))) good_nothing sat_none (WX.out ?_)
  repeat (first | (refine wx_quietU (by rfl) (by rfl) (by rfl) (fun K hK => ?_); go_big_quiet_op; refine hK _ ?_; clear hK K) | (refine wx_quietG (by rfl) (by rfl) (by rfl) (by rfl) (by rfl) (fun K hK => ?_); go_big_quiet_op; refine hK _ ?_; clear hK K) | (refine wx_skipG (by rfl) (by rfl) (by rfl) (fun K hK => ?_); go_simp; refine hK _ ?_; clear hK K) | (refine wx_skipN (by rfl) (by rfl) (by rfl) (fun K hK => ?_); go_simp; refine hK _ ?_; clear hK K))
  refine wx_loudU (us := []) (by rfl) (by rfl) (fun S wS hC hS hU => runs_enter (f := 55) (by go_simp <;> rfl) ?_) (fun v hv K hK => ?_)
  · refine (stays_any wS).mono ?_
    rintro e w9 ⟨rfl, hb9⟩
    exact ⟨_, rfl, rfl, Kept.of_below hb9, trivial⟩
  obtain rfl := hv; (go_simp; refine hK _ ?_; clear hK K)
  repeat (first | (refine wx_quietU (by rfl) (by rfl) (by rfl) (fun K hK => ?_); go_big_quiet_op; refine hK _ ?_; clear hK K) | (refine wx_quietG (by rfl) (by rfl) (by rfl) (by rfl) (by rfl) (fun K hK => ?_); go_big_quiet_op; refine hK _ ?_; clear hK K) | (refine wx_skipG (by rfl) (by rfl) (by rfl) (fun K hK => ?_); go_simp; refine hK _ ?_; clear hK K) | (refine wx_skipN (by rfl) (by rfl) (by rfl) (fun K hK => ?_); go_simp; refine hK _ ?_; clear hK K))
  refine wx_loudG (us := []) (by rfl) (by rfl) (by rfl) (by rfl) (fun S wS hC hS hU => runs_enter (f := 56) (by go_simp <;> rfl) ?_) (fun v hv K hK => ?_)
  · refine (Crc_any A p c _ wS (hs2.below hC.below)).mono ?_
    rintro e w9 ⟨rfl, rfl⟩
    exact ⟨.int .u32 (cr : Int), by rw [hcc], rfl, Kept.refl _ _, trivial⟩
  obtain rfl := hv; (go_simp; refine hK _ ?_; clear hK K)
  repeat (first | (refine wx_quietU (by rfl) (by rfl) (by rfl) (fun K hK => ?_); go_big_quiet_op; refine hK _ ?_; clear hK K) | (refine wx_quietG (by rfl) (by rfl) (by rfl) (by rfl) (by rfl) (fun K hK => ?_); go_big_quiet_op; refine hK _ ?_; clear hK K) | (refine wx_skipG (by rfl) (by rfl) (by rfl) (fun K hK => ?_); go_simp; refine hK _ ?_; clear hK K) | (refine wx_skipN (by rfl) (by rfl) (by rfl) (fun K hK => ?_); go_simp; refine hK _ ?_; clear hK K))
  refine wx_loudG (us := []) (by rfl) (by rfl) (by rfl) (by rfl) (fun S wS hC hS hU => runs_enter (f := 57) (by go_simp <;> rfl) ?_) (fun v hv K hK => ?_)
  · refine (refCrc_any A p c _ wS (hs2.below hC.below) (by omega)).mono ?_
    rintro e w9 ⟨rfl, rfl⟩
    exact ⟨.int .u32 (cr : Int), by rw [hcc], rfl, Kept.refl _ _, trivial⟩
  obtain rfl := hv; (go_simp; refine hK _ ?_; clear hK K)
  have qc : ((cr : Int) == (cr : Int)) = true := by simp
  have qt : (((takesN y : Nat) : Int) == ((takesN y : Nat) : Int)) = true := by simp
  repeat (first | (refine wx_quietU (by rfl) (by rfl) (by rfl) (fun K hK => ?_); go_big_quiet_op; refine hK _ ?_; clear hK K) | (refine wx_quietG (by rfl) (by rfl) (by rfl) (by rfl) (by rfl) (fun K hK => ?_); go_big_quiet_op; refine hK _ ?_; clear hK K) | (refine wx_skipG (by rfl) (by rfl) (by rfl) (fun K hK => ?_); go_simp; refine hK _ ?_; clear hK K) | (refine wx_skipN (by rfl) (by rfl) (by rfl) (fun K hK => ?_); go_simp; refine hK _ ?_; clear hK K))
  refine wx_loudG (us := []) (by rfl) (by rfl) (by rfl) (by rfl) (fun S wS hC hS hU => runs_enter (f := 58) (by go_simp <;> rfl) ?_) (fun v hv K hK => ?_)
  · refine (takes_any y (by omega) wS).mono ?_
    rintro e w9 ⟨rfl, rfl⟩
    exact ⟨_, rfl, rfl, Kept.refl _ _, trivial⟩
  obtain rfl := hv; (go_simp; refine hK _ ?_; clear hK K)
  repeat (first | (refine wx_quietU (by rfl) (by rfl) (by rfl) (fun K hK => ?_); go_big_quiet_op; refine hK _ ?_; clear hK K) | (refine wx_quietG (by rfl) (by rfl) (by rfl) (by rfl) (by rfl) (fun K hK => ?_); go_big_quiet_op; refine hK _ ?_; clear hK K) | (refine wx_skipG (by rfl) (by rfl) (by rfl) (fun K hK => ?_); go_simp; refine hK _ ?_; clear hK K) | (refine wx_skipN (by rfl) (by rfl) (by rfl) (fun K hK => ?_); go_simp; refine hK _ ?_; clear hK K))
  refine wx_loudG (us := []) (by rfl) (by rfl) (by rfl) (by rfl) (fun S wS hC hS hU => runs_enter (f := 59) (by go_simp <;> rfl) ?_) (fun v hv K hK => ?_)
  · refine (refTakes_any y (by omega) wS).mono ?_
    rintro e w9 ⟨rfl, rfl⟩
    exact ⟨_, rfl, rfl, Kept.refl _ _, trivial⟩
  obtain rfl := hv; (go_simp; refine hK _ ?_; clear hK K)
  repeat (first | (refine wx_quietU (by rfl) (by rfl) (by rfl) (fun K hK => ?_); go_big_quiet_op; refine hK _ ?_; clear hK K) | (refine wx_quietG (by rfl) (by rfl) (by rfl) (by rfl) (by rfl) (fun K hK => ?_); go_big_quiet_op; refine hK _ ?_; clear hK K) | (refine wx_skipG (by rfl) (by rfl) (by rfl) (fun K hK => ?_); go_simp; refine hK _ ?_; clear hK K) | (refine wx_skipN (by rfl) (by rfl) (by rfl) (fun K hK => ?_); go_simp; refine hK _ ?_; clear hK K))
  refine wx_nil fun w9 hsat => ?_
  have hb9 := sat_below hsat
  clear hsat
  go_wp2_with fail
  go_ret
  exact ⟨rfl, hb9⟩
end Go.Proofs.Ytfhlidlmipleaaa
