/-
  Contract of layer 6's law: reads; the walk of ParseReads.
-/
import Derived.Test.YtfojgimficdjhaaGreatDoorPrE
namespace Go.Proofs.YtfojgimficdjhaaGreatDoor
set_option linter.unusedVariables false
set_option linter.unusedSimpArgs false
open Go Go.RowKit

theorem cut_minR (s : ByteArray) (k : Nat) : ∃ m : Nat, m ≤ k ∧ m ≤ s.size ∧ min (s.size : Int) (k : Int) = (m : Int) := ⟨min s.size k, by omega, by omega, by omega⟩
theorem ext_sizeR (s : ByteArray) (m : Nat) (h : m ≤ s.size) : (s.extract 0 m).size = m := by
  rw [← bl_len, bl_ext, List.length_take, List.drop_zero, bl_len]
  omega
theorem wpList_load_rowG {P : Program} {ops : Array Oper} {rest : List Oper} {o : Oper} {a : Act} {w : World} {Q : Exit → Act → World → Prop} (hw : Region.wanted o (yielded ops a.tmps) = true) (ty : TypeId) (x : Operand) (ho : o.op = .load ty x)
    (g : Nat) (hx : a.eval x = .pointer (some ⟨g, 0, none⟩)) (t : TypeId) (cs : Array Value) (fr : Nat × Nat) (d : TypeDesc) (hg : w.heap[g]? = some (.cells cs t fr))
    (hu : P.underlying ty = some d) (hd : (match d with | .struct _ | .array _ _ => true | _ => false) = true) (hi : (P.info? ty).map (·.size) = some cs.size)
    (h : wpList P ops Q rest (a.put o.dst (.agg cs)) w) : wpList P ops Q (o :: rest) a w :=
  wpList_step fun K hK => by
    simp only [hw, if_true]
    exact wp_load_row ty x ho g hx t cs fr d hg hu hd hi (hK _ _ h)
theorem readsLaw_any (w : World) (hen : Env w) : Calls Tryz.prog 10 #[] w fun e w' => e = .returned (.bool true) ∧ Below w.heap.size w w' := by
  have hR := Read_any (S8 rdText) w (by decide) hen
  rw [bl_S8, readT_rd] at hR
  have HR := hid hR
  clear hR hen
  go_enter Tryz.func10, Tryz.ntmps10
  go_wp2_with fail
  refine HR.out.mono ?_
  rintro e w1 ⟨hrp, hb1⟩
  have he : e = .returned (.tuple #[.agg #[.int .i64 1, .int .i64 2, .string ⟨#[101, 116, 104, 48]⟩, .string ⟨#[99, 111, 115, 116]⟩, .string ⟨#[53]⟩, .int .i64 0], .int .i64 0]) := by
    obtain ⟨c, er, rfl, h | h⟩ := hrp
    · obtain ⟨h1, rfl⟩ := h
      injection h1 with h1
      subst h1
      rfl
    · exact absurd h.1 (by simp)
  clear hrp
  subst he
  go_wp2_with fail
  go_ret
  exact ⟨rfl, hb1.alloc hb1.size _⟩
theorem ReadPost.none {e : Ending} (h : ReadPost none e) : e = .returned (.tuple #[.agg (cmV cmd0), .int .i64 3]) := by
  obtain ⟨c, er, rfl, h | h⟩ := h
  · cases h.1
  · obtain ⟨_, rfl, rfl⟩ := h
    rfl
theorem ReadPost.some {e : Ending} {c : Cmd} (h : ReadPost (some c) e) : e = .returned (.tuple #[.agg (cmV c), .int .i64 0]) := by
  obtain ⟨c', er, rfl, h | h⟩ := h
  · obtain ⟨h, rfl⟩ := h
    injection h with h
    subst h
    rfl
  · cases h.1
theorem CmdPost.none {e : Ending} (h : CmdPost none e) : ∃ c, e = .returned (.tuple #[.agg (cmV c), .bool false]) := by
  obtain ⟨c, b, rfl, h⟩ := h
  cases b with
  | false => exact ⟨c, rfl⟩
  | true => cases h
theorem CmdPost.some {e : Ending} {c : Cmd} (h : CmdPost (some c) e) : e = .returned (.tuple #[.agg (cmV c), .bool true]) := by
  obtain ⟨c', b, rfl, h⟩ := h
  cases b with
  | false => cases h
  | true => injection h with h; subst h; rfl
set_option maxRecDepth 100000 in
set_option maxHeartbeats 1600000 in
theorem parseReads_walk (a0 : ByteArray) (w : World) (ha0 : a0.size ≤ 9223372036854775807) (hen : Env w) : Calls Tryz.prog 3 #[.string a0] w fun e w' => e = .returned (.bool true) ∧ Below w.heap.size w w' := by
  obtain ⟨m, hm1, hm2, hm⟩ := cut_minR a0 150
  have hsz := ext_sizeR a0 m hm2
  rw [show ((150 : Nat) : Int) = 150 from rfl] at hm
  have hs : (a0.extract 0 m).size ≤ 100000 := by omega
  go_enter Tryz.func3, Tryz.ntmps3
  go_upto_region 2 with fail
  clear hm hsz hm2 ha0
  generalize a0.extract 0 m = s at *
  have HEN := hid hen
  clear hen
  cases hrt : readT (bl s) with
  | none =>
    have HR : Hid (∀ w', Below w.heap.size w w' → Calls Tryz.prog 8 #[.string s] w' fun e w2 => e = .returned (.tuple #[.agg (cmV cmd0), .int .i64 3]) ∧ Below w'.heap.size w' w2) := fun w' hb => (Read_any s w' hs (HEN.out.below hb)).mono fun e w2 ⟨h1, h2⟩ => ⟨(by rw [hrt] at h1; exact h1.none), h2⟩
    have HQ : Hid (∀ w', Below w.heap.size w w' → Calls Tryz.prog 9 #[.string s] w' fun e w2 => (∃ c, e = .returned (.tuple #[.agg (cmV c), .bool false])) ∧ Below w'.heap.size w' w2) := fun w' hb => (refRead_any s w' hs (HEN.out.below hb)).mono fun e w2 ⟨h1, h2⟩ => ⟨(by rw [hrt] at h1; exact h1.none), h2⟩
    clear hrt
    go_wp2_with fail
    refine (HR.out w (Below.refl _ _)).mono ?_
    rintro e w1 ⟨rfl, hb1⟩
    clear HR
    obtain ⟨hb2, hg2, hl2⟩ := box1 w1 (.cells (cmV cmd0) 25)
    have HW2 := hid (And.intro hg2 (And.intro (hb1.trans (hb2.mono hb1.size)) hl2))
    clear hb2 hg2 hl2 hb1
    go_upto_region 3 with (refine wpList_store_last rfl 25 (.tmp 3) (.tmp 15) rfl (cmV cmd0) rfl rfl i6 rfl (cmV_one _) ?_)
    generalize w1.alloc (.cells (cmV cmd0) 25) = w2 at *
    obtain ⟨hg2, hbw2, hl2⟩ := HW2.out
    have HG2 := hid hg2
    clear HW2 hg2
    go_wp2_with fail
    refine (HQ.out w2 hbw2).mono ?_
    rintro e w3 ⟨⟨c2, rfl⟩, hb3⟩
    clear HQ
    obtain ⟨hb4, hg4, hl4⟩ := box1 w3 (.cells (cmV c2) 31)
    have hb24 := hb3.trans (hb4.mono hb3.size)
    have HW4 := hid (And.intro (blk_below HG2.out hb24 hl2) (hbw2.trans (hb24.mono hbw2.size)))
    clear hb4 hg4 hl4 hb24 HG2
    go_upto_region 4 with (refine wpList_store_last rfl 31 (.tmp 5) (.tmp 20) rfl (cmV c2) rfl rfl j6 rfl (cmV_one _) ?_)
    generalize w3.alloc (.cells (cmV c2) 31) = w4 at *
    obtain ⟨hg4, hbw4⟩ := HW4.out
    have HG4 := hid hg4
    clear HW4 hg4
    have HL := hid (readsLaw_any w4 (HEN.out.below hbw4))
    go_wp2_with fail
    refine HL.out.mono ?_
    rintro e w5 ⟨rfl, hb5⟩
    have hg5 := blk_below HG4.out hb5 (blk_lt HG4.out)
    have hbw5 := hbw4.trans (hb5.mono hbw4.size)
    clear HL HG4 hb5
    go_wp2_with (first | refine wpList_load_rowG (by rfl) 25 (.tmp 3) rfl w1.heap.size rfl 25 (cmV cmd0) (0, 0) _ hg5 Tryz.underlying25 rfl i6 ?_ | refine wpList_cmp (by rfl) (t := 25) (x := .tmp 30) (y := .tmp 31) (xs := cmV cmd0) (ys := cmV cmd0) rfl rfl rfl guardCm (eqlCm_same cmd0 _) ?_)
    go_ret
    exact ⟨rfl, hbw5⟩
  | some c =>
    have HR : Hid (∀ w', Below w.heap.size w w' → Calls Tryz.prog 8 #[.string s] w' fun e w2 => e = .returned (.tuple #[.agg (cmV c), .int .i64 0]) ∧ Below w'.heap.size w' w2) := fun w' hb => (Read_any s w' hs (HEN.out.below hb)).mono fun e w2 ⟨h1, h2⟩ => ⟨(by rw [hrt] at h1; exact h1.some), h2⟩
    have HQ : Hid (∀ w', Below w.heap.size w w' → Calls Tryz.prog 9 #[.string s] w' fun e w2 => e = .returned (.tuple #[.agg (cmV c), .bool true]) ∧ Below w'.heap.size w' w2) := fun w' hb => (refRead_any s w' hs (HEN.out.below hb)).mono fun e w2 ⟨h1, h2⟩ => ⟨(by rw [hrt] at h1; exact h1.some), h2⟩
    clear hrt
    go_wp2_with fail
    refine (HR.out w (Below.refl _ _)).mono ?_
    rintro e w1 ⟨rfl, hb1⟩
    clear HR
    obtain ⟨hb2, hg2, hl2⟩ := box1 w1 (.cells (cmV c) 25)
    have HW2 := hid (And.intro hg2 (And.intro (hb1.trans (hb2.mono hb1.size)) hl2))
    clear hb2 hg2 hl2 hb1
    go_upto_region 3 with (refine wpList_store_last rfl 25 (.tmp 3) (.tmp 15) rfl (cmV c) rfl rfl i6 rfl (cmV_one _) ?_)
    generalize w1.alloc (.cells (cmV c) 25) = w2 at *
    obtain ⟨hg2, hbw2, hl2⟩ := HW2.out
    have HG2 := hid hg2
    clear HW2 hg2
    go_wp2_with fail
    refine (HQ.out w2 hbw2).mono ?_
    rintro e w3 ⟨rfl, hb3⟩
    clear HQ
    obtain ⟨hb4, hg4, hl4⟩ := box1 w3 (.cells (cmV c) 31)
    have hb24 := hb3.trans (hb4.mono hb3.size)
    have HW4 := hid (And.intro (blk_below HG2.out hb24 hl2) (And.intro hg4 (hbw2.trans (hb24.mono hbw2.size))))
    have hs23 := hb3.size
    clear hb4 hg4 hb24 HG2 hb3
    go_upto_region 4 with (refine wpList_store_last rfl 31 (.tmp 5) (.tmp 20) rfl (cmV c) rfl rfl j6 rfl (cmV_one _) ?_)
    generalize w3.alloc (.cells (cmV c) 31) = w4 at *
    obtain ⟨hg4, hq4, hbw4⟩ := HW4.out
    clear HW4
    have hl14 : w1.heap.size < w4.heap.size := by omega
    have HL : Hid (∀ wS, Below w4.heap.size w4 wS → Calls Tryz.prog 10 #[] wS fun e w' => e = .returned (.bool true) ∧ Below wS.heap.size wS w') := fun wS hb => readsLaw_any wS (HEN.out.below (hbw4.trans (hb.mono hbw4.size)))
    have HGC : Hid (∀ wS, Below w4.heap.size w4 wS → wS.heap[w1.heap.size]? = some (.cells (cmV c) 25 (0, 0))) := fun wS hb => blk_below hg4 hb hl14
    have HGD : Hid (∀ wS, Below w4.heap.size w4 wS → wS.heap[w3.heap.size]? = some (.cells (cmV c) 31 (0, 0))) := fun wS hb => blk_below hq4 hb hl4
    clear hg4 hq4
    go_wp2_with fail
    refine wp_region_loud (fun _ => False) [(0, plainL [] (.bool true)), (6, plainL [] (.agg (cmV c))), (7, plainL [] (.agg (cmV c))), (8, plainL [] (.agg (cmV c))), (9, plainL [] (.bool true))] (fun _ => Fact.none) (by kernel_rfl) (by kernel_rfl)
      (.cons (plainL_ok _ _) (.cons (plainL_ok _ _) (.cons (plainL_ok _ _) (.cons (plainL_ok _ _) (.cons (plainL_ok _ _) .nil))))) good_nothing sat_none (WX.out ?_)
    repeat (first | (refine wx_quietU (by rfl) (by rfl) (by rfl) (fun K hK => ?_); go_big_quiet_op; refine hK _ ?_; clear hK K) | (refine wx_quietG (by rfl) (by rfl) (by rfl) (by rfl) (by rfl) (fun K hK => ?_); go_big_quiet_op; refine hK _ ?_; clear hK K) | (refine wx_skipG (by rfl) (by rfl) (by rfl) (fun K hK => ?_); go_simp; refine hK _ ?_; clear hK K) | (refine wx_skipN (by rfl) (by rfl) (by rfl) (fun K hK => ?_); go_simp; refine hK _ ?_; clear hK K))
    refine wx_loudU (us := []) (by rfl) (by rfl) (fun S wS hC hS hU => runs_enter (f := 10) (by go_simp <;> rfl) ?_) (fun v hv K hK => ?_)
    · refine (HL.out wS hC.below).mono ?_
      rintro e w' ⟨rfl, hb⟩
      exact ⟨_, rfl, rfl, Kept.of_below hb, trivial⟩
    obtain rfl := hv; (go_simp; refine hK _ ?_; clear hK K)
    repeat (first | (refine wx_quietU (by rfl) (by rfl) (by rfl) (fun K hK => ?_); go_big_quiet_op; refine hK _ ?_; clear hK K) | (refine wx_quietG (by rfl) (by rfl) (by rfl) (by rfl) (by rfl) (fun K hK => ?_); go_big_quiet_op; refine hK _ ?_; clear hK K) | (refine wx_skipG (by rfl) (by rfl) (by rfl) (fun K hK => ?_); go_simp; refine hK _ ?_; clear hK K) | (refine wx_skipN (by rfl) (by rfl) (by rfl) (fun K hK => ?_); go_simp; refine hK _ ?_; clear hK K))
    refine wx_loudG (us := []) (by rfl) (by rfl) (by rfl) (by rfl) (fun S wS hC hS hU => ?_) (fun v hv K hK => ?_)
    · exact runs_load_whole 25 (.tmp 3) rfl w1.heap.size rfl 25 (cmV c) (0, 0) _ (HGC.out wS hC.below) Tryz.underlying25 rfl i6 ⟨rfl, Kept.refl _ _, trivial⟩
    obtain rfl := hv; (go_simp; refine hK _ ?_; clear hK K)
    repeat (first | (refine wx_quietU (by rfl) (by rfl) (by rfl) (fun K hK => ?_); go_big_quiet_op; refine hK _ ?_; clear hK K) | (refine wx_quietG (by rfl) (by rfl) (by rfl) (by rfl) (by rfl) (fun K hK => ?_); go_big_quiet_op; refine hK _ ?_; clear hK K) | (refine wx_skipG (by rfl) (by rfl) (by rfl) (fun K hK => ?_); go_simp; refine hK _ ?_; clear hK K) | (refine wx_skipN (by rfl) (by rfl) (by rfl) (fun K hK => ?_); go_simp; refine hK _ ?_; clear hK K))
    refine wx_loudG (us := []) (by rfl) (by rfl) (by rfl) (by rfl) (fun S wS hC hS hU => runs_enter (f := 11) (by go_simp <;> rfl) ?_) (fun v hv K hK => ?_)
    · refine (from_any c wS).mono ?_
      rintro e w' ⟨rfl, hb⟩
      exact ⟨_, rfl, rfl, Kept.of_below hb, trivial⟩
    obtain rfl := hv; (go_simp; refine hK _ ?_; clear hK K)
    repeat (first | (refine wx_quietU (by rfl) (by rfl) (by rfl) (fun K hK => ?_); go_big_quiet_op; refine hK _ ?_; clear hK K) | (refine wx_quietG (by rfl) (by rfl) (by rfl) (by rfl) (by rfl) (fun K hK => ?_); go_big_quiet_op; refine hK _ ?_; clear hK K) | (refine wx_skipG (by rfl) (by rfl) (by rfl) (fun K hK => ?_); go_simp; refine hK _ ?_; clear hK K) | (refine wx_skipN (by rfl) (by rfl) (by rfl) (fun K hK => ?_); go_simp; refine hK _ ?_; clear hK K))
    refine wx_loudG (us := []) (by rfl) (by rfl) (by rfl) (by rfl) (fun S wS hC hS hU => ?_) (fun v hv K hK => ?_)
    · exact runs_load_whole 31 (.tmp 5) rfl w3.heap.size rfl 31 (cmV c) (0, 0) _ (HGD.out wS hC.below) Tryz.underlying31 rfl j6 ⟨rfl, Kept.refl _ _, trivial⟩
    obtain rfl := hv; (go_simp; refine hK _ ?_; clear hK K)
    repeat (first | (refine wx_quietU (by rfl) (by rfl) (by rfl) (fun K hK => ?_); go_big_quiet_op; refine hK _ ?_; clear hK K) | (refine wx_quietG (by rfl) (by rfl) (by rfl) (by rfl) (by rfl) (fun K hK => ?_); go_big_quiet_op; refine hK _ ?_; clear hK K) | (refine wx_skipG (by rfl) (by rfl) (by rfl) (fun K hK => ?_); go_simp; refine hK _ ?_; clear hK K) | (refine wx_skipN (by rfl) (by rfl) (by rfl) (fun K hK => ?_); go_simp; refine hK _ ?_; clear hK K))
    refine wx_loudG (us := []) (by rfl) (by rfl) (by rfl) (by rfl) (fun S wS hC hS hU => ?_) (fun v hv K hK => ?_)
    · exact runs_cmp (t := 31) (x := .tmp 41) (y := .tmp 42) (xs := cmV c) (ys := cmV c) rfl rfl rfl guardCmR (eqlCmR_same c _) ⟨rfl, Kept.refl _ _, trivial⟩
    obtain rfl := hv; (go_simp; refine hK _ ?_; clear hK K)
    repeat (first | (refine wx_quietU (by rfl) (by rfl) (by rfl) (fun K hK => ?_); go_big_quiet_op; refine hK _ ?_; clear hK K) | (refine wx_quietG (by rfl) (by rfl) (by rfl) (by rfl) (by rfl) (fun K hK => ?_); go_big_quiet_op; refine hK _ ?_; clear hK K) | (refine wx_skipG (by rfl) (by rfl) (by rfl) (fun K hK => ?_); go_simp; refine hK _ ?_; clear hK K) | (refine wx_skipN (by rfl) (by rfl) (by rfl) (fun K hK => ?_); go_simp; refine hK _ ?_; clear hK K))
    refine wx_nil fun w5 hsat => ?_
    have hb5 := sat_below hsat
    clear hsat HL HGC HGD
    go_wp2_with fail
    go_ret
    exact ⟨rfl, hbw4.trans (hb5.mono hbw4.size)⟩
end Go.Proofs.YtfojgimficdjhaaGreatDoor
