/-
  The walk of the law LsaPuts.
-/
import Derived.Test.YtaajhkdifliblaaLsa14
import Derived.Test.YtaajhkdifliblaaLsa15
import Derived.Test.YtaajhkdifliblaaLsa16
import Derived.Test.YtaajhkdifliblaaLsa17
namespace Go.Proofs.Ytaajhkdifliblaa
set_option linter.unusedVariables false
set_option linter.unusedSimpArgs false
open Go Go.RowKit SM LM

theorem sl_same0 {w w' : World} {size n c : Nat} {A : Option Addr} {xs : List Value} (h : Sl w size (.slice A n c) xs) (hs : 0 < n → ∀ ad, A = some ad → w'.heap[ad.block]? = w.heap[ad.block]?) : Sl w' size (.slice A n c) xs := by
  rcases Nat.eq_zero_or_pos n with h0 | h0
  · obtain ⟨A', n', c', he, hl, hnc, hcm, hr⟩ := h
    injection he with e1 e2 e3
    subst e1; subst e2; subst e3
    exact ⟨_, _, _, rfl, hl, hnc, hcm, fun hn => by omega⟩
  · exact sl_same h (hs h0)
theorem sl_lt {w : World} {size n c : Nat} {A : Option Addr} {xs : List Value} (h : Sl w size (.slice A n c) xs) (hn : 0 < n) : ∀ ad, A = some ad → ad.block < w.heap.size := by
  obtain ⟨A', n', c', he, hl, hnc, hcm, hr⟩ := h
  injection he with e1 e2 e3
  subst e1; subst e2; subst e3
  obtain ⟨b, off, rfl, hlt, _⟩ := hr hn
  rintro ad had
  injection had with had
  subst had
  exact hlt
/-- an Lsa, as a region's fact -/
def LsaF (L : Lsa) (v : Value) : Fact := fun S w => ∃ B1 m1 d1 B2 m2 d2, v = .agg (lsaC L B1 m1 d1 B2 m2 d2) ∧ IsLsa w L B1 m1 d1 B2 m2 d2 ∧ (0 < m1 → ∀ ad, B1 = some ad → S ad.block) ∧ (0 < m2 → ∀ ad, B2 = some ad → S ad.block)
theorem good_lsaF (L : Lsa) (v : Value) : Good (LsaF L v) := fun S S' w w' h1 h2 ⟨B1, m1, d1, B2, m2, d2, h3, h4, h5, h6⟩ =>
  ⟨B1, m1, d1, B2, m2, d2, h3, ⟨sl_same0 h4.links (fun h0 ad had => h2 _ (h5 h0 ad had)), sl_same0 h4.routers (fun h0 ad had => h2 _ (h6 h0 ad had))⟩, fun h0 ad had => h1 _ (h5 h0 ad had), fun h0 ad had => h1 _ (h6 h0 ad had)⟩
theorem lsaF_of {S : Nat → Prop} {w w' : World} {L : Lsa} {B1 : Option Addr} {m1 d1 : Nat} {B2 : Option Addr} {m2 d2 : Nat} (h : IsLsa w' L B1 m1 d1 B2 m2 d2) (h1 : FreshA w.heap.size B1) (h2 : FreshA w.heap.size B2) :
    LsaF L (.agg (lsaC L B1 m1 d1 B2 m2 d2)) (fun b => S b ∨ (w.heap.size ≤ b ∧ b < w'.heap.size)) w' :=
  ⟨B1, m1, d1, B2, m2, d2, rfl, h, fun h0 ad had => .inr ⟨h1 ad had, sl_lt h.links h0 ad had⟩, fun h0 ad had => .inr ⟨h2 ad had, sl_lt h.routers h0 ad had⟩⟩
def lsaL (us : List Nat) (L : Lsa) : Loud := factL us (fun v => ∃ B1 m1 d1 B2 m2 d2, v = .agg (lsaC L B1 m1 d1 B2 m2 d2)) (LsaF L)
theorem lsaL_ok (us : List Nat) (L : Lsa) : (lsaL us L).Ok := factL_ok ⟨_, none, 0, 0, none, 0, 0, rfl⟩ (good_lsaF L)

theorem str_nil (w : World) : (convert 22 9 (.slice none 0 0)).run Try.prog w = .ok (.string (S8 [])) w := bstr (l := []) (sl_nil w 1)

set_option maxRecDepth 100000 in
set_option maxHeartbeats 1600000 in
theorem lsaPuts_no (L : Lsa) (A1 : Option Addr) (n1 c1 : Nat) (A2 : Option Addr) (n2 c2 : Nat) (w : World) (h : IsLsa w L A1 n1 c1 A2 n2 c2) (hn1 : n1 * 24 ≤ 140737488355328) (hn2 : n2 * 4 ≤ 140737488355328) (hr : L.right = false) :
    Calls Try.prog 8 #[.agg (lsaC L A1 n1 c1 A2 n2 c2)] w fun e w' => e = .returned (.bool true) ∧ Below w.heap.size w w' := by
  have HR := hid hr
  clear hr
  have hbb := (Below.refl w.heap.size w).alloc (Nat.le_refl _) (.cells (lsaC L A1 n1 c1 A2 n2 c2) 75)
  have HBB := hid hbb
  have hb0 := hid (heap_alloc_new w (.cells (lsaC L A1 n1 c1 A2 n2 c2) 75))
  have h0 := h.below hbb
  have hs0 : w.heap.size + 1 ≤ (w.alloc (.cells (lsaC L A1 n1 c1 A2 n2 c2) 75)).heap.size := by simp
  clear hbb
  go_enter Try.func8, Try.ntmps8
  go_wp2_with fail
  refine (to1 L A1 n1 c1 A2 n2 c2 _ h0 hn1 hn2).mono ?_
  rintro e w1 ⟨B1, m1, d1, B2, m2, d2, rfl, hI1, hb1, _⟩
  have hblk := blk_below hb0.out hb1 (by omega)
  have hbw := HBB.out.trans (hb1.mono (by omega))
  have h1 := h.below hbw
  clear h0 hb1 hs0
  go_wp2_with fail
  refine (put_no L B1 m1 d1 B2 m2 d2 w1 hI1 HR.out).mono ?_
  rintro e w2 ⟨rfl, hb2⟩
  replace hblk := blk_below hblk hb2 (Array.getElem?_eq_some_iff.1 hblk).1
  replace hbw := hbw.trans (hb2.mono hbw.size)
  have h2 := h.below hbw
  obtain ⟨hc, _⟩ := blk_cells hblk
  clear hb2 h1 hI1
  go_wp2_with fail
  refine (refPut_no L A1 n1 c1 A2 n2 c2 w2 h2 HR.out).mono ?_
  rintro e w3 ⟨rfl, hb3⟩
  replace hbw := hbw.trans (hb3.mono hbw.size)
  clear hc hblk hb3 h2
  go_wp2_with fail
  refine (puts_any w3).mono ?_
  rintro e w4 ⟨rfl, hb4⟩
  replace hbw := hbw.trans (hb4.mono hbw.size)
  have st := str_nil w4
  clear hb4
  go_wp2_with fail
  go_ret
  exact ⟨rfl, hbw⟩

set_option maxRecDepth 100000 in
set_option maxHeartbeats 3200000 in
theorem lsaPuts_yes (L : Lsa) (A1 : Option Addr) (n1 c1 : Nat) (A2 : Option Addr) (n2 c2 : Nat) (w : World) (h : IsLsa w L A1 n1 c1 A2 n2 c2) (hwf : WfL L) (hn1 : n1 * 24 ≤ 140737488355328) (hn2 : n2 * 4 ≤ 140737488355328) (hr : L.right = true) :
    Calls Try.prog 8 #[.agg (lsaC L A1 n1 c1 A2 n2 c2)] w fun e w' => e = .returned (.bool true) ∧ Below w.heap.size w w' := by
  have lenB : ∀ (w' : World) (B1 : Option Addr) (m1 d1 : Nat) (B2 : Option Addr) (m2 d2 : Nat), IsLsa w' L B1 m1 d1 B2 m2 d2 → m1 ≤ 100000 ∧ m2 ≤ 100000 := fun w' B1 m1 d1 B2 m2 d2 hI => by
    have hrs := right_spec L hr
    have e1 := hI.links.lenN.1
    have e2 := hI.routers.lenN.1
    rw [LK_length] at e1
    rw [U32_length] at e2
    rcases hrs.2.2 with h | h | h
    · have h0 := h.2.2.2.2.1; rw [h0] at e2; simp at e2; omega
    · have h0 := h.2.1; rw [h0] at e1; simp at e1; omega
    · have h0 := h.2.1; have h9 := h.2.2.1; rw [h0] at e1; rw [h9] at e2; simp at e1 e2; omega
  have LENB := hid lenB
  have hlen := tellB_length L hr
  have hpl := putB_length L
  have GE := hid (putB_getE L hwf hr)
  have GL := hid (putB_getL L hwf hr)
  have FL := hid (putB_len L hr)
  have FH := hid (hdrB_head (putB L) (by omega) (putB_two L))
  have HR := hid hr
  clear hr lenB
  have hbb := (Below.refl w.heap.size w).alloc (Nat.le_refl _) (.cells (lsaC L A1 n1 c1 A2 n2 c2) 75)
  have HBB := hid hbb
  have hb0 := hid (heap_alloc_new w (.cells (lsaC L A1 n1 c1 A2 n2 c2) 75))
  have h0 := h.below hbb
  have hs0 : w.heap.size + 1 ≤ (w.alloc (.cells (lsaC L A1 n1 c1 A2 n2 c2) 75)).heap.size := by simp
  clear hbb
  go_enter Try.func8, Try.ntmps8
  go_wp2_with fail
  refine (to1 L A1 n1 c1 A2 n2 c2 _ h0 hn1 hn2).mono ?_
  rintro e w1 ⟨B1, m1, d1, B2, m2, d2, rfl, hI1, hb1, _⟩
  have hblk := blk_below hb0.out hb1 (by omega)
  have hbw := HBB.out.trans (hb1.mono (by omega))
  obtain ⟨hm1, hm2⟩ := LENB.out _ _ _ _ _ _ _ hI1
  clear h0 hb1 hs0
  go_wp2_with fail
  refine (put_yes L B1 m1 d1 B2 m2 d2 w1 hI1 hwf HR.out hm1 hm2).mono ?_
  rintro e w2 ⟨P, cp, np, rfl, hownP, hb2⟩
  replace hblk := blk_below hblk hb2 (Array.getElem?_eq_some_iff.1 hblk).1
  replace hbw := hbw.trans (hb2.mono hbw.size)
  have hP := own_sl hownP
  have h2 := h.below hbw
  obtain ⟨hc, _⟩ := blk_cells hblk
  clear hb2 hI1 hm1 hm2 hownP
  go_wp2_with fail
  refine (refPut_yes L A1 n1 c1 A2 n2 c2 w2 h2 hwf HR.out).mono ?_
  rintro e w3 ⟨R, cr, nr, rfl, hownR, hb3⟩
  replace hblk := blk_below hblk hb3 (Array.getElem?_eq_some_iff.1 hblk).1
  replace hbw := hbw.trans (hb3.mono hbw.size)
  replace hP := hP.below hb3
  have hRr := own_sl hownR
  clear hb3 h2 hc hownR
  go_wp2_with fail
  refine (puts_any w3).mono ?_
  rintro e w4 ⟨rfl, hb4⟩
  replace hblk := blk_below hblk hb4 (Array.getElem?_eq_some_iff.1 hblk).1
  replace hbw := hbw.trans (hb4.mono hbw.size)
  replace hP := hP.below hb4
  replace hRr := hRr.below hb4
  have st1 := bstr hP
  have st2 := bstr hRr
  have hnp := hP.len.1
  clear hb4
  have sq1 : ((S8 (putB L)).toList == (S8 (putB L)).toList) = true := by simp
  have hn20 : 20 ≤ np := by omega
  have hnb : np ≤ 1000000000 := by omega
  have hcp := hP.len.2.1
  have FL' : Hid (fld (putB L) 18 2 = np) := by show _ = _; rw [FL.out]; exact hnp
  clear hnp hpl hlen
  go_wp2_with fail
  refine (get_any P np cp (putB L) w4 hP hnb).mono ?_
  rintro e w5 ⟨M1, k1, e1, M2, k2, e2, rfl, hM, hb5⟩
  rw [GE.out, GL.out]
  rw [GL.out] at hM
  replace hblk := blk_below hblk hb5 (Array.getElem?_eq_some_iff.1 hblk).1
  replace hbw := hbw.trans (hb5.mono hbw.size)
  replace hP := hP.below hb5
  clear st1 st2 hb5
  go_wp2_with fail
  have hb6 := (Below.refl w5.heap.size w5).alloc (Nat.le_refl _) (.cells (lsaC L M1 k1 e1 M2 k2 e2) 80)
  have hB7 := heap_alloc_new w5 (.cells (lsaC L M1 k1 e1 M2 k2 e2) 80)
  replace hblk := blk_below hblk hb6 (Array.getElem?_eq_some_iff.1 hblk).1
  replace hbw := hbw.trans (hb6.mono hbw.size)
  replace hP := hP.below hb6
  replace hM := hM.below hb6
  have hs6 : (w5.alloc (.cells (lsaC L M1 k1 e1 M2 k2 e2) 80)).heap.size = w5.heap.size + 1 := by simp
  change Calls _ _ _ (w5.alloc (.cells (lsaC L M1 k1 e1 M2 k2 e2) 80)) _
  generalize w5.alloc (.cells (lsaC L M1 k1 e1 M2 k2 e2) 80) = w6 at *
  generalize w5.heap.size = g7 at *
  have hs6' : g7 < w6.heap.size := by omega
  clear hb6 hs6
  refine (head_yes P np cp (putB L) w6 hP hn20).mono ?_
  rintro e w7 ⟨rfl, hb7⟩
  replace hblk := blk_below hblk hb7 (Array.getElem?_eq_some_iff.1 hblk).1
  replace hB7 := blk_below hB7 hb7 (Array.getElem?_eq_some_iff.1 hB7).1
  replace hbw := hbw.trans (hb7.mono hbw.size)
  replace hP := hP.below hb7
  replace hM := hM.below hb7
  have hs7 := hb7.size
  clear hb7
  go_wp2_with fail
  have hb8 := (Below.refl w7.heap.size w7).alloc (Nat.le_refl _) (.cells (headC (putB L)) 87)
  have hB9 := heap_alloc_new w7 (.cells (headC (putB L)) 87)
  replace hblk := blk_below hblk hb8 (Array.getElem?_eq_some_iff.1 hblk).1
  replace hB7 := blk_below hB7 hb8 (Array.getElem?_eq_some_iff.1 hB7).1
  replace hbw := hbw.trans (hb8.mono hbw.size)
  replace hP := hP.below hb8
  replace hM := hM.below hb8
  have hs8 : w7.heap.size < (w7.alloc (.cells (headC (putB L)) 87)).heap.size := by simp
  change Code.wp _ _ _ _ (w7.alloc (.cells (headC (putB L)) 87))
  generalize w7.alloc (.cells (headC (putB L)) 87) = w8 at *
  generalize w7.heap.size = g9 at *
  have h8 := h.below hbw
  have hlt0 : w.heap.size < w8.heap.size := (Array.getElem?_eq_some_iff.1 hblk).1
  clear hb8
  -- the last statement
  have c4 : (0 : Int) ≤ (fld (putB L) 4 4 : Nat) ∧ ((fld (putB L) 4 4 : Nat) : Int) < 4294967296 := ⟨by omega, by have := fld_bd (putB L) 4 4 (by omega); omega⟩
  have c8 : (0 : Int) ≤ (fld (putB L) 8 4 : Nat) ∧ ((fld (putB L) 8 4 : Nat) : Int) < 4294967296 := ⟨by omega, by have := fld_bd (putB L) 8 4 (by omega); omega⟩
  have c16 : (0 : Int) ≤ (fld (putB L) 16 2 : Nat) ∧ ((fld (putB L) 16 2 : Nat) : Int) < 65536 := ⟨by omega, by have := nv_lt ((putB L).drop 16) 2; have h2 : fld (putB L) 16 2 < 65536 := (by simpa [fld] using this); omega⟩
  have ql : (((fld (putB L) 18 2 : Nat) : Int) == (np : Int)) = true := by rw [FL'.out]; simp
  have HC : Hid (∀ X, X = headC (putB L) → X = headC (putB L)) := fun X h => h
  generalize hy0 : ((fld (putB L) 0 2 : Nat) : Int) = y0 at *
  generalize hy1 : ((fld (putB L) 3 1 : Nat) : Int) = y1 at *
  generalize hy2 : ((fld (putB L) 4 4 : Nat) : Int) = y2 at *
  generalize hy3 : ((fld (putB L) 8 4 : Nat) : Int) = y3 at *
  generalize hy4 : sq (putB L) = y4 at *
  generalize hy5 : ((fld (putB L) 16 2 : Nat) : Int) = y5 at *
  generalize hy6 : ((fld (putB L) 18 2 : Nat) : Int) = y6 at *
  have HY : Hid (headC (putB L) = hdrCells y0 y1 y2 y3 y4 y5 y6) := by show _ = _; rw [← hy0, ← hy1, ← hy2, ← hy3, ← hy4, ← hy5, ← hy6]
  clear hy0 hy1 hy2 hy3 hy4 hy5 hy6 HC FL FL'
  rw [HY.out] at hB9
  have zc : ∀ (z : WK (fun _ => False) w8) (g i : Nat), g < w8.heap.size → (wat z).cell? ⟨g, i, none⟩ = w8.cell? ⟨g, i, none⟩ := fun z g i hg => wat_cell (p := ⟨g, i, none⟩) hg (by simp) z
  obtain ⟨ca, _⟩ := blk_cells hblk
  obtain ⟨cb, _⟩ := blk_cells hB7
  obtain ⟨cd, _⟩ := blk_cells hB9
  have za := fun z i => (zc z w.heap.size i hlt0).trans (ca i)
  have zb := fun z i => (zc z g7 i (by omega)).trans (cb i)
  have zd := fun z i => (zc z g9 i (by omega)).trans (cd i)
  have hzb : ∀ z : WK (fun _ => False) w8, Below w8.heap.size w8 (wat z) := fun z => (wat_kept z).below
  have z20 : ∀ z : WK (fun _ => False) w8, (convert 22 9 (.slice P 20 cp)).run Try.prog (wat z) = .ok (.string (S8 ((putB L).take 20))) (wat z) := fun z => bstr ((hP.below (hzb z)).take 20 hn20)
  clear zc ca cb cd hzb
  have qs : ((S8 ((putB L).take 20)).toList == (S8 ((putB L).take 20)).toList) = true := by simp
  as_aux_lemma =>
    refine wp_region_loud (fun _ => False)
      [(4, lsaL [] L), (6, plainL [4] (.bool true)), (7, plainL [] (.bool true)), (11, plainL [] (.bool true)), (14, plainL [] (.agg (hdrCells y0 y1 y2 y3 y4 y5 y6))), (16, plainL [] (.agg (hdrCells y0 y1 y2 y3 y4 y5 y6))), (18, plainL [] (.bool true)),
       (21, rowL [] w8.heap.size 5 1 20 (B8 ((putB L).take 20))), (22, plainL [21] (.string (S8 ((putB L).take 20)))), (27, plainL [] (.bool true)), (34, plainL [] (.bool true))]
      (fun _ => Fact.none) (by kernel_rfl) (by kernel_rfl)
      (.cons (lsaL_ok _ _) (.cons (plainL_ok _ _) (.cons (plainL_ok _ _) (.cons (plainL_ok _ _) (.cons (plainL_ok _ _) (.cons (plainL_ok _ _) (.cons (plainL_ok _ _) (.cons (rowL_ok _ _ _ _ _ _) (.cons (plainL_ok _ _) (.cons (plainL_ok _ _) (.cons (plainL_ok _ _) .nil))))))))))) good_nothing sat_none ?_
    repeat (refine wpX_quiet (by rfl) (by rfl) (by rfl) (fun K hK => ?_); go_big_quiet_op; refine hK _ ?_; clear hK K)
    refine wpX_loud (us := []) (by rfl) (by rfl) (fun S wS hC hS hU => runs_enter (f := 47) (by go_simp <;> rfl) ?_) (fun v hv K hK => ?_)
    · have hMS := hM.below hC.below
      refine (from1 L M1 k1 e1 M2 k2 e2 wS hMS (by have := LENB.out _ _ _ _ _ _ _ hMS; omega) (by have := LENB.out _ _ _ _ _ _ _ hMS; omega)).mono ?_
      rintro e w' ⟨B1, m1, d1, B2, m2, d2, rfl, hI, hb, hfA, hfB⟩
      exact ⟨_, rfl, ⟨_, _, _, _, _, _, rfl⟩, Kept.of_below hb, lsaF_of hI hfA hfB⟩
    obtain ⟨B1, m1, d1, B2, m2, d2, rfl⟩ := hv; (go_simp; refine hK _ ?_; clear hK K)
    repeat (refine wpX_quiet (by rfl) (by rfl) (by rfl) (fun K hK => ?_); go_big_quiet_op; refine hK _ ?_; clear hK K)
    refine wpX_loud (us := [4]) (by rfl) (by rfl) (fun S wS hC hS hU => runs_enter (f := 46) (by go_simp <;> rfl) ?_) (fun v hv K hK => ?_)
    · obtain ⟨B1', m1', d1', B2', m2', d2', he, hI, _⟩ := (hU 4 (by simp) : LsaF L (.agg (lsaC L B1 m1 d1 B2 m2 d2)) S wS)
      injection he with he
      simp at he
      obtain ⟨⟨rfl, rfl, rfl⟩, rfl, rfl, rfl⟩ := he
      refine (refSame_any L L B1 m1 d1 B2 m2 d2 A1 n1 c1 A2 n2 c2 wS hI (h8.below hC.below) rfl).mono ?_
      rintro e w' ⟨rfl, hb⟩
      exact ⟨_, rfl, rfl, Kept.of_below hb, trivial⟩
    obtain rfl := hv; (go_simp; refine hK _ ?_; clear hK K)
    repeat (refine wpX_quiet (by rfl) (by rfl) (by rfl) (fun K hK => ?_); go_big_quiet_op; refine hK _ ?_; clear hK K)
    refine wpX_loud (us := []) (by rfl) (by rfl) (fun S wS hC hS hU => ?_) (fun v hv K hK => ?_)
    · exact runs_value (by go_simp <;> rfl) ⟨rfl, Kept.refl _ _, trivial⟩
    obtain rfl := hv; (go_simp; refine hK _ ?_; clear hK K)
    repeat (refine wpX_quiet (by rfl) (by rfl) (by rfl) (fun K hK => ?_); go_big_quiet_op; refine hK _ ?_; clear hK K)
    refine wpX_loud (us := []) (by rfl) (by rfl) (fun S wS hC hS hU => ?_) (fun v hv K hK => ?_)
    · exact runs_value (by go_simp <;> rfl) ⟨rfl, Kept.refl _ _, trivial⟩
    obtain rfl := hv; (go_simp; refine hK _ ?_; clear hK K)
    repeat (refine wpX_quiet (by rfl) (by rfl) (by rfl) (fun K hK => ?_); go_big_quiet_op; refine hK _ ?_; clear hK K)
    refine wpX_loud (us := []) (by rfl) (by rfl) (fun S wS hC hS hU => runs_enter (f := 48) (by go_simp <;> rfl) ?_) (fun v hv K hK => ?_)
    · refine (back_any _ _ _ _ _ _ _ wS).mono ?_
      rintro e w' ⟨rfl, hb⟩
      exact ⟨_, rfl, rfl, Kept.of_below hb, trivial⟩
    obtain rfl := hv; (go_simp; refine hK _ ?_; clear hK K)
    repeat (refine wpX_quiet (by rfl) (by rfl) (by rfl) (fun K hK => ?_); go_big_quiet_op; refine hK _ ?_; clear hK K)
    refine wpX_loud (us := []) (by rfl) (by rfl) (fun S wS hC hS hU => runs_enter (f := 49) (by go_simp <;> rfl) ?_) (fun v hv K hK => ?_)
    · refine (refHead_any P np cp (putB L) wS (hP.below hC.below) hn20).mono ?_
      rintro e w' ⟨rfl, hb⟩
      rw [HY.out]
      exact ⟨_, rfl, rfl, Kept.of_below hb, trivial⟩
    obtain rfl := hv; (go_simp; refine hK _ ?_; clear hK K)
    repeat (refine wpX_quiet (by rfl) (by rfl) (by rfl) (fun K hK => ?_); go_big_quiet_op; refine hK _ ?_; clear hK K)
    refine wpX_loud (us := []) (by rfl) (by rfl) (fun S wS hC hS hU => ?_) (fun v hv K hK => ?_)
    · exact runs_value (by go_simp <;> rfl) ⟨rfl, Kept.refl _ _, trivial⟩
    obtain rfl := hv; (go_simp; refine hK _ ?_; clear hK K)
    repeat (refine wpX_quiet (by rfl) (by rfl) (by rfl) (fun K hK => ?_); go_big_quiet_op; refine hK _ ?_; clear hK K)
    refine wpX_loud (us := []) (by rfl) (by rfl) (fun S wS hC hS hU => runs_enter (f := 50) (by go_simp <;> rfl) ?_) (fun v hv K hK => ?_)
    · refine (putHeader_any _ _ _ _ _ _ _ wS c4 c8 c16).mono ?_
      rintro e w' ⟨A', c', rfl, h1, h2⟩
      rw [FH.out] at h1
      exact ⟨_, rfl, ⟨_, _, rfl⟩, Kept.of_below h2, own_fresh h1 hC.size⟩
    obtain ⟨A7, c7, rfl⟩ := hv; (go_simp; refine hK _ ?_; clear hK K)
    repeat (refine wpX_quiet (by rfl) (by rfl) (by rfl) (fun K hK => ?_); go_big_quiet_op; refine hK _ ?_; clear hK K)
    refine wpX_loud (us := [21]) (by rfl) (by rfl) (fun S wS hC hS hU => ?_) (fun v hv K hK => ?_)
    · have k21 : OwnF w8.heap.size 5 1 20 (B8 ((putB L).take 20)) (.slice A7 20 c7) S wS := hU 21 (by simp)
      have st := bstr (own_sl k21.2)
      exact runs_value (by go_simp <;> rfl) ⟨rfl, Kept.refl _ _, trivial⟩
    obtain rfl := hv; (go_simp; refine hK _ ?_; clear hK K)
    repeat (refine wpX_quiet (by rfl) (by rfl) (by rfl) (fun K hK => ?_); go_big_quiet_op; refine hK _ ?_; clear hK K)
    refine wpX_loud (us := []) (by rfl) (by rfl) (fun S wS hC hS hU => ?_) (fun v hv K hK => ?_)
    · exact runs_value (by go_simp <;> rfl) ⟨rfl, Kept.refl _ _, trivial⟩
    obtain rfl := hv; (go_simp; refine hK _ ?_; clear hK K)
    repeat (refine wpX_quiet (by rfl) (by rfl) (by rfl) (fun K hK => ?_); go_big_quiet_op; refine hK _ ?_; clear hK K)
    refine wpX_loud (us := []) (by rfl) (by rfl) (fun S wS hC hS hU => ?_) (fun v hv K hK => ?_)
    · exact runs_value (by go_simp <;> rfl) ⟨rfl, Kept.refl _ _, trivial⟩
    obtain rfl := hv; (go_simp; refine hK _ ?_; clear hK K)
    repeat (refine wpX_quiet (by rfl) (by rfl) (by rfl) (fun K hK => ?_); go_big_quiet_op; refine hK _ ?_; clear hK K)
    refine wpX_nil fun w9 hsat => ?_
    have hb9 := sat_below hsat
    have hbw9 := hbw.trans (hb9.mono hbw.size)
    clear hsat za zb zd z20 qs ql
    go_wp2_with fail
    go_ret
    exact ⟨rfl, hbw9⟩

theorem lsaPuts_walk (L : Lsa) (A1 : Option Addr) (n1 c1 : Nat) (A2 : Option Addr) (n2 c2 : Nat) (w : World) (h : IsLsa w L A1 n1 c1 A2 n2 c2) (hwf : WfL L) (hn1 : n1 * 24 ≤ 140737488355328) (hn2 : n2 * 4 ≤ 140737488355328) :
    Calls Try.prog 8 #[.agg (lsaC L A1 n1 c1 A2 n2 c2)] w fun e w' => e = .returned (.bool true) ∧ Below w.heap.size w w' := by
  cases hr : L.right with
  | false => exact lsaPuts_no L A1 n1 c1 A2 n2 c2 w h hn1 hn2 hr
  | true => exact lsaPuts_yes L A1 n1 c1 A2 n2 c2 w h hwf hn1 hn2 hr
end Go.Proofs.Ytaajhkdifliblaa
