/-
  Contracts of package lsdb: New, header, copied.
-/
import Derived.Test.YtaajhkdifliblaaDb2
namespace Go.Proofs.Ytaajhkdifliblaa
set_option linter.unusedVariables false
set_option linter.unusedSimpArgs false
open Go Go.RowKit SM LM

/-- a Db: its block, its map's entries -/
structure DbIs (w : World) (d r : Nat) (es : Array MapEntry) (clk : Nat) : Prop where
  cell : w.heap[d]? = some (.cells #[.map (some r)] 149 (0, 0))
  map : w.heap[r]? = some (.map es clk)
theorem DbIs.below {w w' : World} {d r clk : Nat} {es : Array MapEntry} (h : DbIs w d r es clk) (hb : Below w.heap.size w w') : DbIs w' d r es clk :=
  ⟨blk_below h.cell hb (Array.getElem?_eq_some_iff.1 h.cell).1, blk_below h.map hb (Array.getElem?_eq_some_iff.1 h.map).1⟩
theorem mkMap (w : World) : (Instr.makeMap 147 none).run Try.prog w = .ok (.map (some w.heap.size)) (w.alloc (.map #[] 0)) := by
  simp [Instr.makeMap, run_underlying Try.underlying147, go_sem]
set_option maxRecDepth 100000 in
set_option maxHeartbeats 400000 in
theorem new_any (w : World) : Calls Try.prog 54 #[] w fun e w' => e = .returned (.pointer (some ⟨w.heap.size + 1, 0, none⟩)) ∧ DbIs w' (w.heap.size + 1) w.heap.size #[] 0 ∧ w.heap.size + 2 ≤ w'.heap.size ∧ Below w.heap.size w w' := by
  have h1 := heap_alloc_new' (w.alloc (.map #[] 0)) (.cells #[.map (some w.heap.size)] 149) (w.heap.size + 1) (by simp)
  have h2 := blk_alloc (heap_alloc_new w (.map #[] 0)) (.cells #[.map (some w.heap.size)] 149)
  have hb := ((Below.refl w.heap.size w).alloc (Nat.le_refl _) (.map #[] 0)).alloc (by simp) (.cells #[.map (some w.heap.size)] 149)
  have hm := mkMap w
  go_enter Try.func54, Try.ntmps54
  go_wp2_with fail
  go_ret
  exact ⟨by simp, ⟨h1, h2⟩, by simp, hb⟩

theorem kept_same {S : Nat → Prop} {w : World} {g i : Nat} {cs : Array Value} {T : TypeId} {v : Value} (hb : w.heap[g]? = some (.cells cs T (0, 0))) (hv : cs[i]? = some v) : Kept S w (w.setCell ⟨g, i, none⟩ v) := by
  refine ⟨rfl, rfl, rfl, by simp [World.setCell], fun b hbl _ => ?_⟩
  by_cases e : b = g
  · subst e
    rw [blk_set hb i v, hb]
    have : cs.setIfInBounds i v = cs := by
      apply Array.ext_getElem?
      intro j
      rw [Array.getElem?_setIfInBounds]
      split
      · rename_i h; subst h; split <;> simp_all
      · rfl
    rw [this]
  · exact Below.heap_setCell w ⟨g, i, none⟩ v b e
/-- seven cells laid into a block -/
def putH (w : World) (g : Nat) (y0 y1 y2 y3 y4 y5 y6 : Int) : World := (((((((w.setCell ⟨g, 0, none⟩ (.int .i64 y0)).setCell ⟨g, 1, none⟩ (.int .i64 y1)).setCell ⟨g, 2, none⟩ (.int .u32 y2)).setCell ⟨g, 3, none⟩ (.int .u32 y3)).setCell ⟨g, 4, none⟩ (.int .i64 y4)).setCell ⟨g, 5, none⟩ (.int .u16 y5)).setCell ⟨g, 6, none⟩ (.int .i64 y6))
theorem putH_in {w : World} {g : Nat} {a0 a1 a2 a3 a4 a5 a6 : Value} {T : TypeId} (y0 y1 y2 y3 y4 y5 y6 : Int) (h : w.heap[g]? = some (.cells #[a0, a1, a2, a3, a4, a5, a6] T (0, 0))) : (putH w g y0 y1 y2 y3 y4 y5 y6).heap[g]? = some (.cells (hdrCells y0 y1 y2 y3 y4 y5 y6) T (0, 0)) := by
  have := blk_set (blk_set (blk_set (blk_set (blk_set (blk_set (blk_set h 0 (.int .i64 y0)) 1 (.int .i64 y1)) 2 (.int .u32 y2)) 3 (.int .u32 y3)) 4 (.int .i64 y4)) 5 (.int .u16 y5)) 6 (.int .i64 y6)
  simp at this
  exact this
theorem putH_below {w w0 : World} {B g : Nat} (y0 y1 y2 y3 y4 y5 y6 : Int) (h : Below B w0 w) (hg : B ≤ g) : Below B w0 (putH w g y0 y1 y2 y3 y4 y5 y6) :=
  ((((((h.setCell (p := ⟨g, 0, none⟩) hg _).setCell (p := ⟨g, 1, none⟩) hg _).setCell (p := ⟨g, 2, none⟩) hg _).setCell (p := ⟨g, 3, none⟩) hg _).setCell (p := ⟨g, 4, none⟩) hg _).setCell (p := ⟨g, 5, none⟩) hg _).setCell (p := ⟨g, 6, none⟩) hg _
/-- nine cells laid into a block -/
def putL (w : World) (g : Nat) (L : Lsa) (A1 : Option Addr) (n1 c1 : Nat) (A2 : Option Addr) (n2 c2 : Nat) : World :=
  (((((((((w.setCell ⟨g, 0, none⟩ (.int .i64 L.age)).setCell ⟨g, 1, none⟩ (.int .i64 L.kty)).setCell ⟨g, 2, none⟩ (.int .u32 (L.kid : Int))).setCell ⟨g, 3, none⟩ (.int .u32 (L.kadv : Int))).setCell ⟨g, 4, none⟩ (.int .i64 L.seq)).setCell ⟨g, 5, none⟩ (.slice A1 n1 c1)).setCell ⟨g, 6, none⟩ (.int .u32 (L.mask : Int))).setCell ⟨g, 7, none⟩ (.slice A2 n2 c2)).setCell ⟨g, 8, none⟩ (.int .i64 L.cost))
theorem putL_in {w : World} {g : Nat} {a0 a1 a2 a3 a4 a5 a6 a7 a8 : Value} {T : TypeId} (L : Lsa) (A1 : Option Addr) (n1 c1 : Nat) (A2 : Option Addr) (n2 c2 : Nat) (h : w.heap[g]? = some (.cells #[a0, a1, a2, a3, a4, a5, a6, a7, a8] T (0, 0))) :
    (putL w g L A1 n1 c1 A2 n2 c2).heap[g]? = some (.cells (lsaC L A1 n1 c1 A2 n2 c2) T (0, 0)) := by
  have := blk_set (blk_set (blk_set (blk_set (blk_set (blk_set (blk_set (blk_set (blk_set h 0 (.int .i64 L.age)) 1 (.int .i64 L.kty)) 2 (.int .u32 (L.kid : Int))) 3 (.int .u32 (L.kadv : Int))) 4 (.int .i64 L.seq)) 5 (.slice A1 n1 c1)) 6 (.int .u32 (L.mask : Int))) 7 (.slice A2 n2 c2)) 8 (.int .i64 L.cost)
  simp at this
  exact this
theorem putL_below {w w0 : World} {B g : Nat} (L : Lsa) (A1 : Option Addr) (n1 c1 : Nat) (A2 : Option Addr) (n2 c2 : Nat) (h : Below B w0 w) (hg : B ≤ g) : Below B w0 (putL w g L A1 n1 c1 A2 n2 c2) :=
  ((((((((h.setCell (p := ⟨g, 0, none⟩) hg _).setCell (p := ⟨g, 1, none⟩) hg _).setCell (p := ⟨g, 2, none⟩) hg _).setCell (p := ⟨g, 3, none⟩) hg _).setCell (p := ⟨g, 4, none⟩) hg _).setCell (p := ⟨g, 5, none⟩) hg _).setCell (p := ⟨g, 6, none⟩) hg _).setCell (p := ⟨g, 7, none⟩) hg _).setCell (p := ⟨g, 8, none⟩) hg _

set_option maxRecDepth 100000 in
set_option maxHeartbeats 1600000 in
theorem header_yes (L : Lsa) (B1 : Option Addr) (m1 d1 : Nat) (B2 : Option Addr) (m2 d2 : Nat) (w : World) (hI : IsLsa w L B1 m1 d1 B2 m2 d2) (hwf : WfL L) (hr : L.right = true) :
    Calls Try.prog 83 #[.agg (lsaC L B1 m1 d1 B2 m2 d2)] w fun e w' => e = .returned (.tuple #[.agg (headC (putB L)), .int .i64 0]) ∧ Below w.heap.size w w' := by
  obtain ⟨hm1, hm2⟩ := right_lens hr hI
  have t1 := tellB_length L hr
  have t2 := putB_length L
  have hR := hid hr
  have hbw := ((Below.refl w.heap.size w).alloc (Nat.le_refl _) (.cells (lsaC L B1 m1 d1 B2 m2 d2) 80)).alloc (by simp) (.cells (hdrCells 0 0 0 0 0 0 0) 87)
  have hh := heap_alloc_new' (w.alloc (.cells (lsaC L B1 m1 d1 B2 m2 d2) 80)) (.cells (hdrCells 0 0 0 0 0 0 0) 87) (w.heap.size + 1) (by simp)
  clear hr
  go_enter Try.func83, Try.ntmps83
  go_wp2_with fail
  refine (put_yes L B1 m1 d1 B2 m2 d2 _ (hI.below hbw) hwf hR.out hm1 hm2).mono ?_
  rintro e w1 ⟨P, cp, np, rfl, hown, hb1⟩
  have hP := own_sl hown
  have hnp := hP.len.1
  have hn20 : 20 ≤ np := by omega
  replace hh := blk_below hh hb1 (by simp)
  replace hbw := hbw.trans (hb1.mono (by simp; omega))
  clear hown hb1 hnp t1 t2
  go_wp2_with fail
  refine (head_yes P np cp (putB L) w1 hP hn20).mono ?_
  rintro e w2 ⟨rfl, hb2⟩
  replace hh := blk_below hh hb2 (Array.getElem?_eq_some_iff.1 hh).1
  replace hbw := hbw.trans (hb2.mono hbw.size)
  clear hb2 hP
  obtain ⟨hc, hf⟩ := blk_cells hh
  have hin := putH_in (fld (putB L) 0 2 : Nat) (fld (putB L) 3 1 : Nat) (fld (putB L) 4 4 : Nat) (fld (putB L) 8 4 : Nat) (sq (putB L)) (fld (putB L) 16 2 : Nat) (fld (putB L) 18 2 : Nat) hh
  have hbe := putH_below (g := w.heap.size + 1) (fld (putB L) 0 2 : Nat) (fld (putB L) 3 1 : Nat) (fld (putB L) 4 4 : Nat) (fld (putB L) 8 4 : Nat) (sq (putB L)) (fld (putB L) 16 2 : Nat) (fld (putB L) 18 2 : Nat) hbw (by omega)
  go_wp2_with fail
  refine ret_blk (v := .tuple #[.agg (headC (putB L)), .int .i64 0]) (g := w.heap.size + 1) (T := 87) (cs := headC (putB L)) (fun W hW => by obtain ⟨hc, hf⟩ := blk_cells hW; simp [results, Try.results83, go_sem, hc]) hin rfl ⟨rfl, hbe⟩

set_option maxRecDepth 100000 in
set_option maxHeartbeats 400000 in
theorem cloneL_nil (w : World) : Calls Try.prog 95 #[.slice none 0 0] w fun e w' => e = .returned (.slice none 0 0) ∧ w' = w := by
  have q22 : ∀ (w : World) (a : Option Addr) (n c n' c' : Nat), (binOp .eql 78 (.slice a n c) (.slice none n' c')).run Try.prog w = .ok (.bool a.isNone) w := fun w a n c n' c' => Lib.run_eql_slice_nil w _ _ a n c n' c' Try.underlying78
  go_enter Try.func95, Try.ntmps95
  go_wp2_with fail
  go_ret
  exact ⟨rfl, rfl⟩
set_option maxRecDepth 100000 in
set_option maxHeartbeats 400000 in
theorem cloneN_nil (w : World) : Calls Try.prog 96 #[.slice none 0 0] w fun e w' => e = .returned (.slice none 0 0) ∧ w' = w := by
  have q22 : ∀ (w : World) (a : Option Addr) (n c n' c' : Nat), (binOp .eql 73 (.slice a n c) (.slice none n' c')).run Try.prog w = .ok (.bool a.isNone) w := fun w a n c n' c' => Lib.run_eql_slice_nil w _ _ a n c n' c' Try.underlying73
  go_enter Try.func96, Try.ntmps96
  go_wp2_with fail
  go_ret
  exact ⟨rfl, rfl⟩
set_option maxRecDepth 100000 in
set_option maxHeartbeats 1600000 in
theorem copied_nil (L : Lsa) (w : World) : Calls Try.prog 84 #[.agg (lsaC L none 0 0 none 0 0)] w fun e w' => e = .returned (.agg (lsaC L none 0 0 none 0 0)) ∧ Below w.heap.size w w' := by
  have hbw := ((Below.refl w.heap.size w).alloc (Nat.le_refl _) (.cells (lsaC L none 0 0 none 0 0) 80)).alloc (by simp) (.cells (lsaC zeroL none 0 0 none 0 0) 80)
  have hh := heap_alloc_new' (w.alloc (.cells (lsaC L none 0 0 none 0 0) 80)) (.cells (lsaC zeroL none 0 0 none 0 0) 80) (w.heap.size + 1) (by simp)
  have h1 := blk_alloc (heap_alloc_new w (.cells (lsaC L none 0 0 none 0 0) 80)) (.cells (lsaC zeroL none 0 0 none 0 0) 80)
  go_enter Try.func84, Try.ntmps84
  go_wp2_with fail
  change Code.wp _ _ _ _ ((w.alloc (.cells (lsaC L none 0 0 none 0 0) 80)).alloc (.cells (lsaC zeroL none 0 0 none 0 0) 80))
  generalize ((w.alloc (.cells (lsaC L none 0 0 none 0 0) 80)).alloc (.cells (lsaC zeroL none 0 0 none 0 0) 80)) = w1 at *
  have z1 := fun (z : WK (fun _ => False) w1) i => (wat_cell (p := ⟨w.heap.size, i, none⟩) (Array.getElem?_eq_some_iff.1 h1).1 (by simp) z).trans ((blk_cells h1).1 i)
  refine wp_region_loud (fun _ => False)
      [(2, plainL [] (.slice none 0 0)), (5, plainL [] (.slice none 0 0)), (7, keepL [] Fact.none), (9, keepL [] Fact.none)]
      (fun _ => Fact.none) (by kernel_rfl) (by kernel_rfl)
      (.cons (plainL_ok _ _) (.cons (plainL_ok _ _) (.cons (keepL_ok _ Good.none) (.cons (keepL_ok _ Good.none) .nil)))) good_nothing sat_none (WX.out ?_)
  repeat (first | (refine wx_quietU (by rfl) (by rfl) (by rfl) (fun K hK => ?_); go_big_quiet_op; refine hK _ ?_; clear hK K) | (refine wx_quietG (by rfl) (by rfl) (by rfl) (by rfl) (by rfl) (fun K hK => ?_); go_big_quiet_op; refine hK _ ?_; clear hK K) | (refine wx_skipG (by rfl) (by rfl) (by rfl) (fun K hK => ?_); go_simp; refine hK _ ?_; clear hK K) | (refine wx_skipN (by rfl) (by rfl) (by rfl) (fun K hK => ?_); go_simp; refine hK _ ?_; clear hK K))
  refine wx_loudU (us := []) (by rfl) (by rfl) (fun S wS hC hS hU => runs_enter (f := 95) (by go_simp <;> rfl) ?_) (fun v hv K hK => ?_)
  · refine (cloneL_nil wS).mono ?_
    rintro e w' ⟨rfl, rfl⟩
    exact ⟨_, rfl, rfl, Kept.refl _ _, trivial⟩
  obtain rfl := hv; (go_simp; refine hK _ ?_; clear hK K)
  repeat (first | (refine wx_quietU (by rfl) (by rfl) (by rfl) (fun K hK => ?_); go_big_quiet_op; refine hK _ ?_; clear hK K) | (refine wx_quietG (by rfl) (by rfl) (by rfl) (by rfl) (by rfl) (fun K hK => ?_); go_big_quiet_op; refine hK _ ?_; clear hK K) | (refine wx_skipG (by rfl) (by rfl) (by rfl) (fun K hK => ?_); go_simp; refine hK _ ?_; clear hK K) | (refine wx_skipN (by rfl) (by rfl) (by rfl) (fun K hK => ?_); go_simp; refine hK _ ?_; clear hK K))
  refine wx_loudU (us := []) (by rfl) (by rfl) (fun S wS hC hS hU => runs_enter (f := 96) (by go_simp <;> rfl) ?_) (fun v hv K hK => ?_)
  · refine (cloneN_nil wS).mono ?_
    rintro e w' ⟨rfl, rfl⟩
    exact ⟨_, rfl, rfl, Kept.refl _ _, trivial⟩
  obtain rfl := hv; (go_simp; refine hK _ ?_; clear hK K)
  repeat (first | (refine wx_quietU (by rfl) (by rfl) (by rfl) (fun K hK => ?_); go_big_quiet_op; refine hK _ ?_; clear hK K) | (refine wx_quietG (by rfl) (by rfl) (by rfl) (by rfl) (by rfl) (fun K hK => ?_); go_big_quiet_op; refine hK _ ?_; clear hK K) | (refine wx_skipG (by rfl) (by rfl) (by rfl) (fun K hK => ?_); go_simp; refine hK _ ?_; clear hK K) | (refine wx_skipN (by rfl) (by rfl) (by rfl) (fun K hK => ?_); go_simp; refine hK _ ?_; clear hK K))
  refine wx_loudU (us := []) (by rfl) (by rfl) (fun S wS hC hS hU => ?_) (fun v hv K hK => ?_)
  · have h1S := blk_kept h1 hC (fun h => h)
    obtain ⟨hcS, hfS⟩ := blk_cells h1S
    exact runs_skip (by go_simp <;> rfl) ⟨trivial, kept_same h1S rfl, trivial⟩
  (go_simp; refine hK _ ?_; clear hK K)
  repeat (first | (refine wx_quietU (by rfl) (by rfl) (by rfl) (fun K hK => ?_); go_big_quiet_op; refine hK _ ?_; clear hK K) | (refine wx_quietG (by rfl) (by rfl) (by rfl) (by rfl) (by rfl) (fun K hK => ?_); go_big_quiet_op; refine hK _ ?_; clear hK K) | (refine wx_skipG (by rfl) (by rfl) (by rfl) (fun K hK => ?_); go_simp; refine hK _ ?_; clear hK K) | (refine wx_skipN (by rfl) (by rfl) (by rfl) (fun K hK => ?_); go_simp; refine hK _ ?_; clear hK K))
  refine wx_loudU (us := []) (by rfl) (by rfl) (fun S wS hC hS hU => ?_) (fun v hv K hK => ?_)
  · have h1S := blk_kept h1 hC (fun h => h)
    obtain ⟨hcS, hfS⟩ := blk_cells h1S
    exact runs_skip (by go_simp <;> rfl) ⟨trivial, kept_same h1S rfl, trivial⟩
  (go_simp; refine hK _ ?_; clear hK K)
  repeat (first | (refine wx_quietU (by rfl) (by rfl) (by rfl) (fun K hK => ?_); go_big_quiet_op; refine hK _ ?_; clear hK K) | (refine wx_quietG (by rfl) (by rfl) (by rfl) (by rfl) (by rfl) (fun K hK => ?_); go_big_quiet_op; refine hK _ ?_; clear hK K) | (refine wx_skipG (by rfl) (by rfl) (by rfl) (fun K hK => ?_); go_simp; refine hK _ ?_; clear hK K) | (refine wx_skipN (by rfl) (by rfl) (by rfl) (fun K hK => ?_); go_simp; refine hK _ ?_; clear hK K))
  refine wx_nil fun w2 hsat => ?_
  have hb2 := sat_below hsat
  replace h1 := blk_below h1 hb2 (Array.getElem?_eq_some_iff.1 h1).1
  replace hh := blk_below hh hb2 (Array.getElem?_eq_some_iff.1 hh).1
  replace hbw := hbw.trans (hb2.mono hbw.size)
  clear hsat z1 hb2
  obtain ⟨hc1, _⟩ := blk_cells h1
  obtain ⟨_, hf2⟩ := blk_cells hh
  have hin := putL_in L none 0 0 none 0 0 hh
  have hbe := putL_below (g := w.heap.size + 1) L none 0 0 none 0 0 hbw (by omega)
  go_wp2_with fail
  refine ret_blk (v := .agg (lsaC L none 0 0 none 0 0)) (g := w.heap.size + 1) (T := 80) (cs := lsaC L none 0 0 none 0 0) (fun W hW => by obtain ⟨hc, hf⟩ := blk_cells hW; simp [results, Try.results84, go_sem, hc]) hin rfl ⟨rfl, hbe⟩
end Go.Proofs.Ytaajhkdifliblaa
