/-
  Contract of lsdb's Put, where nothing or one is there.
-/
import Derived.Test.YtaajhkdifliblaaDb3
namespace Go.Proofs.Ytaajhkdifliblaa
set_option linter.unusedVariables false
set_option linter.unusedSimpArgs false
open Go Go.RowKit SM LM

/-- an entry's value: an Lsa without lists, its header -/
abbrev oneC (L : Lsa) (y0 y1 y2 y3 y4 y5 y6 : Int) : Array Value := #[.int .i64 L.age, .int .i64 L.kty, .int .u32 (L.kid : Int), .int .u32 (L.kadv : Int), .int .i64 L.seq, .slice none 0 0, .int .u32 (L.mask : Int), .slice none 0 0, .int .i64 L.cost,
  .int .i64 y0, .int .i64 y1, .int .u32 y2, .int .u32 y3, .int .i64 y4, .int .u16 y5, .int .i64 y6]
def sumOf (L : Lsa) : Int := (fld (putB L) 16 2 : Nat)
def oneV (L : Lsa) : Value := .agg (oneC L (fld (putB L) 0 2 : Nat) (fld (putB L) 3 1 : Nat) (fld (putB L) 4 4 : Nat) (fld (putB L) 8 4 : Nat) (sq (putB L)) (fld (putB L) 16 2 : Nat) (fld (putB L) 18 2 : Nat))
def newer (L L0 : Lsa) : Bool := decide (cmpH L.age L.seq (sumOf L) L0.age L0.seq (sumOf L0) = 1)
theorem hdr_of (L : Lsa) (hw : WfL L) (hr : L.right = true) : ∃ y1 y2 y3 y6, headC (putB L) = hdrCells L.age y1 y2 y3 L.seq (sumOf L) y6 ∧ oneV L = .agg (oneC L L.age y1 y2 y3 L.seq (sumOf L) y6) := by
  have pa := put_age L hw hr
  have sa := put_seq L hw hr
  refine ⟨(fld (putB L) 3 1 : Nat), (fld (putB L) 4 4 : Nat), (fld (putB L) 8 4 : Nat), (fld (putB L) 18 2 : Nat), ?_, ?_⟩
  · unfold headC sumOf
    rw [pa, sa]
  · unfold oneV sumOf
    rw [pa, sa]
/-- a map, as a region's fact -/
def MapF (r : Nat) (es : Array MapEntry) (clk : Nat) : Fact := fun S w => S r ∧ w.heap[r]? = some (.map es clk)
theorem good_map (r : Nat) (es : Array MapEntry) (clk : Nat) : Good (MapF r es clk) := fun S S' w w' h1 h2 ⟨h3, h4⟩ => ⟨h1 r h3, (h2 r h3).trans h4⟩
theorem kept_setBlock (w : World) (r : Nat) (o : Obj) : Kept (fun b => b = r) w (Go.ChangeMaps.setBlock w r o) :=
  ⟨rfl, rfl, rfl, by simp [Go.ChangeMaps.setBlock], fun b hb hn => by simp only [Go.ChangeMaps.setBlock]; rw [Array.getElem?_setIfInBounds_ne (fun e => hn e.symm)]⟩
theorem setBlock_at {w : World} {r : Nat} {o o' : Obj} (h : w.heap[r]? = some o) : (Go.ChangeMaps.setBlock w r o').heap[r]? = some o' := by
  have hlt := (Array.getElem?_eq_some_iff.1 h).1
  simp [Go.ChangeMaps.setBlock, hlt]
theorem mapLen {w : World} {r clk : Nat} {es : Array MapEntry} (hb : w.heap[r]? = some (.map es clk)) (hs : es.size ≤ 1000) (ty : TypeId) : (Builtin.len_ #[147] ty #[.map (some r)]).run Try.prog w = .ok (.int .i64 es.size) w := by
  simp [Builtin.len_, run_underlying Try.underlying147, MapKept.run_getObj_map hb, goInt, IntKind.wrap_i64]
  try omega
theorem lsa_nil {w : World} {L : Lsa} (h1 : L.links = []) (h2 : L.routers = []) : IsLsa w L none 0 0 none 0 0 := ⟨by rw [h1]; exact sl_nil w 4, by rw [h2]; exact sl_nil w 1⟩
set_option maxRecDepth 100000 in
set_option maxHeartbeats 1600000 in
theorem blk_one {w : World} {g : Nat} {T : TypeId} {a0 a1 a2 a3 a4 a5 a6 a7 a8 a9 aa ab ac ad ae af : Value} (h : w.heap[g]? = some (.cells #[a0, a1, a2, a3, a4, a5, a6, a7, a8, a9, aa, ab, ac, ad, ae, af] T (0, 0))) (b0 b1 b2 b3 b4 b5 b6 b7 b8 b9 ba bb bc bd be bf : Value) :
    ((((((((((((((((w.setCell ⟨g, 0, none⟩ b0).setCell ⟨g, 1, none⟩ b1).setCell ⟨g, 2, none⟩ b2).setCell ⟨g, 3, none⟩ b3).setCell ⟨g, 4, none⟩ b4).setCell ⟨g, 5, none⟩ b5).setCell ⟨g, 6, none⟩ b6).setCell ⟨g, 7, none⟩ b7).setCell ⟨g, 8, none⟩ b8).setCell ⟨g, 9, none⟩ b9).setCell ⟨g, 10, none⟩ ba).setCell ⟨g, 11, none⟩ bb).setCell ⟨g, 12, none⟩ bc).setCell ⟨g, 13, none⟩ bd).setCell ⟨g, 14, none⟩ be).setCell ⟨g, 15, none⟩ bf).heap[g]? =
      some (.cells #[b0, b1, b2, b3, b4, b5, b6, b7, b8, b9, ba, bb, bc, bd, be, bf] T (0, 0)) := by
  have := blk_set (blk_set (blk_set (blk_set (blk_set (blk_set (blk_set (blk_set (blk_set (blk_set (blk_set (blk_set (blk_set (blk_set (blk_set (blk_set h 0 b0) 1 b1) 2 b2) 3 b3) 4 b4) 5 b5) 6 b6) 7 b7) 8 b8) 9 b9) 10 ba) 11 bb) 12 bc) 13 bd) 14 be) 15 bf
  simp at this
  exact this
theorem DbIs.ne {w : World} {d r clk : Nat} {es : Array MapEntry} (h : DbIs w d r es clk) : d ≠ r := by
  intro e
  have h1 := h.cell
  rw [e, h.map] at h1
  injection h1 with h1
  cases h1
set_option maxRecDepth 100000 in
set_option maxHeartbeats 3200000 in
theorem put_new (L : Lsa) (d r clk : Nat) (w : World) (h : DbIs w d r #[] clk) (hwf : WfL L) (hr : L.right = true) (hl1 : L.links = []) (hl2 : L.routers = []) :
    Calls Try.prog 55 #[.pointer (some ⟨d, 0, none⟩), .agg (lsaC L none 0 0 none 0 0)] w fun e w' => e = .returned (.tuple #[.bool true, .int .i64 0]) ∧
      DbIs w' d r #[⟨keyV L.kty L.kid L.kadv, oneV L, clk⟩] (clk + 1) ∧ Kept (fun b => b = r) w w' := by
  have hdr := h.ne
  have hdl := (Array.getElem?_eq_some_iff.1 h.cell).1
  have hrl := (Array.getElem?_eq_some_iff.1 h.map).1
  have hbb := (Below.refl w.heap.size w).alloc (Nat.le_refl _) (.cells (lsaC L none 0 0 none 0 0) 80)
  have hL := heap_alloc_new w (.cells (lsaC L none 0 0 none 0 0) 80)
  obtain ⟨y1, y2, y3, y6, e1, e2⟩ := hdr_of L hwf hr
  have E1 := hid e1
  have E2 := hid e2
  have HR := hid hr
  clear e1 e2 hr
  go_enter Try.func55, Try.ntmps55
  go_wp2_with fail
  refine (header_yes L none 0 0 none 0 0 _ (lsa_nil hl1 hl2) hwf HR.out).mono ?_
  rintro e w1 ⟨rfl, hb1⟩
  rw [E1.out]
  have hbw := hbb.trans (hb1.mono (by simp))
  replace hL := blk_alloc (blk_below hL hb1 (by simp)) (.cells (hdrCells L.age y1 y2 y3 L.seq (sumOf L) y6) 87)
  have hH := heap_alloc_new w1 (.cells (hdrCells L.age y1 y2 y3 L.seq (sumOf L) y6) 87)
  replace hbw := hbw.alloc hbw.size (.cells (hdrCells L.age y1 y2 y3 L.seq (sumOf L) y6) 87)
  have hs1 : w.heap.size < w1.heap.size := by have := hb1.size; simp at this; omega
  clear hb1 hbb
  go_wp2_with fail
  change Code.wp _ _ _ _ (w1.alloc (.cells (hdrCells L.age y1 y2 y3 L.seq (sumOf L) y6) 87))
  generalize w1.alloc (.cells (hdrCells L.age y1 y2 y3 L.seq (sumOf L) y6) 87) = w2 at *
  have hgH : w.heap.size < w1.heap.size := hs1
  generalize w1.heap.size = gH at *
  have hD := h.below hbw
  have hd2 := (Array.getElem?_eq_some_iff.1 hD.cell).1
  have hr2 := (Array.getElem?_eq_some_iff.1 hD.map).1
  have hl2' := (Array.getElem?_eq_some_iff.1 hL).1
  have zd := fun (z : WK (fun _ => False) w2) => (wat_cell (p := ⟨d, 0, none⟩) hd2 (by simp) z).trans ((blk_cells hD.cell).1 0)
  have zl := fun (z : WK (fun _ => False) w2) i => (wat_cell (p := ⟨w.heap.size, i, none⟩) hl2' (by simp) z).trans ((blk_cells hL).1 i)
  have zm := fun (z : WK (fun _ => False) w2) => (fun hb => dlook0 hb L.kty L.kid L.kadv) (((wat_kept z).block r hr2 (by simp)).trans hD.map)
  simp at zd
  refine wp_region_loud (fun _ => False)
    [(10, newL 152 #[.int .i64 0, .int .i64 0, .int .u32 0, .int .u32 0, .int .i64 0, .slice none 0 0, .int .u32 0, .slice none 0 0, .int .i64 0, .int .i64 0, .int .i64 0, .int .u32 0, .int .u32 0, .int .i64 0, .int .u16 0, .int .i64 0]),
     (11, argL [10] (fun _ _ => True) (fun xs _ S w' => ∃ g, xs = [.pointer (some ⟨g, 0, none⟩), .agg #[.int .i64 0, .int .i64 0, .int .u32 0, .int .u32 0, .int .i64 0, .slice none 0 0, .int .u32 0, .slice none 0 0, .int .i64 0, .int .i64 0, .int .i64 0, .int .u32 0, .int .u32 0, .int .i64 0, .int .u16 0, .int .i64 0]] ∧ BlkF g 152 #[.int .i64 0, .int .i64 0, .int .u32 0, .int .u32 0, .int .i64 0, .slice none 0 0, .int .u32 0, .slice none 0 0, .int .i64 0, .int .i64 0, .int .i64 0, .int .u32 0, .int .u32 0, .int .i64 0, .int .u16 0, .int .i64 0] S w'))]
    (fun _ => Fact.none) (by kernel_rfl) (by kernel_rfl)
    (.cons (newL_ok _ _) (.cons (argL_ok (fun _ => ⟨undef, trivial⟩) (fun xs _ S S' w w' h1 h2 ⟨g, h0, h3⟩ => ⟨g, h0, good_blk _ _ _ S S' w w' h1 h2 h3⟩)) .nil)) good_nothing sat_none (WX.out ?_)
  repeat (first | (refine wx_quietU (by rfl) (by rfl) (by rfl) (fun K hK => ?_); go_big_quiet_op; refine hK _ ?_; clear hK K) | (refine wx_quietG (by rfl) (by rfl) (by rfl) (by rfl) (by rfl) (fun K hK => ?_); go_big_quiet_op; refine hK _ ?_; clear hK K) | (refine wx_skipG (by rfl) (by rfl) (by rfl) (fun K hK => ?_); go_simp; refine hK _ ?_; clear hK K) | (refine wx_skipN (by rfl) (by rfl) (by rfl) (fun K hK => ?_); go_simp; refine hK _ ?_; clear hK K))
  refine wx_loudU (us := []) (by rfl) (by rfl) (fun S wS hC hS hU => ?_) (fun v hv K hK => ?_)
  · exact runs_value (by go_simp <;> rfl) (newB_x rfl)
  obtain ⟨g1, rfl⟩ := hv; (go_simp; refine hK _ ?_; clear hK K)
  repeat (first | (refine wx_quietU (by rfl) (by rfl) (by rfl) (fun K hK => ?_); go_big_quiet_op; refine hK _ ?_; clear hK K) | (refine wx_quietG (by rfl) (by rfl) (by rfl) (by rfl) (by rfl) (fun K hK => ?_); go_big_quiet_op; refine hK _ ?_; clear hK K) | (refine wx_skipG (by rfl) (by rfl) (by rfl) (fun K hK => ?_); go_simp; refine hK _ ?_; clear hK K) | (refine wx_skipN (by rfl) (by rfl) (by rfl) (fun K hK => ?_); go_simp; refine hK _ ?_; clear hK K))
  refine wx_loudU (us := [10]) (by rfl) (by rfl) (fun S wS hC hS hU => ?_) (fun v hv K hK => ?_)
  · obtain ⟨g', e1, k23, k24⟩ := (hU 10 (by simp) : NewB 152 #[.int .i64 0, .int .i64 0, .int .u32 0, .int .u32 0, .int .i64 0, .slice none 0 0, .int .u32 0, .slice none 0 0, .int .i64 0, .int .i64 0, .int .i64 0, .int .u32 0, .int .u32 0, .int .i64 0, .int .u16 0, .int .i64 0] (.pointer (some ⟨g1, 0, none⟩)) S wS)
    injection e1 with e1
    injection e1 with e1
    injection e1 with e1
    subst e1
    obtain ⟨hc, hf⟩ := blk_cells k24
    have hc0 := hc 0; have hc1 := hc 1; have hc2 := hc 2; have hc3 := hc 3; have hc4 := hc 4; have hc5 := hc 5; have hc6 := hc 6; have hc7 := hc 7; have hc8 := hc 8
    have hc9 := hc 9; have hca := hc 10; have hcb := hc 11; have hcc := hc 12; have hcd := hc 13; have hce := hc 14; have hcf := hc 15
    simp at hc0 hc1 hc2 hc3 hc4 hc5 hc6 hc7 hc8 hc9 hca hcb hcc hcd hce hcf
    clear hc
    have h9 := blk_one k24 (.int .i64 0) (.int .i64 0) (.int .u32 0) (.int .u32 0) (.int .i64 0) (.slice none 0 0) (.int .u32 0) (.slice none 0 0) (.int .i64 0) (.int .i64 0) (.int .i64 0) (.int .u32 0) (.int .u32 0) (.int .i64 0) (.int .u16 0) (.int .i64 0)
    refine runs_skip (by go_simp <;> rfl) ⟨trivial, ?_, g1, rfl, .inl k23, h9⟩
    repeat (first | with_reducible exact Kept.refl _ _ | (with_reducible refine Kept.setCell ?_ ?_ _; rotate_left; · exact Or.inl k23))
  (go_simp; refine hK _ ?_; clear hK K)
  repeat (first | (refine wx_quietU (by rfl) (by rfl) (by rfl) (fun K hK => ?_); go_big_quiet_op; refine hK _ ?_; clear hK K) | (refine wx_quietG (by rfl) (by rfl) (by rfl) (by rfl) (by rfl) (fun K hK => ?_); go_big_quiet_op; refine hK _ ?_; clear hK K) | (refine wx_skipG (by rfl) (by rfl) (by rfl) (fun K hK => ?_); go_simp; refine hK _ ?_; clear hK K) | (refine wx_skipN (by rfl) (by rfl) (by rfl) (fun K hK => ?_); go_simp; refine hK _ ?_; clear hK K))
  refine wx_nil fun w3 hsat => ?_
  have hb3 := sat_below hsat
  obtain ⟨_, own, hdis, hin, hfact⟩ := hsat
  obtain ⟨x1, e4, k4⟩ := (hfact 11 : ∃ g, [Value.pointer (some ⟨g1, 0, none⟩), .agg #[.int .i64 0, .int .i64 0, .int .u32 0, .int .u32 0, .int .i64 0, .slice none 0 0, .int .u32 0, .slice none 0 0, .int .i64 0, .int .i64 0, .int .i64 0, .int .u32 0, .int .u32 0, .int .i64 0, .int .u16 0, .int .i64 0]] = [.pointer (some ⟨g, 0, none⟩), .agg #[.int .i64 0, .int .i64 0, .int .u32 0, .int .u32 0, .int .i64 0, .slice none 0 0, .int .u32 0, .slice none 0 0, .int .i64 0, .int .i64 0, .int .i64 0, .int .u32 0, .int .u32 0, .int .i64 0, .int .u16 0, .int .i64 0]] ∧ BlkF g 152 #[.int .i64 0, .int .i64 0, .int .u32 0, .int .u32 0, .int .i64 0, .slice none 0 0, .int .u32 0, .slice none 0 0, .int .i64 0, .int .i64 0, .int .i64 0, .int .u32 0, .int .u32 0, .int .i64 0, .int .u16 0, .int .i64 0] (own 11) w3)
  obtain rfl : x1 = g1 := by
    injection e4 with e1 _
    injection e1 with e1
    injection e1 with e1
    injection e1 with e1
    exact e1.symm
  clear e4
  have hX := k4.2
  clear hdis hin hfact k4 zd zl zm
  replace hbw := hbw.trans (hb3.mono hbw.size)
  replace hL := blk_below hL hb3 (Array.getElem?_eq_some_iff.1 hL).1
  replace hH := blk_below hH hb3 (Array.getElem?_eq_some_iff.1 hH).1
  have hD3 := hD.below hb3
  clear hD hb3 hd2 hr2 hl2'
  have hlen := mapLen hD3.map (by simp) 3
  have hcd0 := (blk_cells hD3.cell).1 0
  simp at hcd0 hlen
  go_wp2_with fail
  clear hlen hcd0
  have hL3 := (Array.getElem?_eq_some_iff.1 hL).1
  have hH3 := (Array.getElem?_eq_some_iff.1 hH).1
  have hd3 := (Array.getElem?_eq_some_iff.1 hD3.cell).1
  have hr3 := (Array.getElem?_eq_some_iff.1 hD3.map).1
  have zd := fun (z : WK (fun b => b = r) w3) => (wat_cell (p := ⟨d, 0, none⟩) hd3 (fun e => hdr e) z).trans ((blk_cells hD3.cell).1 0)
  have zl := fun (z : WK (fun b => b = r) w3) i => (wat_cell (p := ⟨w.heap.size, i, none⟩) hL3 (fun e => by have : w.heap.size = r := e; omega) z).trans ((blk_cells hL).1 i)
  have zh := fun (z : WK (fun b => b = r) w3) i => (wat_cell (p := ⟨gH, i, none⟩) hH3 (fun e => by have : gH = r := e; omega) z).trans ((blk_cells hH).1 i)
  simp at zd
  refine wp_region_loud (fun b => b = r)
    [(7, plainL [] (.agg (lsaC L none 0 0 none 0 0))), (10, keepL [100] (MapF r #[⟨keyV L.kty L.kid L.kadv, oneV L, clk⟩] (clk + 1)))]
    (labelled 100 (MapF r #[] clk)) (by kernel_rfl) (by kernel_rfl)
    (.cons (plainL_ok _ _) (.cons (keepL_ok _ (good_map _ _ _)) .nil)) (good_one 100 (good_map _ _ _)) (sat_one 100 _ (fun g hg => by rw [hg]; exact hr3) ⟨rfl, hD3.map⟩) (WX.out ?_)
  repeat (first | (refine wx_quietU (by rfl) (by rfl) (by rfl) (fun K hK => ?_); go_big_quiet_op; refine hK _ ?_; clear hK K) | (refine wx_quietG (by rfl) (by rfl) (by rfl) (by rfl) (by rfl) (fun K hK => ?_); go_big_quiet_op; refine hK _ ?_; clear hK K) | (refine wx_skipG (by rfl) (by rfl) (by rfl) (fun K hK => ?_); go_simp; refine hK _ ?_; clear hK K) | (refine wx_skipN (by rfl) (by rfl) (by rfl) (fun K hK => ?_); go_simp; refine hK _ ?_; clear hK K))
  refine wx_loudU (us := []) (by rfl) (by rfl) (fun S wS hC hS hU => runs_enter (f := 84) (by go_simp <;> rfl) ?_) (fun v hv K hK => ?_)
  · refine (copied_nil L wS).mono ?_
    rintro e w' ⟨rfl, hb⟩
    exact ⟨_, rfl, rfl, Kept.of_below hb, trivial⟩
  obtain rfl := hv; (go_simp; refine hK _ ?_; clear hK K)
  repeat (first | (refine wx_quietU (by rfl) (by rfl) (by rfl) (fun K hK => ?_); go_big_quiet_op; refine hK _ ?_; clear hK K) | (refine wx_quietG (by rfl) (by rfl) (by rfl) (by rfl) (by rfl) (fun K hK => ?_); go_big_quiet_op; refine hK _ ?_; clear hK K) | (refine wx_skipG (by rfl) (by rfl) (by rfl) (fun K hK => ?_); go_simp; refine hK _ ?_; clear hK K) | (refine wx_skipN (by rfl) (by rfl) (by rfl) (fun K hK => ?_); go_simp; refine hK _ ?_; clear hK K))
  refine wx_loudU (us := [100]) (by rfl) (by rfl) (fun S wS hC hS hU => ?_) (fun v hv K hK => ?_)
  · have k100 : MapF r #[] clk S wS := hU 100 (by simp)
    have hup := dupd0 k100.2 L.kty L.kid L.kadv (oneV L)
    rw [E2.out] at hup
    refine runs_skip (by go_simp <;> rfl) ⟨trivial, ?_, .inl k100.1, ?_⟩
    · exact (kept_setBlock wS r _).wider (fun b hb => by rw [hb]; exact k100.1)
    · have hg := setBlock_at (o' := .map #[⟨keyV L.kty L.kid L.kadv, oneV L, clk⟩] (clk + 1)) k100.2
      rw [E2.out] at hg
      show _ = some (Obj.map #[⟨keyV L.kty L.kid L.kadv, oneV L, clk⟩] (clk + 1))
      rw [E2.out]
      exact hg
  (go_simp; refine hK _ ?_; clear hK K)
  repeat (first | (refine wx_quietU (by rfl) (by rfl) (by rfl) (fun K hK => ?_); go_big_quiet_op; refine hK _ ?_; clear hK K) | (refine wx_quietG (by rfl) (by rfl) (by rfl) (by rfl) (by rfl) (fun K hK => ?_); go_big_quiet_op; refine hK _ ?_; clear hK K) | (refine wx_skipG (by rfl) (by rfl) (by rfl) (fun K hK => ?_); go_simp; refine hK _ ?_; clear hK K) | (refine wx_skipN (by rfl) (by rfl) (by rfl) (fun K hK => ?_); go_simp; refine hK _ ?_; clear hK K))
  refine wx_nil fun w4 hsat => ?_
  have hk4 := hsat.1
  have hm4 := sat_get hsat 10
  obtain ⟨S4, _, hm5⟩ := hm4
  have hm6 : MapF r #[⟨keyV L.kty L.kid L.kadv, oneV L, clk⟩] (clk + 1) S4 w4 := hm5
  have hd4 := blk_kept hD3.cell hk4 (fun e => hdr e)
  have hkk : Kept (fun b => b = r) w w4 := (Kept.of_below hbw).then (S' := fun b => b = r) hk4 (fun b _ hb => hb)
  clear hsat zd zl zh
  go_wp2_with fail
  refine bodyPost_ret (v := .tuple #[.bool true, .int .i64 0]) (by simp [results, Try.results55, go_sem]) rfl ?_
  exact ⟨rfl, ⟨hd4, hm6.2⟩, hkk⟩
set_option maxRecDepth 100000 in
set_option maxHeartbeats 3200000 in
theorem put_more (L L0 : Lsa) (d r n clk : Nat) (w : World) (h : DbIs w d r #[⟨keyV L.kty L.kid L.kadv, oneV L0, n⟩] clk) (hwf : WfL L) (hr : L.right = true) (hl1 : L.links = []) (hl2 : L.routers = []) (hwf0 : WfL L0) (hr0 : L0.right = true) (hnew : newer L L0 = true) :
    Calls Try.prog 55 #[.pointer (some ⟨d, 0, none⟩), .agg (lsaC L none 0 0 none 0 0)] w fun e w' => e = .returned (.tuple #[.bool true, .int .i64 0]) ∧
      DbIs w' d r #[⟨keyV L.kty L.kid L.kadv, oneV L, n⟩] clk ∧ Kept (fun b => b = r) w w' := by
  have HNEW := hid hnew
  clear hnew
  obtain ⟨u1, u2, u3, u6, f1, f2⟩ := hdr_of L0 hwf0 hr0
  have F2 := hid f2
  clear f1 f2 hr0
  have hdr := h.ne
  have hdl := (Array.getElem?_eq_some_iff.1 h.cell).1
  have hrl := (Array.getElem?_eq_some_iff.1 h.map).1
  have hbb := (Below.refl w.heap.size w).alloc (Nat.le_refl _) (.cells (lsaC L none 0 0 none 0 0) 80)
  have hL := heap_alloc_new w (.cells (lsaC L none 0 0 none 0 0) 80)
  obtain ⟨y1, y2, y3, y6, e1, e2⟩ := hdr_of L hwf hr
  have E1 := hid e1
  have E2 := hid e2
  have HR := hid hr
  clear e1 e2 hr
  go_enter Try.func55, Try.ntmps55
  go_wp2_with fail
  refine (header_yes L none 0 0 none 0 0 _ (lsa_nil hl1 hl2) hwf HR.out).mono ?_
  rintro e w1 ⟨rfl, hb1⟩
  rw [E1.out]
  have hbw := hbb.trans (hb1.mono (by simp))
  replace hL := blk_alloc (blk_below hL hb1 (by simp)) (.cells (hdrCells L.age y1 y2 y3 L.seq (sumOf L) y6) 87)
  have hH := heap_alloc_new w1 (.cells (hdrCells L.age y1 y2 y3 L.seq (sumOf L) y6) 87)
  replace hbw := hbw.alloc hbw.size (.cells (hdrCells L.age y1 y2 y3 L.seq (sumOf L) y6) 87)
  have hs1 : w.heap.size < w1.heap.size := by have := hb1.size; simp at this; omega
  clear hb1 hbb
  go_wp2_with fail
  change Code.wp _ _ _ _ (w1.alloc (.cells (hdrCells L.age y1 y2 y3 L.seq (sumOf L) y6) 87))
  generalize w1.alloc (.cells (hdrCells L.age y1 y2 y3 L.seq (sumOf L) y6) 87) = w2 at *
  have hgH : w.heap.size < w1.heap.size := hs1
  generalize w1.heap.size = gH at *
  have hD := h.below hbw
  have hd2 := (Array.getElem?_eq_some_iff.1 hD.cell).1
  have hr2 := (Array.getElem?_eq_some_iff.1 hD.map).1
  have hl2' := (Array.getElem?_eq_some_iff.1 hL).1
  have zd := fun (z : WK (fun _ => False) w2) => (wat_cell (p := ⟨d, 0, none⟩) hd2 (by simp) z).trans ((blk_cells hD.cell).1 0)
  have zl := fun (z : WK (fun _ => False) w2) i => (wat_cell (p := ⟨w.heap.size, i, none⟩) hl2' (by simp) z).trans ((blk_cells hL).1 i)
  have zm := fun (z : WK (fun _ => False) w2) => (fun hb => (dlook1 (a := L.kty) (b := (L.kid : Int)) (c := (L.kadv : Int)) hb).trans (by rw [F2.out])) (((wat_kept z).block r hr2 (by simp)).trans hD.map)
  simp at zd
  refine wp_region_loud (fun _ => False)
    [(10, newL 152 #[.int .i64 0, .int .i64 0, .int .u32 0, .int .u32 0, .int .i64 0, .slice none 0 0, .int .u32 0, .slice none 0 0, .int .i64 0, .int .i64 0, .int .i64 0, .int .u32 0, .int .u32 0, .int .i64 0, .int .u16 0, .int .i64 0]),
     (11, argL [10] (fun _ _ => True) (fun xs _ S w' => ∃ g, xs = [.pointer (some ⟨g, 0, none⟩), .agg (oneC L0 L0.age u1 u2 u3 L0.seq (sumOf L0) u6)] ∧ BlkF g 152 (oneC L0 L0.age u1 u2 u3 L0.seq (sumOf L0) u6) S w'))]
    (fun _ => Fact.none) (by kernel_rfl) (by kernel_rfl)
    (.cons (newL_ok _ _) (.cons (argL_ok (fun _ => ⟨undef, trivial⟩) (fun xs _ S S' w w' h1 h2 ⟨g, h0, h3⟩ => ⟨g, h0, good_blk _ _ _ S S' w w' h1 h2 h3⟩)) .nil)) good_nothing sat_none (WX.out ?_)
  repeat (first | (refine wx_quietU (by rfl) (by rfl) (by rfl) (fun K hK => ?_); go_big_quiet_op; refine hK _ ?_; clear hK K) | (refine wx_quietG (by rfl) (by rfl) (by rfl) (by rfl) (by rfl) (fun K hK => ?_); go_big_quiet_op; refine hK _ ?_; clear hK K) | (refine wx_skipG (by rfl) (by rfl) (by rfl) (fun K hK => ?_); go_simp; refine hK _ ?_; clear hK K) | (refine wx_skipN (by rfl) (by rfl) (by rfl) (fun K hK => ?_); go_simp; refine hK _ ?_; clear hK K))
  refine wx_loudU (us := []) (by rfl) (by rfl) (fun S wS hC hS hU => ?_) (fun v hv K hK => ?_)
  · exact runs_value (by go_simp <;> rfl) (newB_x rfl)
  obtain ⟨g1, rfl⟩ := hv; (go_simp; refine hK _ ?_; clear hK K)
  repeat (first | (refine wx_quietU (by rfl) (by rfl) (by rfl) (fun K hK => ?_); go_big_quiet_op; refine hK _ ?_; clear hK K) | (refine wx_quietG (by rfl) (by rfl) (by rfl) (by rfl) (by rfl) (fun K hK => ?_); go_big_quiet_op; refine hK _ ?_; clear hK K) | (refine wx_skipG (by rfl) (by rfl) (by rfl) (fun K hK => ?_); go_simp; refine hK _ ?_; clear hK K) | (refine wx_skipN (by rfl) (by rfl) (by rfl) (fun K hK => ?_); go_simp; refine hK _ ?_; clear hK K))
  refine wx_loudU (us := [10]) (by rfl) (by rfl) (fun S wS hC hS hU => ?_) (fun v hv K hK => ?_)
  · obtain ⟨g', e1, k23, k24⟩ := (hU 10 (by simp) : NewB 152 #[.int .i64 0, .int .i64 0, .int .u32 0, .int .u32 0, .int .i64 0, .slice none 0 0, .int .u32 0, .slice none 0 0, .int .i64 0, .int .i64 0, .int .i64 0, .int .u32 0, .int .u32 0, .int .i64 0, .int .u16 0, .int .i64 0] (.pointer (some ⟨g1, 0, none⟩)) S wS)
    injection e1 with e1
    injection e1 with e1
    injection e1 with e1
    subst e1
    obtain ⟨hc, hf⟩ := blk_cells k24
    have hc0 := hc 0; have hc1 := hc 1; have hc2 := hc 2; have hc3 := hc 3; have hc4 := hc 4; have hc5 := hc 5; have hc6 := hc 6; have hc7 := hc 7; have hc8 := hc 8
    have hc9 := hc 9; have hca := hc 10; have hcb := hc 11; have hcc := hc 12; have hcd := hc 13; have hce := hc 14; have hcf := hc 15
    simp at hc0 hc1 hc2 hc3 hc4 hc5 hc6 hc7 hc8 hc9 hca hcb hcc hcd hce hcf
    clear hc
    have h9 := blk_one k24 (.int .i64 L0.age) (.int .i64 L0.kty) (.int .u32 (L0.kid : Int)) (.int .u32 (L0.kadv : Int)) (.int .i64 L0.seq) (.slice none 0 0) (.int .u32 (L0.mask : Int)) (.slice none 0 0) (.int .i64 L0.cost) (.int .i64 L0.age) (.int .i64 u1) (.int .u32 u2) (.int .u32 u3) (.int .i64 L0.seq) (.int .u16 (sumOf L0)) (.int .i64 u6)
    refine runs_skip (by go_simp <;> rfl) ⟨trivial, ?_, g1, rfl, .inl k23, h9⟩
    repeat (first | with_reducible exact Kept.refl _ _ | (with_reducible refine Kept.setCell ?_ ?_ _; rotate_left; · exact Or.inl k23))
  (go_simp; refine hK _ ?_; clear hK K)
  repeat (first | (refine wx_quietU (by rfl) (by rfl) (by rfl) (fun K hK => ?_); go_big_quiet_op; refine hK _ ?_; clear hK K) | (refine wx_quietG (by rfl) (by rfl) (by rfl) (by rfl) (by rfl) (fun K hK => ?_); go_big_quiet_op; refine hK _ ?_; clear hK K) | (refine wx_skipG (by rfl) (by rfl) (by rfl) (fun K hK => ?_); go_simp; refine hK _ ?_; clear hK K) | (refine wx_skipN (by rfl) (by rfl) (by rfl) (fun K hK => ?_); go_simp; refine hK _ ?_; clear hK K))
  refine wx_nil fun w3 hsat => ?_
  have hb3 := sat_below hsat
  obtain ⟨_, own, hdis, hin, hfact⟩ := hsat
  obtain ⟨x1, e4, k4⟩ := (hfact 11 : ∃ g, [Value.pointer (some ⟨g1, 0, none⟩), .agg (oneC L0 L0.age u1 u2 u3 L0.seq (sumOf L0) u6)] = [.pointer (some ⟨g, 0, none⟩), .agg (oneC L0 L0.age u1 u2 u3 L0.seq (sumOf L0) u6)] ∧ BlkF g 152 (oneC L0 L0.age u1 u2 u3 L0.seq (sumOf L0) u6) (own 11) w3)
  obtain rfl : x1 = g1 := by
    injection e4 with e1 _
    injection e1 with e1
    injection e1 with e1
    injection e1 with e1
    exact e1.symm
  clear e4
  have hX := k4.2
  clear hdis hin hfact k4 zd zl zm
  replace hbw := hbw.trans (hb3.mono hbw.size)
  replace hL := blk_below hL hb3 (Array.getElem?_eq_some_iff.1 hL).1
  replace hH := blk_below hH hb3 (Array.getElem?_eq_some_iff.1 hH).1
  have hD3 := hD.below hb3
  clear hD hb3 hd2 hr2 hl2'
  obtain ⟨hcX, _⟩ := blk_cells hX
  obtain ⟨hcH, _⟩ := blk_cells hH
  go_wp2_with fail
  refine (lsaCompare_any _ _ _ _ _ _ _ _ _ _ _ _ _ _ _).mono ?_
  rintro e w4 ⟨rfl, hb4⟩
  replace hbw := hbw.trans (hb4.mono hbw.size)
  replace hL := blk_below hL hb4 (Array.getElem?_eq_some_iff.1 hL).1
  replace hH := blk_below hH hb4 (Array.getElem?_eq_some_iff.1 hH).1
  replace hD3 := hD3.below hb4
  clear hcX hcH hX hb4
  obtain ⟨w3, rfl⟩ : ∃ w3 : World, w3 = w4 := ⟨_, rfl⟩
  have hn : cmpH L.age L.seq (sumOf L) L0.age L0.seq (sumOf L0) = 1 := by have := HNEW.out; unfold newer at this; rw [decide_eq_true_iff] at this; exact this
  rw [hn]
  have hq : ((1 : Int) != 1) = false := rfl
  have hcd0 := (blk_cells hD3.cell).1 0
  simp at hcd0
  clear hn
  go_wp2_with fail
  clear hcd0
  have hL3 := (Array.getElem?_eq_some_iff.1 hL).1
  have hH3 := (Array.getElem?_eq_some_iff.1 hH).1
  have hd3 := (Array.getElem?_eq_some_iff.1 hD3.cell).1
  have hr3 := (Array.getElem?_eq_some_iff.1 hD3.map).1
  have zd := fun (z : WK (fun b => b = r) w3) => (wat_cell (p := ⟨d, 0, none⟩) hd3 (fun e => hdr e) z).trans ((blk_cells hD3.cell).1 0)
  have zl := fun (z : WK (fun b => b = r) w3) i => (wat_cell (p := ⟨w.heap.size, i, none⟩) hL3 (fun e => by have : w.heap.size = r := e; omega) z).trans ((blk_cells hL).1 i)
  have zh := fun (z : WK (fun b => b = r) w3) i => (wat_cell (p := ⟨gH, i, none⟩) hH3 (fun e => by have : gH = r := e; omega) z).trans ((blk_cells hH).1 i)
  simp at zd
  refine wp_region_loud (fun b => b = r)
    [(7, plainL [] (.agg (lsaC L none 0 0 none 0 0))), (10, keepL [100] (MapF r #[⟨keyV L.kty L.kid L.kadv, oneV L, n⟩] clk))]
    (labelled 100 (MapF r #[⟨keyV L.kty L.kid L.kadv, oneV L0, n⟩] clk)) (by kernel_rfl) (by kernel_rfl)
    (.cons (plainL_ok _ _) (.cons (keepL_ok _ (good_map _ _ _)) .nil)) (good_one 100 (good_map _ _ _)) (sat_one 100 _ (fun g hg => by rw [hg]; exact hr3) ⟨rfl, hD3.map⟩) (WX.out ?_)
  repeat (first | (refine wx_quietU (by rfl) (by rfl) (by rfl) (fun K hK => ?_); go_big_quiet_op; refine hK _ ?_; clear hK K) | (refine wx_quietG (by rfl) (by rfl) (by rfl) (by rfl) (by rfl) (fun K hK => ?_); go_big_quiet_op; refine hK _ ?_; clear hK K) | (refine wx_skipG (by rfl) (by rfl) (by rfl) (fun K hK => ?_); go_simp; refine hK _ ?_; clear hK K) | (refine wx_skipN (by rfl) (by rfl) (by rfl) (fun K hK => ?_); go_simp; refine hK _ ?_; clear hK K))
  refine wx_loudU (us := []) (by rfl) (by rfl) (fun S wS hC hS hU => runs_enter (f := 84) (by go_simp <;> rfl) ?_) (fun v hv K hK => ?_)
  · refine (copied_nil L wS).mono ?_
    rintro e w' ⟨rfl, hb⟩
    exact ⟨_, rfl, rfl, Kept.of_below hb, trivial⟩
  obtain rfl := hv; (go_simp; refine hK _ ?_; clear hK K)
  repeat (first | (refine wx_quietU (by rfl) (by rfl) (by rfl) (fun K hK => ?_); go_big_quiet_op; refine hK _ ?_; clear hK K) | (refine wx_quietG (by rfl) (by rfl) (by rfl) (by rfl) (by rfl) (fun K hK => ?_); go_big_quiet_op; refine hK _ ?_; clear hK K) | (refine wx_skipG (by rfl) (by rfl) (by rfl) (fun K hK => ?_); go_simp; refine hK _ ?_; clear hK K) | (refine wx_skipN (by rfl) (by rfl) (by rfl) (fun K hK => ?_); go_simp; refine hK _ ?_; clear hK K))
  refine wx_loudU (us := [100]) (by rfl) (by rfl) (fun S wS hC hS hU => ?_) (fun v hv K hK => ?_)
  · have k100 : MapF r #[⟨keyV L.kty L.kid L.kadv, oneV L0, n⟩] clk S wS := hU 100 (by simp)
    have hup := dupd1 k100.2 (oneV L)
    rw [E2.out] at hup
    refine runs_skip (by go_simp <;> rfl) ⟨trivial, ?_, .inl k100.1, ?_⟩
    · exact (kept_setBlock wS r _).wider (fun b hb => by rw [hb]; exact k100.1)
    · have hg := setBlock_at (o' := .map #[⟨keyV L.kty L.kid L.kadv, oneV L, n⟩] clk) k100.2
      rw [E2.out] at hg
      show _ = some (Obj.map #[⟨keyV L.kty L.kid L.kadv, oneV L, n⟩] clk)
      rw [E2.out]
      exact hg
  (go_simp; refine hK _ ?_; clear hK K)
  repeat (first | (refine wx_quietU (by rfl) (by rfl) (by rfl) (fun K hK => ?_); go_big_quiet_op; refine hK _ ?_; clear hK K) | (refine wx_quietG (by rfl) (by rfl) (by rfl) (by rfl) (by rfl) (fun K hK => ?_); go_big_quiet_op; refine hK _ ?_; clear hK K) | (refine wx_skipG (by rfl) (by rfl) (by rfl) (fun K hK => ?_); go_simp; refine hK _ ?_; clear hK K) | (refine wx_skipN (by rfl) (by rfl) (by rfl) (fun K hK => ?_); go_simp; refine hK _ ?_; clear hK K))
  refine wx_nil fun w4 hsat => ?_
  have hk4 := hsat.1
  have hm4 := sat_get hsat 10
  obtain ⟨S4, _, hm5⟩ := hm4
  have hm6 : MapF r #[⟨keyV L.kty L.kid L.kadv, oneV L, n⟩] clk S4 w4 := hm5
  have hd4 := blk_kept hD3.cell hk4 (fun e => hdr e)
  have hkk : Kept (fun b => b = r) w w4 := (Kept.of_below hbw).then (S' := fun b => b = r) hk4 (fun b _ hb => hb)
  clear hsat zd zl zh
  go_wp2_with fail
  refine bodyPost_ret (v := .tuple #[.bool true, .int .i64 0]) (by simp [results, Try.results55, go_sem]) rfl ?_
  exact ⟨rfl, ⟨hd4, hm6.2⟩, hkk⟩
set_option maxRecDepth 100000 in
set_option maxHeartbeats 3200000 in
theorem put_less (L L0 : Lsa) (d r n clk : Nat) (w : World) (h : DbIs w d r #[⟨keyV L.kty L.kid L.kadv, oneV L0, n⟩] clk) (hwf : WfL L) (hr : L.right = true) (hl1 : L.links = []) (hl2 : L.routers = []) (hwf0 : WfL L0) (hr0 : L0.right = true) (hnew : newer L L0 = false) :
    Calls Try.prog 55 #[.pointer (some ⟨d, 0, none⟩), .agg (lsaC L none 0 0 none 0 0)] w fun e w' => e = .returned (.tuple #[.bool false, .int .i64 0]) ∧
      DbIs w' d r #[⟨keyV L.kty L.kid L.kadv, oneV L0, n⟩] clk ∧ Kept (fun b => b = r) w w' := by
  have HNEW := hid hnew
  clear hnew
  obtain ⟨u1, u2, u3, u6, f1, f2⟩ := hdr_of L0 hwf0 hr0
  have F2 := hid f2
  clear f1 f2 hr0
  have hdr := h.ne
  have hdl := (Array.getElem?_eq_some_iff.1 h.cell).1
  have hrl := (Array.getElem?_eq_some_iff.1 h.map).1
  have hbb := (Below.refl w.heap.size w).alloc (Nat.le_refl _) (.cells (lsaC L none 0 0 none 0 0) 80)
  have hL := heap_alloc_new w (.cells (lsaC L none 0 0 none 0 0) 80)
  obtain ⟨y1, y2, y3, y6, e1, e2⟩ := hdr_of L hwf hr
  have E1 := hid e1
  have E2 := hid e2
  have HR := hid hr
  clear e1 e2 hr
  go_enter Try.func55, Try.ntmps55
  go_wp2_with fail
  refine (header_yes L none 0 0 none 0 0 _ (lsa_nil hl1 hl2) hwf HR.out).mono ?_
  rintro e w1 ⟨rfl, hb1⟩
  rw [E1.out]
  have hbw := hbb.trans (hb1.mono (by simp))
  replace hL := blk_alloc (blk_below hL hb1 (by simp)) (.cells (hdrCells L.age y1 y2 y3 L.seq (sumOf L) y6) 87)
  have hH := heap_alloc_new w1 (.cells (hdrCells L.age y1 y2 y3 L.seq (sumOf L) y6) 87)
  replace hbw := hbw.alloc hbw.size (.cells (hdrCells L.age y1 y2 y3 L.seq (sumOf L) y6) 87)
  have hs1 : w.heap.size < w1.heap.size := by have := hb1.size; simp at this; omega
  clear hb1 hbb
  go_wp2_with fail
  change Code.wp _ _ _ _ (w1.alloc (.cells (hdrCells L.age y1 y2 y3 L.seq (sumOf L) y6) 87))
  generalize w1.alloc (.cells (hdrCells L.age y1 y2 y3 L.seq (sumOf L) y6) 87) = w2 at *
  have hgH : w.heap.size < w1.heap.size := hs1
  generalize w1.heap.size = gH at *
  have hD := h.below hbw
  have hd2 := (Array.getElem?_eq_some_iff.1 hD.cell).1
  have hr2 := (Array.getElem?_eq_some_iff.1 hD.map).1
  have hl2' := (Array.getElem?_eq_some_iff.1 hL).1
  have zd := fun (z : WK (fun _ => False) w2) => (wat_cell (p := ⟨d, 0, none⟩) hd2 (by simp) z).trans ((blk_cells hD.cell).1 0)
  have zl := fun (z : WK (fun _ => False) w2) i => (wat_cell (p := ⟨w.heap.size, i, none⟩) hl2' (by simp) z).trans ((blk_cells hL).1 i)
  have zm := fun (z : WK (fun _ => False) w2) => (fun hb => (dlook1 (a := L.kty) (b := (L.kid : Int)) (c := (L.kadv : Int)) hb).trans (by rw [F2.out])) (((wat_kept z).block r hr2 (by simp)).trans hD.map)
  simp at zd
  refine wp_region_loud (fun _ => False)
    [(10, newL 152 #[.int .i64 0, .int .i64 0, .int .u32 0, .int .u32 0, .int .i64 0, .slice none 0 0, .int .u32 0, .slice none 0 0, .int .i64 0, .int .i64 0, .int .i64 0, .int .u32 0, .int .u32 0, .int .i64 0, .int .u16 0, .int .i64 0]),
     (11, argL [10] (fun _ _ => True) (fun xs _ S w' => ∃ g, xs = [.pointer (some ⟨g, 0, none⟩), .agg (oneC L0 L0.age u1 u2 u3 L0.seq (sumOf L0) u6)] ∧ BlkF g 152 (oneC L0 L0.age u1 u2 u3 L0.seq (sumOf L0) u6) S w'))]
    (fun _ => Fact.none) (by kernel_rfl) (by kernel_rfl)
    (.cons (newL_ok _ _) (.cons (argL_ok (fun _ => ⟨undef, trivial⟩) (fun xs _ S S' w w' h1 h2 ⟨g, h0, h3⟩ => ⟨g, h0, good_blk _ _ _ S S' w w' h1 h2 h3⟩)) .nil)) good_nothing sat_none (WX.out ?_)
  repeat (first | (refine wx_quietU (by rfl) (by rfl) (by rfl) (fun K hK => ?_); go_big_quiet_op; refine hK _ ?_; clear hK K) | (refine wx_quietG (by rfl) (by rfl) (by rfl) (by rfl) (by rfl) (fun K hK => ?_); go_big_quiet_op; refine hK _ ?_; clear hK K) | (refine wx_skipG (by rfl) (by rfl) (by rfl) (fun K hK => ?_); go_simp; refine hK _ ?_; clear hK K) | (refine wx_skipN (by rfl) (by rfl) (by rfl) (fun K hK => ?_); go_simp; refine hK _ ?_; clear hK K))
  refine wx_loudU (us := []) (by rfl) (by rfl) (fun S wS hC hS hU => ?_) (fun v hv K hK => ?_)
  · exact runs_value (by go_simp <;> rfl) (newB_x rfl)
  obtain ⟨g1, rfl⟩ := hv; (go_simp; refine hK _ ?_; clear hK K)
  repeat (first | (refine wx_quietU (by rfl) (by rfl) (by rfl) (fun K hK => ?_); go_big_quiet_op; refine hK _ ?_; clear hK K) | (refine wx_quietG (by rfl) (by rfl) (by rfl) (by rfl) (by rfl) (fun K hK => ?_); go_big_quiet_op; refine hK _ ?_; clear hK K) | (refine wx_skipG (by rfl) (by rfl) (by rfl) (fun K hK => ?_); go_simp; refine hK _ ?_; clear hK K) | (refine wx_skipN (by rfl) (by rfl) (by rfl) (fun K hK => ?_); go_simp; refine hK _ ?_; clear hK K))
  refine wx_loudU (us := [10]) (by rfl) (by rfl) (fun S wS hC hS hU => ?_) (fun v hv K hK => ?_)
  · obtain ⟨g', e1, k23, k24⟩ := (hU 10 (by simp) : NewB 152 #[.int .i64 0, .int .i64 0, .int .u32 0, .int .u32 0, .int .i64 0, .slice none 0 0, .int .u32 0, .slice none 0 0, .int .i64 0, .int .i64 0, .int .i64 0, .int .u32 0, .int .u32 0, .int .i64 0, .int .u16 0, .int .i64 0] (.pointer (some ⟨g1, 0, none⟩)) S wS)
    injection e1 with e1
    injection e1 with e1
    injection e1 with e1
    subst e1
    obtain ⟨hc, hf⟩ := blk_cells k24
    have hc0 := hc 0; have hc1 := hc 1; have hc2 := hc 2; have hc3 := hc 3; have hc4 := hc 4; have hc5 := hc 5; have hc6 := hc 6; have hc7 := hc 7; have hc8 := hc 8
    have hc9 := hc 9; have hca := hc 10; have hcb := hc 11; have hcc := hc 12; have hcd := hc 13; have hce := hc 14; have hcf := hc 15
    simp at hc0 hc1 hc2 hc3 hc4 hc5 hc6 hc7 hc8 hc9 hca hcb hcc hcd hce hcf
    clear hc
    have h9 := blk_one k24 (.int .i64 L0.age) (.int .i64 L0.kty) (.int .u32 (L0.kid : Int)) (.int .u32 (L0.kadv : Int)) (.int .i64 L0.seq) (.slice none 0 0) (.int .u32 (L0.mask : Int)) (.slice none 0 0) (.int .i64 L0.cost) (.int .i64 L0.age) (.int .i64 u1) (.int .u32 u2) (.int .u32 u3) (.int .i64 L0.seq) (.int .u16 (sumOf L0)) (.int .i64 u6)
    refine runs_skip (by go_simp <;> rfl) ⟨trivial, ?_, g1, rfl, .inl k23, h9⟩
    repeat (first | with_reducible exact Kept.refl _ _ | (with_reducible refine Kept.setCell ?_ ?_ _; rotate_left; · exact Or.inl k23))
  (go_simp; refine hK _ ?_; clear hK K)
  repeat (first | (refine wx_quietU (by rfl) (by rfl) (by rfl) (fun K hK => ?_); go_big_quiet_op; refine hK _ ?_; clear hK K) | (refine wx_quietG (by rfl) (by rfl) (by rfl) (by rfl) (by rfl) (fun K hK => ?_); go_big_quiet_op; refine hK _ ?_; clear hK K) | (refine wx_skipG (by rfl) (by rfl) (by rfl) (fun K hK => ?_); go_simp; refine hK _ ?_; clear hK K) | (refine wx_skipN (by rfl) (by rfl) (by rfl) (fun K hK => ?_); go_simp; refine hK _ ?_; clear hK K))
  refine wx_nil fun w3 hsat => ?_
  have hb3 := sat_below hsat
  obtain ⟨_, own, hdis, hin, hfact⟩ := hsat
  obtain ⟨x1, e4, k4⟩ := (hfact 11 : ∃ g, [Value.pointer (some ⟨g1, 0, none⟩), .agg (oneC L0 L0.age u1 u2 u3 L0.seq (sumOf L0) u6)] = [.pointer (some ⟨g, 0, none⟩), .agg (oneC L0 L0.age u1 u2 u3 L0.seq (sumOf L0) u6)] ∧ BlkF g 152 (oneC L0 L0.age u1 u2 u3 L0.seq (sumOf L0) u6) (own 11) w3)
  obtain rfl : x1 = g1 := by
    injection e4 with e1 _
    injection e1 with e1
    injection e1 with e1
    injection e1 with e1
    exact e1.symm
  clear e4
  have hX := k4.2
  clear hdis hin hfact k4 zd zl zm
  replace hbw := hbw.trans (hb3.mono hbw.size)
  replace hL := blk_below hL hb3 (Array.getElem?_eq_some_iff.1 hL).1
  replace hH := blk_below hH hb3 (Array.getElem?_eq_some_iff.1 hH).1
  have hD3 := hD.below hb3
  clear hD hb3 hd2 hr2 hl2'
  obtain ⟨hcX, _⟩ := blk_cells hX
  obtain ⟨hcH, _⟩ := blk_cells hH
  go_wp2_with fail
  refine (lsaCompare_any _ _ _ _ _ _ _ _ _ _ _ _ _ _ _).mono ?_
  rintro e w4 ⟨rfl, hb4⟩
  replace hbw := hbw.trans (hb4.mono hbw.size)
  replace hL := blk_below hL hb4 (Array.getElem?_eq_some_iff.1 hL).1
  replace hH := blk_below hH hb4 (Array.getElem?_eq_some_iff.1 hH).1
  replace hD3 := hD3.below hb4
  clear hcX hcH hX hb4
  obtain ⟨w3, rfl⟩ : ∃ w3 : World, w3 = w4 := ⟨_, rfl⟩
  have hn : cmpH L.age L.seq (sumOf L) L0.age L0.seq (sumOf L0) ≠ 1 := by have := HNEW.out; unfold newer at this; rw [decide_eq_false_iff_not] at this; exact this
  have hq : (cmpH L.age L.seq (sumOf L) L0.age L0.seq (sumOf L0) != 1) = true := by simpa using hn
  clear hn
  go_wp2_with fail
  refine bodyPost_ret (v := .tuple #[.bool false, .int .i64 0]) (by simp [results, Try.results55, go_sem]) rfl ⟨rfl, hD3, Kept.of_below hbw⟩
end Go.Proofs.Ytaajhkdifliblaa
