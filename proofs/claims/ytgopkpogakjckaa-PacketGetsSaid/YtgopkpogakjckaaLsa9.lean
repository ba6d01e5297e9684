/-
  Contract of the reference's Put.
-/
import Derived.Test.YtgopkpogakjckaaLsa7
import Derived.Test.YtgopkpogakjckaaLsa3
import Derived.Test.YtgopkpogakjckaaLsaP
import Derived.Test.YtgopkpogakjckaaRegB
namespace Go.Proofs.Ytgopkpogakjckaa
set_option linter.unusedVariables false
set_option linter.unusedSimpArgs false
open Go.RowKit SM LM

theorem row_nil (S : Nat → Prop) : ∀ b, (fun _ : Nat => False) b → S b := fun _ h => h.elim

set_option maxRecDepth 100000 in
set_option maxHeartbeats 1600000 in
theorem refPut3 (L : Lsa) (A1 : Option Addr) (n1 c1 : Nat) (A2 : Option Addr) (n2 c2 : Nat) (w : World) (h : IsLsa w L A1 n1 c1 A2 n2 c2) (hwf : WfL L) (hr : L.right = true) (hk : L.kty = 3) :
    Calls Try.prog 43 #[.agg (lsaC L A1 n1 c1 A2 n2 c2)] w fun e w' => ∃ A c n, e = .returned (.tuple #[.slice A n c, .bool true]) ∧
      w'.ownsRow w.heap.size 5 1 (.slice A n c) n (B8 (putB L)) ∧ Below w.heap.size w w' := by
  have t1 : (L.kty == 1) = false := by rw [hk]; rfl
  have t2 : (L.kty == 2) = false := by rw [hk]; rfl
  have t3 : (L.kty == 3) = true := by rw [hk]; rfl
  have HT : Hid (tellB L = be 4 L.mask ++ be 4 (w64 L.cost).toNat) := by show _ = _; simp [tellB, hk]
  have HR := hid hr
  have HK := hid hk
  have hmask := hwf.mask
  have ec := w64_bd L.cost
  have ec' : IntKind.u64.wrap L.cost = w64 L.cost := rfl
  have em : IntKind.u64.wrap (L.mask : Int) = (L.mask : Int) := IntWalk.u64_in _ (by omega)
  clear hr hk
  go_enter Try.func43, Try.ntmps43
  have hb0 : ∀ o, Below w.heap.size w (w.alloc o) := fun o => (Below.refl _ _).alloc (Nat.le_refl _) o
  have HB0 := hid hb0
  clear hb0
  go_wp2_with fail
  refine (refRight_l L A1 n1 c1 A2 n2 c2 _ (h.links.below (HB0.out _)) (h.routers.below (HB0.out _))).mono ?_
  rintro e w1 ⟨rfl, hb1⟩
  rw [HR.out]
  have hbk1 : ∀ i, w1.cell? ⟨w.heap.size, i, none⟩ = _ := fun i => hb1.cell (p := ⟨w.heap.size, i, none⟩) (by simp)
  have hbb1 := (HB0.out _).trans (hb1.mono (by simp))
  have hs1 := hb1.size
  simp at hs1
  have hbkA : ∀ (o : Obj) i, (w1.alloc o).cell? ⟨w.heap.size, i, none⟩ = _ := fun o i => (World.cell?_alloc_lt w1 o ⟨w.heap.size, i, none⟩ (by simp; omega)).trans (hbk1 i)
  go_wp2_with fail
  have hl4 : ∀ x : WK (fun _ => False) w1, (wat x).cell? ⟨w.heap.size, 6, none⟩ = some (.int .u32 (L.mask : Int)) := fun x => by
    rw [wat_cell (by simp; omega) (by simp)]; exact (hbk1 6).trans (by simp)
  have hl5 : ∀ x : WK (fun _ => False) w1, (wat x).cell? ⟨w.heap.size, 8, none⟩ = some (.int .i64 L.cost) := fun x => by
    rw [wat_cell (by simp; omega) (by simp)]; exact (hbk1 8).trans (by simp)
  refine wp_region_loud (fun _ => False)
    [(3, rowL [] w1.heap.size 5 1 4 (B8 (be 4 L.mask))), (7, rowL [] w1.heap.size 5 1 4 (B8 (be 4 (w64 L.cost).toNat))), (8, rowN [3, 7] w1.heap.size 5 1 (B8 (be 4 L.mask ++ be 4 (w64 L.cost).toNat)))]
    (fun _ => Fact.none) (by kernel_rfl) (by kernel_rfl) (.cons (rowL_ok _ _ _ _ _ _) (.cons (rowL_ok _ _ _ _ _ _) (.cons (rowN_ok _ _ _ _ _) .nil))) good_nothing sat_none ?_
  repeat (refine wpX_quiet (by rfl) (by rfl) (by rfl) (fun K hK => ?_); go_big_quiet_op; refine hK _ ?_; clear hK K)
  refine wpX_loud (us := []) (by rfl) (by rfl) (fun S wS hC hS hU => runs_enter (f := 80) (by go_simp <;> rfl) ?_) (fun v hv K hK => ?_)
  · exact num_x 4 _ _ hC.size (by omega) (by omega) (by omega)
  obtain ⟨A3, c3, rfl⟩ := hv; (go_simp; refine hK _ ?_; clear hK K)
  repeat (refine wpX_quiet (by rfl) (by rfl) (by rfl) (fun K hK => ?_); go_big_quiet_op; refine hK _ ?_; clear hK K)
  refine wpX_loud (us := []) (by rfl) (by rfl) (fun S wS hC hS hU => runs_enter (f := 80) (by go_simp <;> rfl) ?_) (fun v hv K hK => ?_)
  · exact num_x 4 _ _ hC.size (by omega) (by omega) (by omega)
  obtain ⟨A4, c4, rfl⟩ := hv; (go_simp; refine hK _ ?_; clear hK K)
  repeat (refine wpX_quiet (by rfl) (by rfl) (by rfl) (fun K hK => ?_); go_big_quiet_op; refine hK _ ?_; clear hK K)
  refine wpX_loud (us := [3, 7]) (by rfl) (by rfl) (fun S wS hC hS hU => ?_) (fun v hv K hK => ?_)
  · exact runs_mono (app_x (.tmp 87) (.tmp 91) (by rfl) (by rfl) (by rfl) (hU 3 (by simp)) (own_sl (hU 7 (by simp)).2) (by omega) hC.size) fun _ _ => leavesN
  obtain ⟨A5, n, c5, rfl⟩ := hv; (go_simp; refine hK _ ?_; clear hK K)
  repeat (refine wpX_quiet (by rfl) (by rfl) (by rfl) (fun K hK => ?_); go_big_quiet_op; refine hK _ ?_; clear hK K)
  refine wpX_nil fun w2 hsat => ?_
  have hown2 := sat_rowN hsat 8 (by rfl)
  have hb2 := sat_below hsat
  clear hsat hl4 hl5
  have hbk2 : ∀ i, w2.cell? ⟨w.heap.size, i, none⟩ = _ := fun i => (hb2.cell (p := ⟨w.heap.size, i, none⟩) (by simp; omega)).trans (hbk1 i)
  clear hbk1 hbkA
  have hbb2 := hbb1.trans (hb2.mono hbb1.size)
  rw [← HT.out] at hown2
  replace hown2 := own_base (base' := w.heap.size) hown2 (by omega)
  have hn := (own_sl hown2).len.1
  have HN := hid hn
  have hlen := tellB_length L HR.out
  rw [hn] at hlen
  clear hn
  go_wp2_with fail
  refine (refPutHeader_any L.age L.kty L.kid L.kadv L.seq 0 (20 + n) _ ⟨by omega, by have := hwf.kid; omega⟩ ⟨by omega, by have := hwf.kadv; omega⟩ (by omega)).mono ?_
  rintro e w3 ⟨A3, c3, rfl, hown3, hb3⟩
  have hbb3 := hbb2.trans (hb3.mono hbb2.size)
  have hown23 := own_sl (own_below hown2 hb3)
  have hS := hbb3.size
  clear hbk2
  go_wp2_with (at_builtin; refine wpList_app rfl (.tmp 104) (.tmp 105) st_bytes rfl w2.heap.size rfl hown3 rfl hown23 (B8_one _) (by simp [maxLen]; omega) (by omega) hb3.size ?_)
  intro A4 c4 w4 hown4 hg4 hf4
  rw [← B8_append] at hown4
  have hb4 : Below w2.heap.size w3 w4 := grown_below hown3 hg4 hb3.size
  have hbb4 := hbb3.trans (hb4.mono hbb2.size)
  obtain ⟨g, rfl, hgl, hgs⟩ := own_some hown4 (by omega)
  have hraw : Hid (rawB L = hdrB L.age L.kty L.kid L.kadv L.seq 0 (20 + n) ++ tellB L) := by
    show _ = _
    unfold rawB
    rw [HN.out]
    rfl
  rw [← hraw.out] at hown4
  have hrl : Hid ((rawB L).length = 20 + n) := by
    show _ = _
    rw [rawB_length, HN.out]
  have hdrop := sl_drop (own_sl hown4) 2 (by omega)
  have hc4 : 20 + n ≤ c4 := (own_sl hown4).len.2.1
  rw [if_neg (by omega)] at hdrop
  simp only [Option.map_some, addr_add] at hdrop
  go_wp2_with fail
  refine (refFletcher_yes _ _ _ 14 ((rawB L).drop 2) _ (by exact hdrop) (by omega) (by omega)).mono ?_
  rintro e w5 ⟨rfl, rfl⟩
  have hown5 := hown4
  have hbb5 := hbb4
  have bX := fX_bd ((rawB L).drop 2) 14
  have bY := fY_bd ((rawB L).drop 2) 14
  obtain ⟨p0, p1⟩ := own_byte hown5 16 (by omega)
  obtain ⟨p2, p3⟩ := own_byte hown5 17 (by omega)
  have hown6 := ((hown5.stored 16 (.int .u8 (fX ((rawB L).drop 2) 14))).1.stored 17 (.int .u8 (fY ((rawB L).drop 2) 14))).1
  rw [← ofNat_toNat_of _ bX, ← ofNat_toNat_of _ bY, B8_set, B8_set] at hown6
  have hput : Hid (putB L = ((rawB L).set 16 (UInt8.ofNat (fX ((rawB L).drop 2) 14).toNat)).set 17 (UInt8.ofNat (fY ((rawB L).drop 2) 14).toNat)) := rfl
  rw [← hput.out, ofNat_toNat_of _ bX, ofNat_toNat_of _ bY] at hown6
  have hwl : w.heap.size ≤ g := by have := hbb2.size; omega
  have hbb6 := (hbb5.setCell (p := ⟨g, 16, none⟩) hwl (.int .u8 (fX ((rawB L).drop 2) 14))).setCell (p := ⟨g, 17, none⟩) hwl (.int .u8 (fY ((rawB L).drop 2) 14))
  go_wp2_with fail
  go_ret2
  exact ⟨_, c4, _, rfl, own_base hown6 hbb2.size, hbb6⟩

set_option maxRecDepth 100000 in
set_option maxHeartbeats 3200000 in
theorem refPut1 (L : Lsa) (A1 : Option Addr) (n1 c1 : Nat) (A2 : Option Addr) (n2 c2 : Nat) (w : World) (h : IsLsa w L A1 n1 c1 A2 n2 c2) (hwf : WfL L) (hr : L.right = true) (hk : L.kty = 1) :
    Calls Try.prog 43 #[.agg (lsaC L A1 n1 c1 A2 n2 c2)] w fun e w' => ∃ A c n, e = .returned (.tuple #[.slice A n c, .bool true]) ∧
      w'.ownsRow w.heap.size 5 1 (.slice A n c) n (B8 (putB L)) ∧ Below w.heap.size w w' := by
  have t1 : (L.kty == 1) = true := by rw [hk]; rfl
  have hl40 : L.links.length ≤ 40 := by rcases (right_spec L hr).2.2 with h | h | h <;> first | omega | (rw [h.2.1]; simp)
  obtain ⟨hl1, _, hl3⟩ := h.links.lenN
  rw [LK_length] at hl1
  have hn1 : L.links.length = n1 := by omega
  clear hl1
  rw [hn1] at hl40
  have HT : Hid (tellB L = be 2 0 ++ be 2 n1 ++ linksTo L.links n1) := by show _ = _; rw [← hn1]; simp [tellB, hk, linksTo]
  have HN1 := hid hn1
  clear hn1
  have el : IntKind.u64.wrap (n1 : Int) = (n1 : Int) := IntWalk.u64_in _ (by omega)
  have HR := hid hr
  have HK := hid hk
  have hmask := hwf.mask
  have ec := w64_bd L.cost
  have ec' : IntKind.u64.wrap L.cost = w64 L.cost := rfl
  have em : IntKind.u64.wrap (L.mask : Int) = (L.mask : Int) := IntWalk.u64_in _ (by omega)
  clear hr hk
  go_enter Try.func43, Try.ntmps43
  have hb0 : ∀ o, Below w.heap.size w (w.alloc o) := fun o => (Below.refl _ _).alloc (Nat.le_refl _) o
  have HB0 := hid hb0
  clear hb0
  go_wp2_with fail
  refine (refRight_l L A1 n1 c1 A2 n2 c2 _ (h.links.below (HB0.out _)) (h.routers.below (HB0.out _))).mono ?_
  rintro e w1 ⟨rfl, hb1⟩
  rw [HR.out]
  have hbk1 : ∀ i, w1.cell? ⟨w.heap.size, i, none⟩ = _ := fun i => hb1.cell (p := ⟨w.heap.size, i, none⟩) (by simp)
  have hbb1 := (HB0.out _).trans (hb1.mono (by simp))
  have hs1 := hb1.size
  simp at hs1
  have hbkA : ∀ (o : Obj) i, (w1.alloc o).cell? ⟨w.heap.size, i, none⟩ = _ := fun o i => (World.cell?_alloc_lt w1 o ⟨w.heap.size, i, none⟩ (by simp; omega)).trans (hbk1 i)
  go_wp2_with fail
  have hownA := own_made w1 w1.heap.size 5 1 2 #[.int .u8 0, .int .u8 0] (B8 [0, 0]) (Nat.le_refl _) (by rfl) (by rfl) (by omega) (by omega)
  refine (num_any (w1.heap.size + 1) 2 _ _ (by simp) (by omega) (by omega) (by omega)).mono ?_
  rintro e w2 ⟨A3, c3, rfl, hown2, hb2⟩
  replace hownA := own_below hownA hb2
  have hz2 := hb2.size
  simp at hz2
  have hb12 : Below w1.heap.size w1 w2 := ((Below.refl _ _).alloc (Nat.le_refl _) _).trans (hb2.mono (by simp))
  go_wp2_with (at_builtin; refine wpList_app rfl (.tmp 20) (.tmp 25) st_bytes rfl w1.heap.size rfl hownA rfl (own_sl hown2) (B8_one _) (by simp [maxLen]) (by omega) (by omega) ?_)
  intro A4 c4 w4 hown4 hg4 hf4
  have hb4 : Below w1.heap.size w2 w4 := grown_below hownA hg4 (by omega)
  have hb14 := hb12.trans hb4
  rw [← B8_append] at hown4
  have hbb4 := hbb1.trans (hb14.mono hbb1.size)
  have hb0 : B8 ([0, 0] ++ be 2 n1) = B8 (be 2 0 ++ be 2 n1 ++ linksTo L.links 0) := by simp [linksTo, be]
  rw [hb0] at hown4
  clear hb0 hownA hown2 hb2 hb12 hg4 hf4 hb4 hz2
  go_wp2_with fail
  have hW : ∀ wr : World, Below w1.heap.size w1 wr → (∀ i, wr.cell? ⟨w.heap.size, i, none⟩ = _) := fun wr hb i => (hb.cell (p := ⟨w.heap.size, i, none⟩) (by simp; omega)).trans (hbk1 i)
  have HW := hid hW
  clear hW hbk1 hbkA
  go_loopw [4, 5] (fun v i wr => ∃ (k n : Nat) (A : Option Addr) (c : Nat), k ≤ n1 ∧ i = .int .i64 k ∧ v = .slice A n c ∧ Hid (n = 4 + 12 * k) ∧ wr.ownsRow w1.heap.size 5 1 (.slice A n c) n (B8 (be 2 0 ++ be 2 n1 ++ linksTo L.links k)) ∧
      Below w1.heap.size w1 wr) (fun _ i _ => n1 - (intOf i).toNat)
  case atStart => exact ⟨0, 4, A4, c4, Nat.zero_le _, rfl, rfl, rfl, hown4, hb14⟩
  case round =>
    obtain ⟨k, n, A, c, hk, rfl, rfl, HNk, hownr, hbr⟩ := hrel
    clear hown4 hb14 hbb4
    have hsz := hbr.size
    have hbk := HW.out wr hbr
    by_cases hlt : k < n1
    · have hr := (h.links.below hbb1).below (hbr.mono (by omega))
      obtain ⟨b, off, rfl, hbl, q0, q1, q2, q3⟩ := hr.link hlt
      have hlt' : k < L.links.length := by rw [HN1.out]; exact hlt
      have hx : (linkAt L.links k).wf := by
        unfold linkAt
        rw [List.getD_eq_getElem?_getD, List.getElem?_eq_getElem hlt']
        exact hwf.links _ (List.getElem_mem hlt')
      obtain ⟨x1, x2, x3, x4⟩ := hx
      have HS := hid (linksTo_succ L.links k hlt')
      have hn4 : n ≤ 500 := by have := HNk.out; omega
      clear hlt'
      generalize linkAt L.links k = X at *
      have e1 : IntKind.u64.wrap (X.id : Int) = (X.id : Int) := IntWalk.u64_in _ (by omega)
      have e2 : IntKind.u64.wrap (X.data : Int) = (X.data : Int) := IntWalk.u64_in _ (by omega)
      have e3 : IntKind.u64.wrap X.cost = w64 X.cost := rfl
      have e4 := w64_bd X.cost
      generalize hP : be 2 0 ++ be 2 n1 ++ linksTo L.links k = P at *
      have HP := hid hP
      clear hP
      go_wp2_with fail
      have hS0 : ¬ Value.ownBlock (.slice A n c) = some wr.heap.size := fun hh => by have := ownF_lt hownr _ hh; omega
      have hcx : ∀ j, (wr.alloc (.cells #[.int .u32 X.id, .int .u32 X.data, .int .i64 X.ty, .int .i64 X.cost] 134)).cell? ⟨wr.heap.size, j, none⟩ = (#[.int .u32 X.id, .int .u32 X.data, .int .i64 X.ty, .int .i64 X.cost] : Array Value)[j]? := (blk_cells (heap_alloc_new wr _)).1
      replace hownr := hownr.alloc (.cells #[.int .u32 X.id, .int .u32 X.data, .int .i64 X.ty, .int .i64 X.cost] 134)
      replace hbr := hbr.alloc hsz (.cells #[.int .u32 X.id, .int .u32 X.data, .int .i64 X.ty, .int .i64 X.cost] 134)
      have hz0 : (wr.alloc (.cells #[.int .u32 X.id, .int .u32 X.data, .int .i64 X.ty, .int .i64 X.cost] 134)).heap.size = wr.heap.size + 1 := by simp
      generalize wr.alloc (.cells #[.int .u32 X.id, .int .u32 X.data, .int .i64 X.ty, .int .i64 X.cost] 134) = w0 at *
      have hx : ∀ (x : WK (fun b => Value.ownBlock (.slice A n c) = some b) w0) j, (wat x).cell? ⟨wr.heap.size, j, none⟩ = (#[.int .u32 X.id, .int .u32 X.data, .int .i64 X.ty, .int .i64 X.cost] : Array Value)[j]? := fun x j =>
        (wat_cell (p := ⟨wr.heap.size, j, none⟩) (by simp; omega) hS0 x).trans (hcx j)
      have hx0 := fun x => hx x 0
      have hx1 := fun x => hx x 1
      have hx2 := fun x => hx x 2
      have hx3 := fun x => hx x 3
      simp at hx0 hx1 hx2 hx3
      clear hx hcx hbk q0 q1 q2 q3 hr
      have hB0 : w1.heap.size ≤ w0.heap.size := by omega
      refine wp_region_loud (fun b => Value.ownBlock (.slice A n c) = some b)
        [(4, rowL [] w1.heap.size 5 1 4 (B8 (be 4 X.id))), (5, rowL [100, 4] w1.heap.size 5 1 (n + 4) (B8 (P ++ be 4 X.id))),
         (9, rowL [] w1.heap.size 5 1 4 (B8 (be 4 X.data))), (10, rowL [5, 9] w1.heap.size 5 1 (n + 4 + 4) (B8 (P ++ be 4 X.id ++ be 4 X.data))),
         (14, rowL [] w1.heap.size 5 1 2 (B8 [UInt8.ofNat (X.ty % 256).toNat, 0])), (15, rowL [10, 14] w1.heap.size 5 1 (n + 4 + 4 + 2) (B8 (P ++ be 4 X.id ++ be 4 X.data ++ [UInt8.ofNat (X.ty % 256).toNat, 0]))),
         (19, rowL [] w1.heap.size 5 1 2 (B8 (be 2 (w64 X.cost).toNat))), (20, rowL [15, 19] w1.heap.size 5 1 (n + 4 + 4 + 2 + 2) (B8 (P ++ be 4 X.id ++ be 4 X.data ++ [UInt8.ofNat (X.ty % 256).toNat, 0] ++ be 2 (w64 X.cost).toNat)))]
        (labelled 100 (OwnF w1.heap.size 5 1 n (B8 P) (.slice A n c))) (by kernel_rfl) (by kernel_rfl)
        (.cons (rowL_ok _ _ _ _ _ _) (.cons (rowL_ok _ _ _ _ _ _) (.cons (rowL_ok _ _ _ _ _ _) (.cons (rowL_ok _ _ _ _ _ _) (.cons (rowL_ok _ _ _ _ _ _) (.cons (rowL_ok _ _ _ _ _ _) (.cons (rowL_ok _ _ _ _ _ _) (.cons (rowL_ok _ _ _ _ _ _) .nil)))))))) (good_one 100 (good_own _ _ _ _ _ _)) (sat_one 100 _ (ownF_lt hownr) (ownF_in hownr)) ?_
      repeat (refine wpX_quiet (by rfl) (by rfl) (by rfl) (fun K hK => ?_); go_big_quiet_op; refine hK _ ?_; clear hK K)
      refine wpX_loud (us := []) (by rfl) (by rfl) (fun S wS hC hS hU => runs_enter (f := 80) (by go_simp <;> rfl) ?_) (fun v hv K hK => ?_)
      · exact num_x 4 _ _ (Nat.le_trans hB0 hC.size) (by omega) (by omega) (by omega)
      obtain ⟨A5, c5, rfl⟩ := hv; (go_simp; refine hK _ ?_; clear hK K)
      repeat (refine wpX_quiet (by rfl) (by rfl) (by rfl) (fun K hK => ?_); go_big_quiet_op; refine hK _ ?_; clear hK K)
      refine wpX_loud (us := [100, 4]) (by rfl) (by rfl) (fun S wS hC hS hU => ?_) (fun v hv K hK => ?_)
      · exact app_x (.tmp 39) (.tmp 43) (by rfl) (by rfl) (by rfl) (hU 100 (by simp)) (own_sl (hU 4 (by simp)).2) (by omega) (Nat.le_trans hB0 hC.size)
      obtain ⟨A6, c6, rfl⟩ := hv; (go_simp; refine hK _ ?_; clear hK K)
      repeat (refine wpX_quiet (by rfl) (by rfl) (by rfl) (fun K hK => ?_); go_big_quiet_op; refine hK _ ?_; clear hK K)
      refine wpX_loud (us := []) (by rfl) (by rfl) (fun S wS hC hS hU => runs_enter (f := 80) (by go_simp <;> rfl) ?_) (fun v hv K hK => ?_)
      · exact num_x 4 _ _ (Nat.le_trans hB0 hC.size) (by omega) (by omega) (by omega)
      obtain ⟨A7, c7, rfl⟩ := hv; (go_simp; refine hK _ ?_; clear hK K)
      repeat (refine wpX_quiet (by rfl) (by rfl) (by rfl) (fun K hK => ?_); go_big_quiet_op; refine hK _ ?_; clear hK K)
      refine wpX_loud (us := [5, 9]) (by rfl) (by rfl) (fun S wS hC hS hU => ?_) (fun v hv K hK => ?_)
      · exact app_x (.tmp 44) (.tmp 48) (by rfl) (by rfl) (by rfl) (hU 5 (by simp)) (own_sl (hU 9 (by simp)).2) (by omega) (Nat.le_trans hB0 hC.size)
      obtain ⟨A8, c8, rfl⟩ := hv; (go_simp; refine hK _ ?_; clear hK K)
      repeat (refine wpX_quiet (by rfl) (by rfl) (by rfl) (fun K hK => ?_); go_big_quiet_op; refine hK _ ?_; clear hK K)
      refine wpX_loud (us := []) (by rfl) (by rfl) (fun S wS hC hS hU => ?_) (fun v hv K hK => ?_)
      · refine runs_value (by go_simp <;> rfl) (made_x rfl (Nat.le_trans hB0 hC.size) ?_ (by simp [B8]) (by omega) (by omega))
        simp [B8, IntKind.wrap_u8]; omega
      obtain ⟨A9, c9, rfl⟩ := hv; (go_simp; refine hK _ ?_; clear hK K)
      repeat (refine wpX_quiet (by rfl) (by rfl) (by rfl) (fun K hK => ?_); go_big_quiet_op; refine hK _ ?_; clear hK K)
      refine wpX_loud (us := [10, 14]) (by rfl) (by rfl) (fun S wS hC hS hU => ?_) (fun v hv K hK => ?_)
      · exact app_x (.tmp 49) (.tmp 53) (by rfl) (by rfl) (by rfl) (hU 10 (by simp)) (own_sl (hU 14 (by simp)).2) (by omega) (Nat.le_trans hB0 hC.size)
      obtain ⟨A10, c10, rfl⟩ := hv; (go_simp; refine hK _ ?_; clear hK K)
      repeat (refine wpX_quiet (by rfl) (by rfl) (by rfl) (fun K hK => ?_); go_big_quiet_op; refine hK _ ?_; clear hK K)
      refine wpX_loud (us := []) (by rfl) (by rfl) (fun S wS hC hS hU => runs_enter (f := 80) (by go_simp <;> rfl) ?_) (fun v hv K hK => ?_)
      · exact num_x 2 _ _ (Nat.le_trans hB0 hC.size) (by omega) (by omega) (by omega)
      obtain ⟨A11, c11, rfl⟩ := hv; (go_simp; refine hK _ ?_; clear hK K)
      repeat (refine wpX_quiet (by rfl) (by rfl) (by rfl) (fun K hK => ?_); go_big_quiet_op; refine hK _ ?_; clear hK K)
      refine wpX_loud (us := [15, 19]) (by rfl) (by rfl) (fun S wS hC hS hU => ?_) (fun v hv K hK => ?_)
      · exact app_x (.tmp 54) (.tmp 58) (by rfl) (by rfl) (by rfl) (hU 15 (by simp)) (own_sl (hU 19 (by simp)).2) (by omega) (Nat.le_trans hB0 hC.size)
      obtain ⟨A12, c12, rfl⟩ := hv; (go_simp; refine hK _ ?_; clear hK K)
      repeat (refine wpX_quiet (by rfl) (by rfl) (by rfl) (fun K hK => ?_); go_big_quiet_op; refine hK _ ?_; clear hK K)
      refine wpX_nil fun w2 hsat => ?_
      have hown2 := sat_row hsat 20 (by rfl)
      have hb2 := hsat.1.below_of hB0 (ownF_ge hownr)
      have hbr2 := hbr.trans hb2
      clear hsat hx0 hx1 hx2 hx3 hownr hbr hb2
      go_wp2_with fail
      go_light
      refine ⟨⟨k + 1, _, A12, c12, by omega, by go_num, rfl, by show _ = _; have := HNk.out; omega, ?_, hbr2⟩, by simp [intOf]; omega⟩
      rw [HS.out, ← List.append_assoc, HP.out]
      simpa [linkB, List.append_assoc] using hown2
    · obtain rfl : k = n1 := by omega
      have hown2 := own_base (base' := w.heap.size) hownr (by omega)
      rw [← HT.out] at hown2
      have hbb2 := hbb1.trans (hbr.mono (by omega))
      have hbk2 := hbk
      clear hbr hownr
      obtain ⟨w2, rfl⟩ : ∃ w2 : World, w2 = wr := ⟨_, rfl⟩
      have hn := (own_sl hown2).len.1
      have HN := hid hn
      have hlen := tellB_length L HR.out
      rw [hn] at hlen
      clear hn
      go_wp2_with fail
      refine (refPutHeader_any L.age L.kty L.kid L.kadv L.seq 0 (20 + n) _ ⟨by omega, by have := hwf.kid; omega⟩ ⟨by omega, by have := hwf.kadv; omega⟩ (by omega)).mono ?_
      rintro e w3 ⟨A3, c3, rfl, hown3, hb3⟩
      have hbb3 := hbb2.trans (hb3.mono hbb2.size)
      have hown23 := own_sl (own_below hown2 hb3)
      have hS := hbb3.size
      clear hbk2
      go_wp2_with (at_builtin; refine wpList_app rfl (.tmp 104) (.tmp 105) st_bytes rfl w2.heap.size rfl hown3 rfl hown23 (B8_one _) (by simp [maxLen]; omega) (by omega) hb3.size ?_)
      intro A4 c4 w4 hown4 hg4 hf4
      rw [← B8_append] at hown4
      have hb4 : Below w2.heap.size w3 w4 := grown_below hown3 hg4 hb3.size
      have hbb4 := hbb3.trans (hb4.mono hbb2.size)
      obtain ⟨g, rfl, hgl, hgs⟩ := own_some hown4 (by omega)
      have hraw : Hid (rawB L = hdrB L.age L.kty L.kid L.kadv L.seq 0 (20 + n) ++ tellB L) := by
        show _ = _
        unfold rawB
        rw [HN.out]
        rfl
      rw [← hraw.out] at hown4
      have hrl : Hid ((rawB L).length = 20 + n) := by
        show _ = _
        rw [rawB_length, HN.out]
      have hdrop := sl_drop (own_sl hown4) 2 (by omega)
      have hc4 : 20 + n ≤ c4 := (own_sl hown4).len.2.1
      rw [if_neg (by omega)] at hdrop
      simp only [Option.map_some, addr_add] at hdrop
      go_wp2_with fail
      refine (refFletcher_yes _ _ _ 14 ((rawB L).drop 2) _ (by exact hdrop) (by omega) (by omega)).mono ?_
      rintro e w5 ⟨rfl, rfl⟩
      have hown5 := hown4
      have hbb5 := hbb4
      have bX := fX_bd ((rawB L).drop 2) 14
      have bY := fY_bd ((rawB L).drop 2) 14
      obtain ⟨p0, p1⟩ := own_byte hown5 16 (by omega)
      obtain ⟨p2, p3⟩ := own_byte hown5 17 (by omega)
      have hown6 := ((hown5.stored 16 (.int .u8 (fX ((rawB L).drop 2) 14))).1.stored 17 (.int .u8 (fY ((rawB L).drop 2) 14))).1
      rw [← ofNat_toNat_of _ bX, ← ofNat_toNat_of _ bY, B8_set, B8_set] at hown6
      have hput : Hid (putB L = ((rawB L).set 16 (UInt8.ofNat (fX ((rawB L).drop 2) 14).toNat)).set 17 (UInt8.ofNat (fY ((rawB L).drop 2) 14).toNat)) := rfl
      rw [← hput.out, ofNat_toNat_of _ bX, ofNat_toNat_of _ bY] at hown6
      have hwl : w.heap.size ≤ g := by have := hbb2.size; omega
      have hbb6 := (hbb5.setCell (p := ⟨g, 16, none⟩) hwl (.int .u8 (fX ((rawB L).drop 2) 14))).setCell (p := ⟨g, 17, none⟩) hwl (.int .u8 (fY ((rawB L).drop 2) 14))
      go_wp2_with fail
      go_ret2
      exact ⟨_, c4, _, rfl, own_base hown6 hbb2.size, hbb6⟩

set_option maxRecDepth 100000 in
set_option maxHeartbeats 3200000 in
theorem refPut2 (L : Lsa) (A1 : Option Addr) (n1 c1 : Nat) (A2 : Option Addr) (n2 c2 : Nat) (w : World) (h : IsLsa w L A1 n1 c1 A2 n2 c2) (hwf : WfL L) (hr : L.right = true) (hk : L.kty = 2) :
    Calls Try.prog 43 #[.agg (lsaC L A1 n1 c1 A2 n2 c2)] w fun e w' => ∃ A c n, e = .returned (.tuple #[.slice A n c, .bool true]) ∧
      w'.ownsRow w.heap.size 5 1 (.slice A n c) n (B8 (putB L)) ∧ Below w.heap.size w w' := by
  have t1 : (L.kty == 1) = false := by rw [hk]; rfl
  have t2 : (L.kty == 2) = true := by rw [hk]; rfl
  have hl40 : L.routers.length ≤ 40 := by rcases (right_spec L hr).2.2 with h | h | h <;> first | omega | (rw [h.2.2.2.2.1]; simp) | (rw [h.2.2.1]; simp)
  obtain ⟨hl1, _, hl3⟩ := h.routers.lenN
  rw [U32_length] at hl1
  have hn1 : L.routers.length = n2 := by omega
  clear hl1
  rw [hn1] at hl40
  have HT : Hid (tellB L = be 4 L.mask ++ routersTo L.routers n2) := by show _ = _; rw [← hn1]; simp [tellB, hk, routersTo]
  have HN1 := hid hn1
  clear hn1
  have HR := hid hr
  have HK := hid hk
  have hmask := hwf.mask
  have ec := w64_bd L.cost
  have ec' : IntKind.u64.wrap L.cost = w64 L.cost := rfl
  have em : IntKind.u64.wrap (L.mask : Int) = (L.mask : Int) := IntWalk.u64_in _ (by omega)
  clear hr hk
  go_enter Try.func43, Try.ntmps43
  have hb0 : ∀ o, Below w.heap.size w (w.alloc o) := fun o => (Below.refl _ _).alloc (Nat.le_refl _) o
  have HB0 := hid hb0
  clear hb0
  go_wp2_with fail
  refine (refRight_l L A1 n1 c1 A2 n2 c2 _ (h.links.below (HB0.out _)) (h.routers.below (HB0.out _))).mono ?_
  rintro e w1 ⟨rfl, hb1⟩
  rw [HR.out]
  have hbk1 : ∀ i, w1.cell? ⟨w.heap.size, i, none⟩ = _ := fun i => hb1.cell (p := ⟨w.heap.size, i, none⟩) (by simp)
  have hbb1 := (HB0.out _).trans (hb1.mono (by simp))
  have hs1 := hb1.size
  simp at hs1
  have hbkA : ∀ (o : Obj) i, (w1.alloc o).cell? ⟨w.heap.size, i, none⟩ = _ := fun o i => (World.cell?_alloc_lt w1 o ⟨w.heap.size, i, none⟩ (by simp; omega)).trans (hbk1 i)
  go_wp2_with fail
  refine (num_any w1.heap.size 4 _ _ (by simp) (by omega) (by omega) (by omega)).mono ?_
  rintro e w4 ⟨A4, c4, rfl, hown4, hb14⟩
  have hbb4 := hbb1.trans (hb14.mono hbb1.size)
  have hb0 : B8 (be 4 L.mask) = B8 (be 4 L.mask ++ routersTo L.routers 0) := by simp [routersTo]
  simp only [Int.toNat_natCast] at hown4
  rw [hb0] at hown4
  clear hb0
  go_wp2_with fail
  have hW : ∀ wr : World, Below w1.heap.size w1 wr → (∀ i, wr.cell? ⟨w.heap.size, i, none⟩ = _) := fun wr hb i => (hb.cell (p := ⟨w.heap.size, i, none⟩) (by simp; omega)).trans (hbk1 i)
  have HW := hid hW
  clear hW hbk1 hbkA
  go_loopw [4, 7] (fun v i wr => ∃ (k n : Nat) (A : Option Addr) (c : Nat), k ≤ n2 ∧ i = .int .i64 k ∧ v = .slice A n c ∧ Hid (n = 4 + 4 * k) ∧ wr.ownsRow w1.heap.size 5 1 (.slice A n c) n (B8 (be 4 L.mask ++ routersTo L.routers k)) ∧
      Below w1.heap.size w1 wr) (fun _ i _ => n2 - (intOf i).toNat)
  case atStart => exact ⟨0, 4, A4, c4, Nat.zero_le _, rfl, rfl, rfl, hown4, hb14⟩
  case round =>
    obtain ⟨k, n, A, c, hk, rfl, rfl, HNk, hownr, hbr⟩ := hrel
    clear hown4 hb14 hbb4
    have hsz := hbr.size
    have hbk := HW.out wr hbr
    by_cases hlt : k < n2
    · have hr := (h.routers.below hbb1).below (hbr.mono (by omega))
      obtain ⟨b, off, rfl, hbl, q0⟩ := hr.u32 hlt
      have hlt' : k < L.routers.length := by rw [HN1.out]; exact hlt
      have hx : natAt L.routers k < 4294967296 := by
        unfold natAt
        rw [List.getD_eq_getElem?_getD, List.getElem?_eq_getElem hlt']
        exact hwf.routers _ (List.getElem_mem hlt')
      have HS := hid (routersTo_succ L.routers k hlt')
      have hn4 : n ≤ 500 := by have := HNk.out; omega
      clear hlt'
      generalize natAt L.routers k = X at *
      have e1 : IntKind.u64.wrap (X : Int) = (X : Int) := IntWalk.u64_in _ (by omega)
      generalize hP : be 4 L.mask ++ routersTo L.routers k = P at *
      have HP := hid hP
      clear hP
      go_wp2_with fail
      refine (num_any wr.heap.size 4 _ _ (Nat.le_refl _) (by omega) (by omega) (by omega)).mono ?_
      rintro e w5 ⟨A5, c5, rfl, hown5, hb5⟩
      have hown6 := own_below hownr hb5
      go_wp2_with (at_builtin; refine wpList_app rfl (.tmp 73) (.tmp 80) st_bytes rfl w1.heap.size rfl hown6 rfl (own_sl hown5) (B8_one _) (by simp [maxLen]; omega) (by omega) (by have := hb5.size; omega) ?_)
      intro A7 c7 w7 hown7 hg7 hf7
      rw [← B8_append] at hown7
      have hbr2 := (hbr.trans (hb5.mono hsz)).trans (grown_below hown6 hg7 (by have := hb5.size; omega))
      go_wp2_with fail
      go_light
      refine ⟨⟨k + 1, _, A7, c7, by omega, by go_num, rfl, by show _ = _; have := HNk.out; omega, ?_, hbr2⟩, by simp [intOf]; omega⟩
      rw [HS.out, ← List.append_assoc, HP.out]
      exact hown7
    · obtain rfl : k = n2 := by omega
      have hown2 := own_base (base' := w.heap.size) hownr (by omega)
      rw [← HT.out] at hown2
      have hbb2 := hbb1.trans (hbr.mono (by omega))
      have hbk2 := hbk
      clear hbr hownr
      obtain ⟨w2, rfl⟩ : ∃ w2 : World, w2 = wr := ⟨_, rfl⟩
      have hn := (own_sl hown2).len.1
      have HN := hid hn
      have hlen := tellB_length L HR.out
      rw [hn] at hlen
      clear hn
      go_wp2_with fail
      refine (refPutHeader_any L.age L.kty L.kid L.kadv L.seq 0 (20 + n) _ ⟨by omega, by have := hwf.kid; omega⟩ ⟨by omega, by have := hwf.kadv; omega⟩ (by omega)).mono ?_
      rintro e w3 ⟨A3, c3, rfl, hown3, hb3⟩
      have hbb3 := hbb2.trans (hb3.mono hbb2.size)
      have hown23 := own_sl (own_below hown2 hb3)
      have hS := hbb3.size
      clear hbk2
      go_wp2_with (at_builtin; refine wpList_app rfl (.tmp 104) (.tmp 105) st_bytes rfl w2.heap.size rfl hown3 rfl hown23 (B8_one _) (by simp [maxLen]; omega) (by omega) hb3.size ?_)
      intro A4 c4 w4 hown4 hg4 hf4
      rw [← B8_append] at hown4
      have hb4 : Below w2.heap.size w3 w4 := grown_below hown3 hg4 hb3.size
      have hbb4 := hbb3.trans (hb4.mono hbb2.size)
      obtain ⟨g, rfl, hgl, hgs⟩ := own_some hown4 (by omega)
      have hraw : Hid (rawB L = hdrB L.age L.kty L.kid L.kadv L.seq 0 (20 + n) ++ tellB L) := by
        show _ = _
        unfold rawB
        rw [HN.out]
        rfl
      rw [← hraw.out] at hown4
      have hrl : Hid ((rawB L).length = 20 + n) := by
        show _ = _
        rw [rawB_length, HN.out]
      have hdrop := sl_drop (own_sl hown4) 2 (by omega)
      have hc4 : 20 + n ≤ c4 := (own_sl hown4).len.2.1
      rw [if_neg (by omega)] at hdrop
      simp only [Option.map_some, addr_add] at hdrop
      go_wp2_with fail
      refine (refFletcher_yes _ _ _ 14 ((rawB L).drop 2) _ (by exact hdrop) (by omega) (by omega)).mono ?_
      rintro e w5 ⟨rfl, rfl⟩
      have hown5 := hown4
      have hbb5 := hbb4
      have bX := fX_bd ((rawB L).drop 2) 14
      have bY := fY_bd ((rawB L).drop 2) 14
      obtain ⟨p0, p1⟩ := own_byte hown5 16 (by omega)
      obtain ⟨p2, p3⟩ := own_byte hown5 17 (by omega)
      have hown6 := ((hown5.stored 16 (.int .u8 (fX ((rawB L).drop 2) 14))).1.stored 17 (.int .u8 (fY ((rawB L).drop 2) 14))).1
      rw [← ofNat_toNat_of _ bX, ← ofNat_toNat_of _ bY, B8_set, B8_set] at hown6
      have hput : Hid (putB L = ((rawB L).set 16 (UInt8.ofNat (fX ((rawB L).drop 2) 14).toNat)).set 17 (UInt8.ofNat (fY ((rawB L).drop 2) 14).toNat)) := rfl
      rw [← hput.out, ofNat_toNat_of _ bX, ofNat_toNat_of _ bY] at hown6
      have hwl : w.heap.size ≤ g := by have := hbb2.size; omega
      have hbb6 := (hbb5.setCell (p := ⟨g, 16, none⟩) hwl (.int .u8 (fX ((rawB L).drop 2) 14))).setCell (p := ⟨g, 17, none⟩) hwl (.int .u8 (fY ((rawB L).drop 2) 14))
      go_wp2_with fail
      go_ret2
      exact ⟨_, c4, _, rfl, own_base hown6 hbb2.size, hbb6⟩

set_option maxRecDepth 100000 in
set_option maxHeartbeats 800000 in
theorem refPut_no (L : Lsa) (A1 : Option Addr) (n1 c1 : Nat) (A2 : Option Addr) (n2 c2 : Nat) (w : World) (h : IsLsa w L A1 n1 c1 A2 n2 c2) (hr : L.right = false) :
    Calls Try.prog 43 #[.agg (lsaC L A1 n1 c1 A2 n2 c2)] w fun e w' => e = .returned (.tuple #[.slice none 0 0, .bool false]) ∧ Below w.heap.size w w' := by
  have HR := hid hr
  clear hr
  have hb0 : ∀ o, Below w.heap.size w (w.alloc o) := fun o => (Below.refl _ _).alloc (Nat.le_refl _) o
  have HB0 := hid hb0
  clear hb0
  go_enter Try.func43, Try.ntmps43
  go_wp2_with fail
  refine (refRight_l L A1 n1 c1 A2 n2 c2 _ (h.links.below (HB0.out _)) (h.routers.below (HB0.out _))).mono ?_
  rintro e w1 ⟨rfl, hb1⟩
  rw [HR.out]
  go_wp2_with fail
  go_ret2
  exact ⟨rfl, (HB0.out _).trans (hb1.mono (by simp))⟩
theorem refPut_yes (L : Lsa) (A1 : Option Addr) (n1 c1 : Nat) (A2 : Option Addr) (n2 c2 : Nat) (w : World) (h : IsLsa w L A1 n1 c1 A2 n2 c2) (hwf : WfL L) (hr : L.right = true) :
    Calls Try.prog 43 #[.agg (lsaC L A1 n1 c1 A2 n2 c2)] w fun e w' => ∃ A c n, e = .returned (.tuple #[.slice A n c, .bool true]) ∧
      w'.ownsRow w.heap.size 5 1 (.slice A n c) n (B8 (putB L)) ∧ Below w.heap.size w w' := by
  rcases (right_spec L hr).2.2 with h1 | h1 | h1
  · exact refPut1 L A1 n1 c1 A2 n2 c2 w h hwf hr h1.1
  · exact refPut2 L A1 n1 c1 A2 n2 c2 w h hwf hr h1.1
  · exact refPut3 L A1 n1 c1 A2 n2 c2 w h hwf hr h1.1
end Go.Proofs.Ytgopkpogakjckaa
