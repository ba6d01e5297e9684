/-
  Contract of the reference's Get: links, routers.
-/
import Derived.Test.YtgopkpogakjckaaLg2
namespace Go.Proofs.Ytgopkpogakjckaa
set_option linter.unusedVariables false
set_option linter.unusedSimpArgs false
open Go Go.RowKit SM LM

/-- a round's state -/
structure RefI (w0 : World) (gl : Nat) (cs : Array Value) (e : TypeId) (size n : Nat) (v : Value) (xs : List Value) (wr : World) : Prop where
  hl : wr.heap[gl]? = some (.cells cs 77 (0, 0))
  own : wr.ownsRow w0.heap.size e size v n xs
  kp : Kept (fun b => b = gl) w0 wr
def LKr (l : List Link) : List Value := LK l

set_option maxRecDepth 100000 in
set_option maxHeartbeats 3200000 in
theorem refGet1
    (A : Option Addr) (n c : Nat) (l : List UInt8) (w : World) (h : Sl w 1 (.slice A n c) (B8 l)) (hn : 20 ≤ n) (hnb : n ≤ 1000000000) (hr : right (l.drop 2) = true) (h16 : byt l 16 ≠ 255) (h17 : byt l 17 ≠ 255)
    (hk : fld l 3 1 = 1) (hn24 : 24 ≤ n) :
    Calls Try.prog 51 #[.slice A n c] w (RefGetPost l w) := by
  have hE : Hid (getE l = if (bodyL l).right = true ∧ putB (bodyL l) = l then 0 else 3) := by
    show _ = _
    unfold getE; rw [if_neg (by rw [h.len.1]; omega), if_neg (by rw [hr]; simp [h16, h17])]
  have hbody := bodyL_wf l
  have t1 : ((fld l 3 1 : Int) == 1) = true := by rw [hk]; rfl
  have HK := hid hk
  clear hk
  have hc24 : 24 ≤ c := by have := h.len.2.1; omega
  have HR := hid hr
  have t16 : ((byt l 16 : Int) == 255) = false := by rw [beq_eq_false_iff_ne]; omega
  have t17 : ((byt l 17 : Int) == 255) = false := by rw [beq_eq_false_iff_ne]; omega
  have b31 := fld_bd l 3 1 (by omega)
  clear hr h16 h17
  obtain ⟨hl1, hl2, hl3⟩ := h.len
  have HL := hid hl1
  clear hl1
  obtain ⟨b, off, rfl, hlt, c16⟩ := h.byte (k := 16) (by omega)
  obtain ⟨_, _, e1, _, c17⟩ := h.byte (k := 17) (by omega)
  injection e1 with e1
  injection e1 with e1 e2
  subst e1; subst e2
  have b16 := byt_lt l 16
  have b17 := byt_lt l 17
  go_enter Try.func51, Try.ntmps51
  go_wp2_with fail
  have h2 := h.alloc (.cells #[.int .i64 0, .int .i64 0, .int .u32 0, .int .u32 0, .int .i64 0, .slice none 0 0, .int .u32 0, .slice none 0 0, .int .i64 0] 77)
  have hh2 := heap_alloc_new w (.cells #[.int .i64 0, .int .i64 0, .int .u32 0, .int .u32 0, .int .i64 0, .slice none 0 0, .int .u32 0, .slice none 0 0, .int .i64 0] 77)
  have hbb2 := (Below.refl w.heap.size w).alloc (Nat.le_refl _) (.cells #[.int .i64 0, .int .i64 0, .int .u32 0, .int .u32 0, .int .i64 0, .slice none 0 0, .int .u32 0, .slice none 0 0, .int .i64 0] 77)
  have hs2 : (w.alloc (.cells #[.int .i64 0, .int .i64 0, .int .u32 0, .int .u32 0, .int .i64 0, .slice none 0 0, .int .u32 0, .slice none 0 0, .int .i64 0] 77)).heap.size = w.heap.size + 1 := by simp
  generalize w.alloc (.cells #[.int .i64 0, .int .i64 0, .int .u32 0, .int .u32 0, .int .i64 0, .slice none 0 0, .int .u32 0, .slice none 0 0, .int .i64 0] 77) = w2 at *
  have hdrop := sl_drop h2 2 (by omega)
  rw [if_neg (by omega)] at hdrop
  simp only [Option.map_some, addr_add] at hdrop
  refine (refRight_any _ _ _ _ w2 (by exact hdrop)).mono ?_
  rintro e w3 ⟨rfl, rfl⟩
  have k16 := (hbb2.cell (p := ⟨b, off + 16, none⟩) hlt).trans c16
  have k17 := (hbb2.cell (p := ⟨b, off + 17, none⟩) hlt).trans c17
  clear c16 c17 hdrop
  rw [HR.out]
  go_wp2_with fail
  refine (refHead_any _ n c l w2 h2 hn).mono ?_
  rintro e w3 ⟨rfl, hb3⟩
  replace hh2 := blk_below hh2 hb3 (by omega)
  replace h2 := h2.below hb3
  replace hbb2 := hbb2.trans (hb3.mono hbb2.size)
  have hs3 := hb3.size
  rw [hs2] at hs3
  clear k16 k17 hb3 hs2
  have hlt3 : w.heap.size < w3.heap.size := by omega
  have hq := sq_eq l
  have d1 : decide ((n : Int) < 20) = false := by simp; omega
  have d2 : decide (((n - 20 : Nat) : Int) < 4) = false := by simp; omega
  go_wp2_with fail
  have hd20 := sl_drop h2 20 (by omega)
  rw [if_neg (by omega)] at hd20
  simp only [Option.map_some, addr_add] at hd20
  have hgl := heap_alloc_new (w3.alloc (.cells (headC l) 105)) (.cells #[.int .i64 (fld l 0 2 : Nat), .int .i64 (fld l 3 1 : Nat), .int .u32 (fld l 4 4 : Nat), .int .u32 (fld l 8 4 : Nat), .int .i64 (sq l), .slice none 0 0, .int .u32 0, .slice none 0 0, .int .i64 0] 77)
  replace hd20 := (hd20.alloc (.cells (headC l) 105)).alloc (.cells #[.int .i64 (fld l 0 2 : Nat), .int .i64 (fld l 3 1 : Nat), .int .u32 (fld l 4 4 : Nat), .int .u32 (fld l 8 4 : Nat), .int .i64 (sq l), .slice none 0 0, .int .u32 0, .slice none 0 0, .int .i64 0] 77)
  replace hh2 := blk_alloc (blk_alloc hh2 (.cells (headC l) 105)) (.cells #[.int .i64 (fld l 0 2 : Nat), .int .i64 (fld l 3 1 : Nat), .int .u32 (fld l 4 4 : Nat), .int .u32 (fld l 8 4 : Nat), .int .i64 (sq l), .slice none 0 0, .int .u32 0, .slice none 0 0, .int .i64 0] 77)
  replace h2 := (h2.alloc (.cells (headC l) 105)).alloc (.cells #[.int .i64 (fld l 0 2 : Nat), .int .i64 (fld l 3 1 : Nat), .int .u32 (fld l 4 4 : Nat), .int .u32 (fld l 8 4 : Nat), .int .i64 (sq l), .slice none 0 0, .int .u32 0, .slice none 0 0, .int .i64 0] 77)
  replace hbb2 := (hbb2.alloc hbb2.size (.cells (headC l) 105)).alloc (by simp; omega) (.cells #[.int .i64 (fld l 0 2 : Nat), .int .i64 (fld l 3 1 : Nat), .int .u32 (fld l 4 4 : Nat), .int .u32 (fld l 8 4 : Nat), .int .i64 (sq l), .slice none 0 0, .int .u32 0, .slice none 0 0, .int .i64 0] 77)
  have hs4 : ((w3.alloc (.cells (headC l) 105)).alloc (.cells #[.int .i64 (fld l 0 2 : Nat), .int .i64 (fld l 3 1 : Nat), .int .u32 (fld l 4 4 : Nat), .int .u32 (fld l 8 4 : Nat), .int .i64 (sq l), .slice none 0 0, .int .u32 0, .slice none 0 0, .int .i64 0] 77)).heap.size = w3.heap.size + 2 := by simp
  rw [show (w3.alloc (.cells (headC l) 105)).heap.size = w3.heap.size + 1 by simp] at hgl
  generalize (w3.alloc (.cells (headC l) 105)).alloc (.cells #[.int .i64 (fld l 0 2 : Nat), .int .i64 (fld l 3 1 : Nat), .int .u32 (fld l 4 4 : Nat), .int .u32 (fld l 8 4 : Nat), .int .i64 (sq l), .slice none 0 0, .int .u32 0, .slice none 0 0, .int .i64 0] 77) = w4 at *
  have hs4' := Nat.le_of_eq hs4.symm
  clear hs4
  have hI0 : RefI w4 (w3.heap.size + 1) (lsaC (headL l) none 0 0 none 0 0) 134 4 0 (.slice none 0 0) [] w4 := ⟨hgl, World.ownsRow_nil _ _ _ _, Kept.refl _ _⟩
  clear hgl
  go_loopw [7] (fun i wr => ∃ (done : List Link) (j m : Nat) (A : Option Addr) (c' : Nat), i = .int .i64 j ∧ RefI w4 (w3.heap.size + 1) (lsaC (headL l) A m c' none 0 0) 134 4 m (.slice A m c') (LK done) wr ∧
      Hid (done ++ linksOf ((l.drop 20).drop j) = linksOf (l.drop 24)) ∧ m * 12 + 4 ≤ j ∧ j ≤ n - 20) (fun i _ => n - (intOf i).toNat)
  case atStart => exact ⟨[], 4, 0, none, 0, rfl, hI0, by show _ = _; rw [List.drop_drop]; rfl, by omega, by omega⟩
  case round =>
    obtain ⟨done, j, m, A', c', rfl, hI, HD, hm, hj⟩ := hrel
    clear hI0
    have hX : Sl wr 1 (.slice (some ⟨b, off + 20, none⟩) (n - 20) (c - 20)) (B8 (l.drop 20)) := sl_kept hd20 hI.kp (fun ad had => by injection had with had; subst had; simp; omega)
    by_cases hjl : j + 12 ≤ n - 20
    · go_wp2_with fail
      have hown := hI.own
      have hm40 : m ≤ 100000000 := by omega
      have hgl8 : w3.heap.size + 1 < wr.heap.size := (Array.getElem?_eq_some_iff.1 hI.hl).1
      have hB8 := hI.kp.size
      have j1 : IntKind.i64.wrap ((j : Int) + 4) = (j : Int) + 4 := IntWalk.i64_in _ (by omega)
      have j2 : IntKind.i64.wrap ((j : Int) + 8) = (j : Int) + 8 := IntWalk.i64_in _ (by omega)
      have j3 : IntKind.i64.wrap ((j : Int) + 10) = (j : Int) + 10 := IntWalk.i64_in _ (by omega)
      have j4 : IntKind.i64.wrap ((j : Int) + 12) = (j : Int) + 12 := IntWalk.i64_in _ (by omega)
      generalize hy : l.drop 20 = y at *
      have HY := hid hy
      clear hy
      have b0 := nv_bd (y.drop j) 4 (by omega)
      have b4 := nv_bd (y.drop (j + 4)) 4 (by omega)
      have b8 := byt_lt y (j + 8)
      have b10 := nv_bd (y.drop (j + 10)) 2 (by omega)
      generalize hx0 : nv (y.drop j) 4 = x0 at *
      generalize hx4 : nv (y.drop (j + 4)) 4 = x4 at *
      generalize hx8 : byt y (j + 8) = x8 at *
      generalize hx10 : nv (y.drop (j + 10)) 2 = x10 at *
      have H0 := hid hx0
      have H4 := hid hx4
      have H8 := hid hx8
      have H10 := hid hx10
      clear hx0 hx4 hx8 hx10
      have hX0 : (⟨x0, x4, x8, x10⟩ : Link) = ⟨x0, x4, x8, x10⟩ := rfl
      generalize hXX : (⟨x0, x4, x8, x10⟩ : Link) = X at hX0
      have HX := hid hXX
      clear hX0 hXX
      have HXS := hid (show LK [X] = [.int .u32 (x0 : Nat), .int .u32 (x4 : Nat), .int .i64 (x8 : Nat), .int .i64 (x10 : Nat)] by rw [← HX.out]; rfl)
      have hd1 : ∀ b, Value.ownBlock (.slice A' m c') = some b → (False ∨ b = w3.heap.size + 1) → False := by
        rintro b h1 (h2 | h2)
        · exact h2
        · have := (hown.lt b h1).1; omega
      have hSB : ∀ g, g < w.heap.size → ¬ ((False ∨ g = w3.heap.size + 1) ∨ Value.ownBlock (.slice A' m c') = some g) := fun g hg h => by
        rcases h with (h | h) | h
        · exact h
        · omega
        · have := (hown.lt _ h).1; omega
      have key : ∀ i k (wS : World), Kept (fun g => (False ∨ g = w3.heap.size + 1) ∨ Value.ownBlock (.slice A' m c') = some g) wr wS → i + k ≤ n - 20 → i < n - 20 → k ≤ 4 → Calls Try.prog 50 #[.slice (some ⟨b, off + 20 + i, none⟩) k (c - 20 - i)] wS fun e w' => e = .returned (.int .i64 (nv (y.drop i) k : Nat)) ∧ w' = wS := by
        intro i k wS hS h1 h2 h3
        have hzS : Sl wS 1 (.slice (some ⟨b, off + 20, none⟩) (n - 20) (c - 20)) (B8 y) := sl_kept hX hS (fun ad had => by injection had with had; subst had; exact hSB _ hlt)
        have := sl_mid hzS i (i + k) (by omega) (by omega) h2
        rw [Nat.add_sub_cancel_left] at this
        refine (refNum_any _ _ _ _ _ this h3).mono ?_
        rintro e w' ⟨rfl, rfl⟩
        refine ⟨?_, rfl⟩
        rw [nv_take _ _ _ (Nat.le_refl _)]
      have KEY := hid key
      clear key
      obtain ⟨_, _, e1, _, cj8⟩ := hX.byte (k := j + 8) (by omega)
      injection e1 with e1
      injection e1 with e1 e2
      subst e1; subst e2
      rw [H8.out] at cj8
      have c8x : ∀ z : WK (fun g => (False ∨ g = w3.heap.size + 1) ∨ Value.ownBlock (.slice A' m c') = some g) wr, (wat z).cell? ⟨b, off + 20 + (j + 8), none⟩ = some (.int .u8 (x8 : Int)) := fun z => (wat_cell (p := ⟨b, off + 20 + (j + 8), none⟩) (by have := hbb2.size; simp; omega) (hSB _ hlt) z).trans cj8
      refine wp_region_loud (fun g => (False ∨ g = w3.heap.size + 1) ∨ Value.ownBlock (.slice A' m c') = some g)
        [(1, loadL [100] (.slice A' m c') (BlkF (w3.heap.size + 1) 77 (lsaC (headL l) A' m c' none 0 0))), (7, plainL [] (.int .i64 (x0 : Nat))), (15, plainL [] (.int .i64 (x4 : Nat))), (29, plainL [] (.int .i64 (x10 : Nat))),
         (31, rowL [] w4.heap.size 134 4 1 (LK [X])), (32, rowL [101, 31] w4.heap.size 134 4 (m + 1) (LK (done ++ [X]))),
         (34, factL [1, 32] (fun _ => True) (fun _ S w' => ∃ A1 c1, BlkF (w3.heap.size + 1) 77 (lsaC (headL l) A1 (m + 1) c1 none 0 0) S w' ∧ OwnF w4.heap.size 134 4 (m + 1) (LK (done ++ [X])) (.slice A1 (m + 1) c1) S w'))]
        (addL 101 (OwnF w4.heap.size 134 4 m (LK done) (.slice A' m c')) (addL 100 (BlkF (w3.heap.size + 1) 77 (lsaC (headL l) A' m c' none 0 0)) (fun _ => Fact.none))) (by kernel_rfl) (by kernel_rfl)
        (.cons (loadL_ok _ _ (good_blk _ _ _)) (.cons (plainL_ok _ _) (.cons (plainL_ok _ _) (.cons (plainL_ok _ _) (.cons (rowL_ok _ _ _ _ _ _) (.cons (rowL_ok _ _ _ _ _ _) (.cons (factL_ok ⟨undef, trivial⟩ (fun _ S S' w w' h1 h2 ⟨A', c', h3, h4⟩ => ⟨A', c', good_blk _ _ _ S S' w w' h1 h2 h3, good_own _ _ _ _ _ _ S S' w w' h1 h2 h4⟩)) .nil)))))))
        (good_add _ (good_own _ _ _ _ _ _) (good_add _ (good_blk _ _ _) good_nothing))
        (sat_add 101 (sat_add 100 sat_none (fun b _ h => h) (fun b (hb : b = w3.heap.size + 1) => by omega) ⟨rfl, hI.hl⟩) hd1 (ownF_lt hown) (ownF_in hown)) ?_
      repeat (refine wpX_quiet (by rfl) (by rfl) (by rfl) (fun K hK => ?_); go_big_quiet_op; refine hK _ ?_; clear hK K)
      refine wpX_loud (us := [100]) (by rfl) (by rfl) (fun S wS hC hS hU => ?_) (fun v hv K hK => ?_)
      · obtain ⟨hc, hf⟩ := blkF_cells (hU 100 (by simp) : BlkF (w3.heap.size + 1) 77 (lsaC (headL l) A' m c' none 0 0) S wS)
        exact load_x (by go_simp) (good_blk _ _ _) (hU 100 (by simp))
      obtain rfl := hv; (go_simp; refine hK _ ?_; clear hK K)
      repeat (refine wpX_quiet (by rfl) (by rfl) (by rfl) (fun K hK => ?_); go_big_quiet_op; refine hK _ ?_; clear hK K)
      refine wpX_loud (us := []) (by rfl) (by rfl) (fun S wS hC hS hU => runs_enter (f := 50) (by go_simp <;> rfl) ?_) (fun v hv K hK => ?_)
      · refine (KEY.out j 4 wS hC (by omega) (by omega) (by omega)).mono ?_
        rintro e w' ⟨rfl, rfl⟩
        rw [H0.out]
        exact ⟨_, rfl, rfl, Kept.refl _ _, trivial⟩
      obtain rfl := hv; (go_simp; refine hK _ ?_; clear hK K)
      repeat (refine wpX_quiet (by rfl) (by rfl) (by rfl) (fun K hK => ?_); go_big_quiet_op; refine hK _ ?_; clear hK K)
      refine wpX_loud (us := []) (by rfl) (by rfl) (fun S wS hC hS hU => runs_enter (f := 50) (by go_simp <;> rfl) ?_) (fun v hv K hK => ?_)
      · refine (KEY.out (j + 4) 4 wS hC (by omega) (by omega) (by omega)).mono ?_
        rintro e w' ⟨rfl, rfl⟩
        rw [H4.out]
        exact ⟨_, rfl, rfl, Kept.refl _ _, trivial⟩
      obtain rfl := hv; (go_simp; refine hK _ ?_; clear hK K)
      repeat (refine wpX_quiet (by rfl) (by rfl) (by rfl) (fun K hK => ?_); go_big_quiet_op; refine hK _ ?_; clear hK K)
      refine wpX_loud (us := []) (by rfl) (by rfl) (fun S wS hC hS hU => runs_enter (f := 50) (by go_simp <;> rfl) ?_) (fun v hv K hK => ?_)
      · refine (KEY.out (j + 10) 2 wS hC (by omega) (by omega) (by omega)).mono ?_
        rintro e w' ⟨rfl, rfl⟩
        rw [H10.out]
        exact ⟨_, rfl, rfl, Kept.refl _ _, trivial⟩
      obtain rfl := hv; (go_simp; refine hK _ ?_; clear hK K)
      repeat (refine wpX_quiet (by rfl) (by rfl) (by rfl) (fun K hK => ?_); go_big_quiet_op; refine hK _ ?_; clear hK K)
      refine wpX_loud (us := []) (by rfl) (by rfl) (fun S wS hC hS hU => ?_) (fun v hv K hK => ?_)
      · exact runs_value (by go_simp <;> rfl) (made_x rfl (Nat.le_trans hB8 hC.size) (by rw [HXS.out]) (by rfl) (by omega) (by omega))
      obtain ⟨A6, c6, rfl⟩ := hv; (go_simp; refine hK _ ?_; clear hK K)
      repeat (refine wpX_quiet (by rfl) (by rfl) (by rfl) (fun K hK => ?_); go_big_quiet_op; refine hK _ ?_; clear hK K)
      refine wpX_loud (us := [101, 31]) (by rfl) (by rfl) (fun S wS hC hS hU => ?_) (fun v hv K hK => ?_)
      · exact appS_x (.tmp 60) (.tmp 90) st_rlinks (by rfl) (by rfl) (by rfl) (hU 101 (by simp)) (own_sl (hU 31 (by simp)).2) (LK_one _) (by simp [maxLen]; omega) (by omega) (Nat.le_trans hB8 hC.size) (LK_append _ _)
      obtain ⟨A7, c7, rfl⟩ := hv; (go_simp; refine hK _ ?_; clear hK K)
      repeat (refine wpX_quiet (by rfl) (by rfl) (by rfl) (fun K hK => ?_); go_big_quiet_op; refine hK _ ?_; clear hK K)
      refine wpX_loud (us := [1, 32]) (by rfl) (by rfl) (fun S wS hC hS hU => ?_) (fun v hv K hK => ?_)
      · have hB : BlkF (w3.heap.size + 1) 77 (lsaC (headL l) A' m c' none 0 0) S wS := hU 1 (by simp)
        have hO : OwnF w4.heap.size 134 4 (m + 1) (LK (done ++ [X])) (.slice A7 (m + 1) c7) S wS := hU 32 (by simp)
        obtain ⟨hc, hf⟩ := blkF_cells hB
        unfold runs
        go_simp
        have hO9 := ownsRow_kept hO.2 (Kept.setCell (S := fun b => b = w3.heap.size + 1) (Kept.refl _ wS) (p := ⟨w3.heap.size + 1, 5, none⟩) (.inl rfl) (.slice A7 (m + 1) c7)) (fun g hg => by have := (hO.2.lt g hg).1; omega)
        have hB9 := blk_set hB.2 5 (.slice A7 (m + 1) c7)
        simp at hB9
        exact ⟨trivial, (Kept.refl _ _).setCell (.inl hB.1) _, A7, c7, ⟨.inl hB.1, hB9⟩, ⟨fun g hg => .inl (hO.1 g hg), hO9⟩⟩
      (go_simp; refine hK _ ?_; clear hK K)
      refine wpX_nil fun w9 hsat => ?_
      obtain ⟨S, hS, hfin⟩ := sat_get hsat 34
      obtain ⟨A1, c1, hb9, ho9⟩ := (hfin : ∃ A1 c1, BlkF (w3.heap.size + 1) 77 (lsaC (headL l) A1 (m + 1) c1 none 0 0) S w9 ∧ OwnF w4.heap.size 134 4 (m + 1) (LK (done ++ [X])) (.slice A1 (m + 1) c1) S w9)
      have hkp9 := hI.kp.then hsat.1 (fun b hb h => by
        rcases h with (h | h) | h
        · exact h.elim
        · exact h
        · have := (hown.lt _ h).1; omega)
      clear hsat hS c8x j1 j2 j3 j4
      go_wp2_with fail
      go_light
      refine ⟨⟨done ++ [X], j + 12, m + 1, A1, c1, by go_num, ⟨hb9.2, ho9.2, hkp9⟩, ?_, by omega, by omega⟩, by simp [intOf]; omega⟩
      show _ = _
      have hyl : y.length = n - 20 := by rw [← HY.out, List.length_drop, HL.out]
      have e1 : linksOf (y.drop j) = X :: linksOf (y.drop (j + 12)) := by
        rw [← HX.out, linksOf_yes _ (by rw [List.length_drop]; omega), List.drop_drop, List.drop_drop, List.drop_drop, List.drop_drop, H0.out, H4.out, nv1, byt_drop, Nat.add_zero, H8.out, H10.out]
      rw [← HD.out, e1]
      simp
      rw [← HY.out, List.drop_drop]
    · have hj12 : n - 20 < j + 12 := by omega
      have hlk : Hid (done = linksOf (l.drop 24)) := by
        show _ = _
        rw [← HD.out, linksOf_no _ (by rw [List.length_drop, List.length_drop, HL.out]; omega), List.append_nil]
      have hbl : Hid (bodyL l = { headL l with links := done }) := by
        show _ = _
        unfold bodyL bodyOf
        rw [if_pos (by show ((fld l 3 1 : Nat) : Int) = 1; rw [HK.out]; rfl), hlk.out]
        unfold takeR
        rw [if_neg (by rw [List.length_drop, HL.out]; omega), List.drop_drop]
      have hIs : IsLsa wr (bodyL l) A' m c' none 0 0 := by rw [hbl.out]; exact ⟨own_sl hI.own, sl_nil _ _⟩
      have hgl : wr.heap[w3.heap.size + 1]? = some (.cells (lsaC (bodyL l) A' m c' none 0 0) 77 (0, 0)) := by rw [hbl.out]; exact hI.hl
      have hfr1 : FreshA (w.heap.size + 1) A' := fun ad had => by have := freshA_own hI.own ad had; have := hbb2.size; omega
      have hfr2 : FreshA (w.heap.size + 1) none := freshA_none _
      replace hh2 := blk_kept hh2 hI.kp (by omega)
      replace h2 := sl_kept h2 hI.kp (fun ad had => by injection had with had; subst had; simp; omega)
      replace hbb2 := hbb2.trans (hI.kp.below_of (B := w.heap.size) hbb2.size (fun b hb => by omega))
      have hszr := hI.kp.size
      clear hI hX hd20 hlk hbl
      generalize hL : bodyL l = L at *
      have HLb := hid hL
      clear hL
      obtain ⟨hcl, hfl⟩ := blk_cells hgl
      by_cases hr : L.right = true
      · have HRt := hid hr
        clear hr
        go_wp2_with fail
        refine (refPut_yes L A' m c' none 0 0 wr hIs hbody HRt.out).mono ?_
        rintro e w6 ⟨A7, c7, n7, rfl, hown7, hb7⟩
        replace hh2 := blk_below hh2 hb7 (by omega)
        replace hgl := blk_below hgl hb7 (by omega)
        replace h2 := h2.below hb7
        replace hIs := hIs.below hb7
        replace hbb2 := hbb2.trans (hb7.mono hbb2.size)
        have hs7 := own_sl hown7
        have st1 := bstr hs7
        have st2 := bstr h2
        clear hb7 hown7 hcl hfl
        obtain ⟨hcl, hfl⟩ := blk_cells hgl
        obtain ⟨hc2, hf2⟩ := blk_cells hh2
        by_cases hq : putB L = l
        · have hE0 : Hid (getE l = 0) := by show _ = _; rw [hE.out, if_pos ⟨HRt.out, hq⟩]
          have sq1 : ((S8 (putB L)).toList == (S8 l).toList) = true := by rw [S8_toList, S8_toList, hq]; simp
          clear hq
          go_wp2_with fail
          refine ret_blk (v := .tuple #[.agg (lsaC L A' m c' none 0 0), .int .i64 0]) (g := w.heap.size) (T := 77) (cs := lsaC L A' m c' none 0 0) (fun W hW => by obtain ⟨hc, hf⟩ := blk_cells hW; simp [results, Try.results51, go_sem, hc]) ?_ rfl ?_
          · simp [World.setCell, World.alloc, Array.getElem?_modify, Array.getElem?_push, hh2]
          · have hgL : getL l = L := by unfold getL; rw [if_pos hE0.out]; exact HLb.out
            have hkz : ∀ W : World, Kept (fun b => b = w.heap.size) w6 W → RefGetPost l w (.returned (.tuple #[.agg (lsaC L A' m c' none 0 0), .int .i64 0])) W := fun W hW => by
              refine ⟨_, _, _, _, _, _, by rw [hgL, hE0.out], ?_, hbb2.trans (hW.below_of hbb2.size (fun b hb => by omega)), fun ad had => by have := hfr1 ad had; omega, fun ad had => by have := hfr2 ad had; omega⟩
              rw [hgL]
              exact ⟨sl_kept hIs.links hW (fun ad had => by have := hfr1 ad had; omega), sl_kept hIs.routers hW (fun ad had => by have := hfr2 ad had; omega)⟩
            refine hkz _ ?_
            repeat (first | with_reducible exact Kept.refl _ _ | (with_reducible refine Kept.setCell ?_ ?_ _; rotate_left; · exact Or.inl rfl))
        · have hE0 : Hid (getE l = 3) := by show _ = _; rw [hE.out, if_neg (fun h => hq h.2)]
          have sq1 : ((S8 (putB L)).toList == (S8 l).toList) = false := by rw [S8_toList, S8_toList]; simp [hq]
          clear hq
          go_wp2_with fail
          refine ret_blk (v := .tuple #[.agg (lsaC zeroL none 0 0 none 0 0), .int .i64 3]) (g := w.heap.size) (T := 77) (cs := lsaC zeroL none 0 0 none 0 0) (fun W hW => by obtain ⟨hc, hf⟩ := blk_cells hW; simp [results, Try.results51, go_sem, hc, zeroL]) ?_ rfl (refGetPost_no hE0.out (by omega) ?_)
          · simp [World.setCell, World.alloc, Array.getElem?_modify, Array.getElem?_push, hh2, zeroL]
            try (rw [if_neg (by omega), if_neg (by omega)]; first | done | rfl)
          · (repeat (first | with_reducible exact Below.refl _ _ | with_reducible assumption | with_reducible refine Below.drew ?_ | with_reducible refine below_drewN ?_ _ | (with_reducible refine Below.alloc ?_ ?_ _; rotate_left; · (first | (simp; done) | omega | (simp at *; omega))) | (with_reducible refine Below.setCell ?_ ?_ _; rotate_left; · (first | (simp only []; omega) | (simp; done) | (simp; omega))) | with_reducible refine Below.trans ?_ (by with_reducible assumption)))
      · have hr' : L.right = false := by simpa using hr
        have hE0 : Hid (getE l = 3) := by show _ = _; rw [hE.out, if_neg (fun h => hr h.1)]
        have HRt := hid hr'
        clear hr hr'
        go_wp2_with fail
        refine (refPut_no L A' m c' none 0 0 wr hIs HRt.out).mono ?_
        rintro e w6 ⟨rfl, hb7⟩
        replace hh2 := blk_below hh2 hb7 (by omega)
        replace hbb2 := hbb2.trans (hb7.mono hbb2.size)
        obtain ⟨hc2, hf2⟩ := blk_cells hh2
        clear hcl hfl hgl
        go_wp2_with fail
        refine ret_blk (v := .tuple #[.agg (lsaC zeroL none 0 0 none 0 0), .int .i64 3]) (g := w.heap.size) (T := 77) (cs := lsaC zeroL none 0 0 none 0 0) (fun W hW => by obtain ⟨hc, hf⟩ := blk_cells hW; simp [results, Try.results51, go_sem, hc, zeroL]) ?_ rfl (refGetPost_no hE0.out (by omega) ?_)
        · simp [World.setCell, World.alloc, Array.getElem?_modify, Array.getElem?_push, hh2, zeroL]
          try (rw [if_neg (by omega), if_neg (by omega)]; first | done | rfl)
        · (repeat (first | with_reducible exact Below.refl _ _ | with_reducible assumption | with_reducible refine Below.drew ?_ | with_reducible refine below_drewN ?_ _ | (with_reducible refine Below.alloc ?_ ?_ _; rotate_left; · (first | (simp; done) | omega | (simp at *; omega))) | (with_reducible refine Below.setCell ?_ ?_ _; rotate_left; · (first | (simp only []; omega) | (simp; done) | (simp; omega))) | with_reducible refine Below.trans ?_ (by with_reducible assumption)))
end Go.Proofs.Ytgopkpogakjckaa
