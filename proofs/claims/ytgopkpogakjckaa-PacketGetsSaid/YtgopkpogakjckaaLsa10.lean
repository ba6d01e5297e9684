/-
  Contract of lsa.body.
-/
import Derived.Test.YtgopkpogakjckaaLsaP
import Derived.Test.YtgopkpogakjckaaRegC
import Derived.Test.YtgopkpogakjckaaRegE
namespace Go.Proofs.Ytgopkpogakjckaa
set_option linter.unusedVariables false
set_option linter.unusedSimpArgs false
open Go Go.RowKit SM LM

theorem st_links : ST Try.prog 61 93 4 24 := .mk Try.underlying61 (z := .agg #[.int .u32 0, .int .u32 0, .int .i64 0, .int .i64 0]) (by kernel_rfl) rfl (by omega)
theorem st_u32 : ST Try.prog 23 22 1 4 := .mk Try.underlying23 (z := .int .u32 0) (by kernel_rfl) rfl (by omega)
theorem LK_one (l : List Link) : ∀ u ∈ LK l, u.oneCell' = true := by
  intro u hu
  obtain ⟨x, _, hx⟩ := List.mem_flatMap.1 hu
  simp [linkC] at hx
  rcases hx with rfl | rfl | rfl | rfl <;> rfl
theorem U32_one (l : List Nat) : ∀ u ∈ U32 l, u.oneCell' = true := by
  intro u hu
  obtain ⟨c, _, rfl⟩ := List.mem_map.1 hu
  rfl
theorem LK_append (l r : List Link) : LK (l ++ r) = LK l ++ LK r := by simp [LK]

/-- what a reader still has, as a number: a loop's measure -/
def rdLen (g : Nat) (w : World) : Nat := match w.cell? ⟨g, 0, none⟩ with | some (.slice _ n _) => n | _ => 0
theorem RdB.len {B g : Nat} {w : World} {l : List UInt8} (h : RdB B w g l) : rdLen g w = l.length := by
  obtain ⟨A, n, c, hb, hsl, _⟩ := h
  have := hsl.len.1
  simp [rdLen, World.cell?, hb, this]
theorem RdB.kept {B g : Nat} {w w' : World} {l : List UInt8} {S : Nat → Prop} (h : RdB B w g l) (hk : Kept S w w') (hg : ¬ S g) (hB : ∀ b, b < B → ¬ S b) : RdB B w' g l := by
  obtain ⟨A, n, c, hb, hsl, hlt⟩ := h
  exact ⟨A, n, c, blk_kept hb hk hg, sl_kept hsl hk (fun ad had => hB _ (hlt ad had)), hlt⟩
theorem RdB.cell {B g : Nat} {w : World} {l : List UInt8} (h : RdB B w g l) : ∃ A n c, w.cell? ⟨g, 0, none⟩ = some (.slice A n c) ∧ n = l.length := by
  obtain ⟨A, n, c, hb, hsl, _⟩ := h
  exact ⟨A, n, c, by simp [World.cell?, hb], hsl.len.1.symm⟩

/-- a round's state: the reader, the thing that is filled, the row -/
structure BodyI (w : World) (B gl gr : Nat) (cs : Array Value) (e : TypeId) (size n : Nat) (v : Value) (xs : List Value) (rest : List UInt8) (wr : World) : Prop where
  rd : RdB B wr gr rest
  hl : wr.heap[gl]? = some (.cells cs 63 (0, 0))
  own : wr.ownsRow w.heap.size e size v n xs
  kp : Kept (fun b => b = gl ∨ b = gr) w wr
theorem BodyI.take {w : World} {B gl gr : Nat} {cs : Array Value} {e : TypeId} {size n : Nat} {v : Value} {xs : List Value} {rest rest' : List UInt8} {wr w' : World} (h : BodyI w B gl gr cs e size n v xs rest wr)
    (hr : RdB B w' gr rest') (hg : wr.grownBy w' (some gr)) (hne : gl ≠ gr) (hgr : gr < w.heap.size) : BodyI w B gl gr cs e size n v xs rest' w' :=
  ⟨hr, blk_grown h.hl hg (by simp [hne]), ownsRow_kept h.own (Kept.of_row hg) (fun g hv => by have := (h.own.lt g hv).1; simp; omega), h.kp.then (Kept.of_row hg) (fun b _ hb => by injection hb with hb; exact .inr hb)⟩
theorem BodyI.alloc {w : World} {B gl gr : Nat} {cs : Array Value} {e : TypeId} {size n : Nat} {v : Value} {xs : List Value} {rest : List UInt8} {wr : World} (h : BodyI w B gl gr cs e size n v xs rest wr) (o : Obj) : BodyI w B gl gr cs e size n v xs rest (wr.alloc o) :=
  have hk : Kept (fun _ => False) wr (wr.alloc o) := (Kept.refl _ _).alloc o
  ⟨h.rd.kept hk (by simp) (by simp), blk_kept h.hl hk (by simp), h.own.alloc o, h.kp.alloc o⟩
theorem BodyI.far {w : World} {B gl gr bx : Nat} {cs : Array Value} {e : TypeId} {size n : Nat} {v : Value} {xs : List Value} {rest : List UInt8} {wr : World} (h : BodyI w B gl gr cs e size n v xs rest wr) (i : Nat) (u : Value)
    (h1 : w.heap.size ≤ bx) (h2 : gl < w.heap.size) (h3 : gr < w.heap.size) (hB : B ≤ w.heap.size) (h4 : v.ownBlock ≠ some bx) : BodyI w B gl gr cs e size n v xs rest (wr.setCell ⟨bx, i, none⟩ u) :=
  have hk : Kept (fun b => b = bx) wr (wr.setCell ⟨bx, i, none⟩ u) := Kept.setCell (S := fun b => b = bx) (Kept.refl _ _) (p := ⟨bx, i, none⟩) (.inl rfl) u
  ⟨h.rd.kept hk (by omega) (fun b hb => by omega), blk_kept h.hl hk (by omega), ownsRow_kept h.own hk (fun g hg e => h4 (by rw [hg, e])), h.kp.setCell (.inr h1) u⟩

theorem freshA_none (B : Nat) : FreshA B none := fun _ h => by cases h
set_option maxRecDepth 100000 in
set_option maxHeartbeats 3200000 in
theorem body1 (L : Lsa) (B gl gr : Nat) (x : List UInt8) (w : World) (hL : w.heap[gl]? = some (.cells (lsaC L none 0 0 none 0 0) 63 (0, 0))) (hR : RdB B w gr x) (hBl : B ≤ gl) (hBr : B ≤ gr) (hne : gl ≠ gr) (hk : L.kty = 1) (hx : x.length ≤ 1000000000) :
    Calls Try.prog 119 #[.pointer (some ⟨gl, 0, none⟩), .pointer (some ⟨gr, 0, none⟩)] w fun e w' => e = .returned (.tuple #[]) ∧ ∃ A n c,
      w'.heap[gl]? = some (.cells (lsaC { L with links := linksOf (takeR x 4) } A n c none 0 0) 63 (0, 0)) ∧ Sl w' 4 (.slice A n c) (LK (linksOf (takeR x 4))) ∧ FreshA w.heap.size A ∧ Kept (fun b => b = gl ∨ b = gr) w w' := by
  have t1 : (L.kty == 1) = true := by rw [hk]; rfl
  have HK := hid hk
  clear hk
  have hltl := (Array.getElem?_eq_some_iff.1 hL).1
  have hltr : gr < w.heap.size := by obtain ⟨_, _, _, hb, _⟩ := hR; exact (Array.getElem?_eq_some_iff.1 hb).1
  obtain ⟨hcL, hfL⟩ := blk_cells hL
  go_enter Try.func119, Try.ntmps119
  go_wp2_with fail
  refine (takeB_any B gr 4 x w hR hBr (by omega) (by omega)).mono ?_
  rintro e w1 ⟨rfl, hR1, hg1⟩
  have hI0 : BodyI w B gl gr (lsaC L none 0 0 none 0 0) 93 4 0 (.slice none 0 0) [] (takeR x 4) w1 :=
    ⟨hR1, blk_grown hL hg1 (by simp [hne]), World.ownsRow_nil _ _ _ _, (Kept.of_row hg1).wider (fun b hb => by injection hb with hb; exact .inr hb)⟩
  have hx4 : (takeR x 4).length ≤ x.length := by unfold takeR; split <;> simp
  generalize hy : takeR x 4 = y at *
  have HY := hid hy
  clear hy
  clear hcL hfL hR1 hg1
  go_wp2_with fail
  go_loopw [4] (fun s wr => ∃ (done : List Link) (rest : List UInt8) (n : Nat) (A : Option Addr) (c : Nat), BodyI w B gl gr (lsaC L A n c none 0 0) 93 4 n (.slice A n c) (LK done) rest wr ∧
      Hid (done ++ linksOf rest = linksOf y) ∧ n * 12 + rest.length ≤ x.length) (fun _ w' => rdLen gr w')
  case atStart => exact ⟨[], y, 0, none, 0, hI0, rfl, by omega⟩
  case round =>
    obtain ⟨done, rest, n, A, c, hI, HD, hn12⟩ := hrel
    clear hI0
    have HR0 := hid hI.rd.len
    obtain ⟨hcl, hfl⟩ := blk_cells hI.hl
    obtain ⟨A', n', c', hcr, hn'⟩ := hI.rd.cell
    by_cases h12 : 12 ≤ rest.length
    · have h12' : 12 ≤ n' := by omega
      have HLK := hid (linksOf_yes rest h12)
      have V0 := hid (show takeV rest 4 = nv rest 4 by unfold takeV; rw [if_neg (by omega)])
      have R0 := hid (show takeR rest 4 = rest.drop 4 by unfold takeR; rw [if_neg (by omega)])
      have V4 := hid (show takeV (rest.drop 4) 4 = nv (rest.drop 4) 4 by unfold takeV; rw [if_neg (by simp; omega)])
      have R4 := hid (show takeR (rest.drop 4) 4 = rest.drop 8 by unfold takeR; rw [if_neg (by simp; omega), List.drop_drop])
      have V8 := hid (show takeV (rest.drop 8) 1 = nv (rest.drop 8) 1 by unfold takeV; rw [if_neg (by simp; omega)])
      have R8 := hid (show takeR (rest.drop 8) 1 = rest.drop 9 by unfold takeR; rw [if_neg (by simp; omega), List.drop_drop])
      have R9 := hid (show takeR (rest.drop 9) 1 = rest.drop 10 by unfold takeR; rw [if_neg (by simp; omega), List.drop_drop])
      have V10 := hid (show takeV (rest.drop 10) 2 = nv (rest.drop 10) 2 by unfold takeV; rw [if_neg (by simp; omega)])
      have R10 := hid (show takeR (rest.drop 10) 2 = rest.drop 12 by unfold takeR; rw [if_neg (by simp; omega), List.drop_drop])
      have HN' := hid hn'
      clear hn'
      go_wp2_with fail
      refine (takeB_any B gr 4 rest wr hI.rd hBr (by omega) (by omega)).mono ?_
      rintro e w2 ⟨rfl, hR2, hg2⟩
      rw [V0.out]
      rw [R0.out] at hR2
      replace hI := hI.take hR2 hg2 hne hltr
      clear hcl hfl hcr hR2 hg2
      go_wp2_with fail
      refine (takeB_any B gr 4 _ w2 hI.rd hBr (by omega) (by omega)).mono ?_
      rintro e w3 ⟨rfl, hR2, hg2⟩
      rw [V4.out]
      rw [R4.out] at hR2
      replace hI := hI.take hR2 hg2 hne hltr
      clear hR2 hg2
      go_wp2_with fail
      refine (takeB_any B gr 1 _ w3 hI.rd hBr (by omega) (by omega)).mono ?_
      rintro e w4 ⟨rfl, hR2, hg2⟩
      rw [V8.out]
      rw [R8.out] at hR2
      replace hI := hI.take hR2 hg2 hne hltr
      clear hR2 hg2
      have b0 := nv_bd rest 4 (by omega)
      have b4 := nv_bd (rest.drop 4) 4 (by omega)
      have b8 := nv_bd (rest.drop 8) 1 (by omega)
      have b10 := nv_bd (rest.drop 10) 2 (by omega)
      generalize hX : (⟨nv rest 4, nv (rest.drop 4) 4, (nv (rest.drop 8) 1 : Nat), (nv (rest.drop 10) 2 : Nat)⟩ : Link) = X at HLK
      have HX := hid hX
      clear hX
      generalize nv rest 4 = x0 at *
      generalize nv (rest.drop 4) 4 = x4 at *
      generalize nv (rest.drop 8) 1 = x8 at *
      go_wp2_with fail
      have hw4 := hI.kp.size
      have hv4 : Value.ownBlock (.slice A n c) ≠ some w4.heap.size := fun e => by have := (hI.own.lt _ e).2; omega
      replace hI := hI.alloc (.cells #[.int .u32 (x0 : Nat), .int .u32 (x4 : Nat), .int .i64 (x8 : Nat), .int .i64 0] 93)
      have hbx := heap_alloc_new w4 (.cells #[.int .u32 (x0 : Nat), .int .u32 (x4 : Nat), .int .i64 (x8 : Nat), .int .i64 0] 93)
      generalize hw5 : w4.alloc (.cells #[.int .u32 (x0 : Nat), .int .u32 (x4 : Nat), .int .i64 (x8 : Nat), .int .i64 0] 93) = w5 at *
      clear hw5
      generalize w4.heap.size = bx at *
      refine (takeB_any B gr 1 _ w5 hI.rd hBr (by omega) (by omega)).mono ?_
      rintro e w6 ⟨rfl, hR2, hg2⟩
      rw [R9.out] at hR2
      replace hI := hI.take hR2 hg2 hne hltr
      replace hbx := blk_grown hbx hg2 (by simp; omega)
      clear hR2 hg2
      go_wp2_with fail
      refine (takeB_any B gr 2 _ w6 hI.rd hBr (by omega) (by omega)).mono ?_
      rintro e w7 ⟨rfl, hR2, hg2⟩
      rw [V10.out]
      rw [R10.out] at hR2
      replace hI := hI.take hR2 hg2 hne hltr
      replace hbx := blk_grown hbx hg2 (by simp; omega)
      clear hR2 hg2
      generalize nv (rest.drop 10) 2 = x10 at *
      obtain ⟨hcx, hfx⟩ := blk_cells hbx
      go_wp2_with fail
      clear hcx hfx
      replace hbx := set_in hbx 3 (.int .i64 (x10 : Nat))
      simp at hbx
      replace hI := hI.far (bx := bx) 3 (.int .i64 (x10 : Nat)) hw4 hltl hltr (by omega) hv4
      generalize w7.setCell ⟨bx, 3, none⟩ (.int .i64 (x10 : Nat)) = w8 at *
      have hown := hI.own
      have hn40 : n ≤ 100000000 := by omega
      have hxs : LK [X] = [.int .u32 (x0 : Nat), .int .u32 (x4 : Nat), .int .i64 (x8 : Nat), .int .i64 (x10 : Nat)] := by rw [← HX.out]; rfl
      have HXS := hid hxs
      clear hxs
      have hbx' : bx < w8.heap.size := (Array.getElem?_eq_some_iff.1 hbx).1
      have hgl8 : gl < w8.heap.size := (Array.getElem?_eq_some_iff.1 hI.hl).1
      have hcx : ∀ (z : WK (fun b => b = gl ∨ Value.ownBlock (.slice A n c) = some b) w8) i, (wat z).cell? ⟨bx, i, none⟩ = (#[.int .u32 (x0 : Nat), .int .u32 (x4 : Nat), .int .i64 (x8 : Nat), .int .i64 (x10 : Nat)] : Array Value)[i]? := fun z i =>
        (wat_cell (p := ⟨bx, i, none⟩) hbx' (fun h => h.elim (fun h => absurd h (by simp; omega)) hv4) z).trans ((blk_cells hbx).1 i)
      have hc0 := fun z => hcx z 0
      have hc1 := fun z => hcx z 1
      have hc2 := fun z => hcx z 2
      have hc3 := fun z => hcx z 3
      simp at hc0 hc1 hc2 hc3
      clear hcx
      have hB8 := hI.kp.size
      refine wp_region_loud (fun b => b = gl ∨ Value.ownBlock (.slice A n c) = some b)
        [(4, loadL [100] (.slice A n c) (BlkF gl 63 (lsaC L A n c none 0 0))), (6, rowL [] w.heap.size 93 4 1 (LK [X])), (7, rowL [101, 6] w.heap.size 93 4 (n + 1) (LK (done ++ [X]))),
         (10, factL [4, 7] (fun _ => True) (fun _ S w' => ∃ A' c', BlkF gl 63 (lsaC L A' (n + 1) c' none 0 0) S w' ∧ OwnF w.heap.size 93 4 (n + 1) (LK (done ++ [X])) (.slice A' (n + 1) c') S w'))]
        (labelled2 100 101 (BlkF gl 63 (lsaC L A n c none 0 0)) (OwnF w.heap.size 93 4 n (LK done) (.slice A n c))) (by kernel_rfl) (by kernel_rfl)
        (.cons (loadL_ok _ _ (good_blk _ _ _)) (.cons (rowL_ok _ _ _ _ _ _) (.cons (rowL_ok _ _ _ _ _ _) (.cons (factL_ok ⟨undef, trivial⟩ (fun _ S S' w w' h1 h2 ⟨A', c', h3, h4⟩ => ⟨A', c', good_blk _ _ _ S S' w w' h1 h2 h3, good_own _ _ _ _ _ _ S S' w w' h1 h2 h4⟩)) .nil))))
        (good_two _ _ (good_blk _ _ _) (good_own _ _ _ _ _ _))
        (sat_two 100 101 (by omega) _ _ (fun b h1 h2 => by have := (hown.lt b h2).1; omega) (fun b hb => by omega) (ownF_lt hown) ⟨rfl, hI.hl⟩ (ownF_in hown)) ?_
      repeat (refine wpX_quiet (by rfl) (by rfl) (by rfl) (fun K hK => ?_); go_big_quiet_op; refine hK _ ?_; clear hK K)
      refine wpX_loud (us := [100]) (by rfl) (by rfl) (fun S wS hC hS hU => ?_) (fun v hv K hK => ?_)
      · obtain ⟨hc, hf⟩ := blkF_cells (hU 100 (by simp) : BlkF gl 63 (lsaC L A n c none 0 0) S wS)
        exact load_x (by go_simp) (good_blk _ _ _) (hU 100 (by simp))
      obtain rfl := hv; (go_simp; refine hK _ ?_; clear hK K)
      repeat (refine wpX_quiet (by rfl) (by rfl) (by rfl) (fun K hK => ?_); go_big_quiet_op; refine hK _ ?_; clear hK K)
      refine wpX_loud (us := []) (by rfl) (by rfl) (fun S wS hC hS hU => ?_) (fun v hv K hK => ?_)
      · refine runs_value (by go_simp <;> rfl) (made_x rfl (Nat.le_trans hB8 hC.size) ?_ (by rfl) (by omega) (by omega))
        rw [HXS.out]
      obtain ⟨A6, c6, rfl⟩ := hv; (go_simp; refine hK _ ?_; clear hK K)
      repeat (refine wpX_quiet (by rfl) (by rfl) (by rfl) (fun K hK => ?_); go_big_quiet_op; refine hK _ ?_; clear hK K)
      refine wpX_loud (us := [101, 6]) (by rfl) (by rfl) (fun S wS hC hS hU => ?_) (fun v hv K hK => ?_)
      · exact appS_x (.tmp 38) (.tmp 40) st_links (by rfl) (by rfl) (by rfl) (hU 101 (by simp)) (own_sl (hU 6 (by simp)).2) (LK_one _) (by simp [maxLen]; omega) (by omega) (Nat.le_trans hB8 hC.size) (LK_append _ _)
      obtain ⟨A7, c7, rfl⟩ := hv; (go_simp; refine hK _ ?_; clear hK K)
      repeat (refine wpX_quiet (by rfl) (by rfl) (by rfl) (fun K hK => ?_); go_big_quiet_op; refine hK _ ?_; clear hK K)
      refine wpX_loud (us := [4, 7]) (by rfl) (by rfl) (fun S wS hC hS hU => ?_) (fun v hv K hK => ?_)
      · have hB : BlkF gl 63 (lsaC L A n c none 0 0) S wS := hU 4 (by simp)
        have hO : OwnF w.heap.size 93 4 (n + 1) (LK (done ++ [X])) (.slice A7 (n + 1) c7) S wS := hU 7 (by simp)
        obtain ⟨hc, hf⟩ := blkF_cells hB
        unfold runs
        go_simp
        have hO9 := ownsRow_kept hO.2 (Kept.setCell (S := fun b => b = gl) (Kept.refl _ wS) (p := ⟨gl, 5, none⟩) (.inl rfl) (.slice A7 (n + 1) c7)) (fun g hg => by have := (hO.2.lt g hg).1; omega)
        have hB9 := blk_set hB.2 5 (.slice A7 (n + 1) c7)
        simp at hB9
        exact ⟨trivial, (Kept.refl _ _).setCell (.inl hB.1) _, A7, c7, ⟨.inl hB.1, hB9⟩, ⟨fun g hg => .inl (hO.1 g hg), hO9⟩⟩
      (go_simp; refine hK _ ?_; clear hK K)
      refine wpX_nil fun w9 hsat => ?_
      obtain ⟨S, hS, hfin⟩ := sat_get hsat 10
      obtain ⟨A', c', hb9, ho9⟩ := (hfin : ∃ A' c', BlkF gl 63 (lsaC L A' (n + 1) c' none 0 0) S w9 ∧ OwnF w.heap.size 93 4 (n + 1) (LK (done ++ [X])) (.slice A' (n + 1) c') S w9)
      have hrd9 := hI.rd.kept hsat.1 (fun h => h.elim (fun h => hne h.symm) (fun h => by have := (hown.lt _ h).1; omega)) (fun b hb h => h.elim (fun h => by omega) (fun h => by have := (hown.lt _ h).1; omega))
      have hkp9 := hI.kp.then hsat.1 (fun b hb h => h.elim .inl (fun h => by have := (hown.lt _ h).1; omega))
      have hm9 := hrd9.len
      have HM9 := hid hm9
      clear hm9 hsat hS hc0 hc1 hc2 hc3
      go_wp2_with fail
      go_light
      refine ⟨⟨done ++ [X], _, n + 1, A', c', ⟨hrd9, hb9.2, ho9.2, hkp9⟩, ?_, ?_⟩, ?_⟩
      · show _ = _
        rw [← HD.out, HLK.out]
        simp
      · simp
        omega
      · rw [HM9.out, HR0.out]
        simp
        omega
    · have h12' : n' < 12 := by omega
      have HN' := hid hn'
      clear hn'
      go_wp2_with fail
      go_end0
      refine ⟨rfl, A, n, c, hI.hl, ?_, freshA_own hI.own, hI.kp⟩
      have hD := HD.out
      rw [linksOf_no rest (by omega), List.append_nil] at hD
      rw [HY.out, ← hD]
      exact own_sl hI.own

theorem sl_same {w w' : World} {size n c : Nat} {A : Option Addr} {xs : List Value} (h : Sl w size (.slice A n c) xs) (hs : ∀ ad, A = some ad → w'.heap[ad.block]? = w.heap[ad.block]?) : Sl w' size (.slice A n c) xs := by
  obtain ⟨A', n', c', he, hl, hnc, hcm, hr⟩ := h
  injection he with e1 e2 e3
  subst e1; subst e2; subst e3
  refine ⟨_, _, _, rfl, hl, hnc, hcm, fun hn => ?_⟩
  obtain ⟨b, off, rfl, hlt, hc⟩ := hr hn
  have hb := hs _ rfl
  simp only at hb
  refine ⟨b, off, rfl, ?_, fun i hi => (World.cell?_of_block (a := ⟨b, off + i, none⟩) hb).trans (hc i hi)⟩
  rcases Nat.lt_or_ge b w'.heap.size with h | h
  · exact h
  · rw [Array.getElem?_eq_none h, Array.getElem?_eq_getElem hlt] at hb
    cases hb
/-- a reader, as a region's fact: its bytes lie in the world w0 -/
def RdF (w0 : World) (B g : Nat) (l : List UInt8) : Fact := fun S w => S g ∧ ∃ A n c, w.heap[g]? = some (.cells #[.slice A n c] 179 (0, 0)) ∧ Sl w0 1 (.slice A n c) (B8 l) ∧ ∀ ad, A = some ad → ad.block < B
theorem good_rdF (w0 : World) (B g : Nat) (l : List UInt8) : Good (RdF w0 B g l) := fun S S' w w' h1 h2 ⟨h3, A, n, c, h4, h5⟩ => ⟨h1 g h3, A, n, c, (h2 g h3).trans h4, h5⟩
theorem rdF_in {w0 : World} {B g : Nat} {l : List UInt8} (h : RdB B w0 g l) : RdF w0 B g l (fun b => b = g) w0 := by
  obtain ⟨A, n, c, h1, h2, h3⟩ := h
  exact ⟨rfl, A, n, c, h1, h2, h3⟩
theorem rdF_out {w0 w : World} {B g : Nat} {l : List UInt8} {S S0 : Nat → Prop} (h : RdF w0 B g l S w) (hk : Kept S0 w0 w) (hB : ∀ b, b < B → ¬ S0 b) (hB0 : B ≤ w0.heap.size) : RdB B w g l := by
  obtain ⟨_, A, n, c, h1, h2, h3⟩ := h
  exact ⟨A, n, c, h1, sl_same h2 (fun ad had => hk.block _ (by have := h3 ad had; omega) (hB _ (h3 ad had))), h3⟩
theorem rdF_of {w0 w : World} {B g : Nat} {l : List UInt8} {S S0 : Nat → Prop} (h : RdB B w g l) (hS : S g) (hk : Kept S0 w0 w) (hB : ∀ b, b < B → ¬ S0 b) (hB0 : B ≤ w0.heap.size) : RdF w0 B g l S w := by
  obtain ⟨A, n, c, h1, h2, h3⟩ := h
  exact ⟨hS, A, n, c, h1, sl_same h2 (fun ad had => (hk.block _ (by have := h3 ad had; omega) (hB _ (h3 ad had))).symm), h3⟩

theorem U32_append (l r : List Nat) : U32 (l ++ r) = U32 l ++ U32 r := by simp [U32]

set_option maxRecDepth 100000 in
set_option maxHeartbeats 3200000 in
theorem body2 (L : Lsa) (B gl gr : Nat) (x : List UInt8) (w : World) (hL : w.heap[gl]? = some (.cells (lsaC L none 0 0 none 0 0) 63 (0, 0))) (hR : RdB B w gr x) (hBl : B ≤ gl) (hBr : B ≤ gr) (hne : gl ≠ gr) (hk : L.kty = 2) (hx : x.length ≤ 1000000000) :
    Calls Try.prog 119 #[.pointer (some ⟨gl, 0, none⟩), .pointer (some ⟨gr, 0, none⟩)] w fun e w' => e = .returned (.tuple #[]) ∧ ∃ A n c,
      w'.heap[gl]? = some (.cells (lsaC { L with mask := takeV x 4, routers := routersOf (takeR x 4) } none 0 0 A n c) 63 (0, 0)) ∧ Sl w' 1 (.slice A n c) (U32 (routersOf (takeR x 4))) ∧ FreshA w.heap.size A ∧ Kept (fun b => b = gl ∨ b = gr) w w' := by
  have t1 : (L.kty == 1) = false := by rw [hk]; rfl
  have t2 : (L.kty == 2) = true := by rw [hk]; rfl
  have HK := hid hk
  clear hk
  have hltl := (Array.getElem?_eq_some_iff.1 hL).1
  have hltr : gr < w.heap.size := by obtain ⟨_, _, _, hb, _⟩ := hR; exact (Array.getElem?_eq_some_iff.1 hb).1
  obtain ⟨hcL, hfL⟩ := blk_cells hL
  have hV4 := takeV_bd x 4 (by omega)
  go_enter Try.func119, Try.ntmps119
  go_wp2_with fail
  refine (takeB_any B gr 4 x w hR hBr (by omega) (by omega)).mono ?_
  rintro e w1 ⟨rfl, hR1, hg1⟩
  have hI0 : BodyI w B gl gr (lsaC L none 0 0 none 0 0) 22 1 0 (.slice none 0 0) [] (takeR x 4) w1 :=
    ⟨hR1, blk_grown hL hg1 (by simp [hne]), World.ownsRow_nil _ _ _ _, (Kept.of_row hg1).wider (fun b hb => by injection hb with hb; exact .inr hb)⟩
  have hx4 : (takeR x 4).length ≤ x.length := by unfold takeR; split <;> simp
  generalize hy : takeR x 4 = y at *
  have HY := hid hy
  clear hy
  generalize hmk : takeV x 4 = mk at *
  have HV := hid hmk
  clear hmk
  clear hcL hfL hR1 hg1
  obtain ⟨hcL, hfL⟩ := blk_cells hI0.hl
  go_wp2_with fail
  have hI1 : BodyI w B gl gr (lsaC { L with mask := mk } none 0 0 none 0 0) 22 1 0 (.slice none 0 0) [] y (w1.setCell ⟨gl, 6, none⟩ (.int .u32 (mk : Nat))) := by
    have hkk : Kept (fun b => b = gl) w1 (w1.setCell ⟨gl, 6, none⟩ (.int .u32 (mk : Nat))) := Kept.setCell (S := fun b => b = gl) (Kept.refl _ _) (p := ⟨gl, 6, none⟩) (.inl rfl) _
    have hb := blk_set hI0.hl 6 (.int .u32 (mk : Nat))
    simp at hb
    exact ⟨hI0.rd.kept hkk (Ne.symm hne) (fun b hb => by omega), hb, World.ownsRow_nil _ _ _ _, hI0.kp.then hkk (fun b _ hb => .inl hb)⟩
  generalize w1.setCell ⟨gl, 6, none⟩ (.int .u32 (mk : Nat)) = w2 at *
  generalize hM : ({ L with mask := mk } : Lsa) = M at *
  have HM := hid hM
  clear hM hcL hfL hI0
  go_loopw [58] (fun s wr => ∃ (done : List Nat) (rest : List UInt8) (n : Nat) (A : Option Addr) (c : Nat), BodyI w B gl gr (lsaC M none 0 0 A n c) 22 1 n (.slice A n c) (U32 done) rest wr ∧
      Hid (done ++ routersOf rest = routersOf y) ∧ n * 4 + rest.length ≤ x.length) (fun _ w' => rdLen gr w')
  case atStart => exact ⟨[], y, 0, none, 0, hI1, rfl, by omega⟩
  case round =>
    obtain ⟨done, rest, n, A, c, hI, HD, hn12⟩ := hrel
    clear hI1
    have HR0 := hid hI.rd.len
    obtain ⟨hcl, hfl⟩ := blk_cells hI.hl
    obtain ⟨A', n', c', hcr, hn'⟩ := hI.rd.cell
    by_cases h12 : 4 ≤ rest.length
    · have h12' : 4 ≤ n' := by omega
      have HLK := hid (routersOf_yes rest h12)
      have V0 := hid (show takeV rest 4 = nv rest 4 by unfold takeV; rw [if_neg (by omega)])
      have R0 := hid (show takeR rest 4 = rest.drop 4 by unfold takeR; rw [if_neg (by omega)])
      have HN' := hid hn'
      clear hn'
      have b0 := nv_bd rest 4 (by omega)
      generalize nv rest 4 = x0 at *
      go_wp2_with fail
      clear hcl hfl hcr
      have hown := hI.own
      have hn40 : n ≤ 1000000000 := by omega
      have hgl8 : gl < wr.heap.size := (Array.getElem?_eq_some_iff.1 hI.hl).1
      have hgr8 : gr < wr.heap.size := by have := hI.kp.size; omega
      have hB8 := hI.kp.size
      have hSB : ∀ b, b < B → ¬ ((((False ∨ b = gl) ∨ Value.ownBlock (.slice A n c) = some b)) ∨ b = gr) := fun b hb h => by
        rcases h with ((h | h) | h) | h
        · exact h
        · omega
        · have := (hown.lt _ h).1; omega
        · omega
      have hd1 : ∀ b, Value.ownBlock (.slice A n c) = some b → (False ∨ b = gl) → False := by
        rintro b h1 (h2 | h2)
        · exact h2
        · have := (hown.lt b h1).1; omega
      have hd2 : ∀ b, b = gr → ((False ∨ b = gl) ∨ Value.ownBlock (.slice A n c) = some b) → False := by
        rintro b h1 ((h2 | h2) | h2)
        · exact h2
        · omega
        · have := (hown.lt b h2).1; omega
      refine wp_region_loud (fun b => ((False ∨ b = gl) ∨ Value.ownBlock (.slice A n c) = some b) ∨ b = gr)
        [(4, loadL [100] (.slice A n c) (BlkF gl 63 (lsaC M none 0 0 A n c))), (6, factL [102] (fun v => v = .int .u32 (x0 : Nat)) (fun _ => RdF wr B gr (rest.drop 4))), (7, rowL [] w.heap.size 22 1 1 (U32 [x0])), (8, rowL [101, 7] w.heap.size 22 1 (n + 1) (U32 (done ++ [x0]))),
         (11, factL [4, 8] (fun _ => True) (fun _ S w' => ∃ A' c', BlkF gl 63 (lsaC M none 0 0 A' (n + 1) c') S w' ∧ OwnF w.heap.size 22 1 (n + 1) (U32 (done ++ [x0])) (.slice A' (n + 1) c') S w'))]
        (addL 102 (RdF wr B gr rest) (addL 101 (OwnF w.heap.size 22 1 n (U32 done) (.slice A n c)) (addL 100 (BlkF gl 63 (lsaC M none 0 0 A n c)) (fun _ => Fact.none)))) (by kernel_rfl) (by kernel_rfl)
        (.cons (loadL_ok _ _ (good_blk _ _ _)) (.cons (factL_ok ⟨_, rfl⟩ (fun _ => good_rdF _ _ _ _)) (.cons (rowL_ok _ _ _ _ _ _) (.cons (rowL_ok _ _ _ _ _ _) (.cons (factL_ok ⟨undef, trivial⟩ (fun _ S S' w w' h1 h2 ⟨A', c', h3, h4⟩ => ⟨A', c', good_blk _ _ _ S S' w w' h1 h2 h3, good_own _ _ _ _ _ _ S S' w w' h1 h2 h4⟩)) .nil)))))
        (good_add _ (good_rdF _ _ _ _) (good_add _ (good_own _ _ _ _ _ _) (good_add _ (good_blk _ _ _) good_nothing)))
        (sat_add 102 (sat_add 101 (sat_add 100 sat_none (fun b _ h => h) (fun b (hb : b = gl) => by omega) ⟨rfl, hI.hl⟩) hd1 (ownF_lt hown) (ownF_in hown))
          hd2 (fun b (hb : b = gr) => by omega) (rdF_in hI.rd)) ?_
      repeat (refine wpX_quiet (by rfl) (by rfl) (by rfl) (fun K hK => ?_); go_big_quiet_op; refine hK _ ?_; clear hK K)
      refine wpX_loud (us := [100]) (by rfl) (by rfl) (fun S wS hC hS hU => ?_) (fun v hv K hK => ?_)
      · obtain ⟨hc, hf⟩ := blkF_cells (hU 100 (by simp) : BlkF gl 63 (lsaC M none 0 0 A n c) S wS)
        exact load_x (by go_simp) (good_blk _ _ _) (hU 100 (by simp))
      obtain rfl := hv; (go_simp; refine hK _ ?_; clear hK K)
      repeat (refine wpX_quiet (by rfl) (by rfl) (by rfl) (fun K hK => ?_); go_big_quiet_op; refine hK _ ?_; clear hK K)
      refine wpX_loud (us := [102]) (by rfl) (by rfl) (fun S wS hC hS hU => runs_enter (f := 107) (by go_simp <;> rfl) ?_) (fun v hv K hK => ?_)
      · have hF : RdF wr B gr rest S wS := hU 102 (by simp)
        refine (takeB_any B gr 4 rest wS (rdF_out hF hC hSB (by omega)) hBr (by omega) (by omega)).mono ?_
        rintro e w' ⟨rfl, hR2, hg2⟩
        rw [V0.out]
        rw [R0.out] at hR2
        have hk2 : Kept S wS w' := Kept.of_grown hg2 (fun g hg => by injection hg with hg; rw [← hg]; exact hF.1)
        have h9 : RdF wr B gr (rest.drop 4) (fun b => S b ∨ (wS.heap.size ≤ b ∧ b < w'.heap.size)) w' := rdF_of hR2 (.inl hF.1) (hC.step hk2 (fun b hb => (hS b hb).1)) hSB (by omega)
        exact ⟨_, rfl, rfl, hk2, h9⟩
      obtain rfl := hv; (go_simp; refine hK _ ?_; clear hK K)
      repeat (refine wpX_quiet (by rfl) (by rfl) (by rfl) (fun K hK => ?_); go_big_quiet_op; refine hK _ ?_; clear hK K)
      refine wpX_loud (us := []) (by rfl) (by rfl) (fun S wS hC hS hU => ?_) (fun v hv K hK => ?_)
      · exact runs_value (by go_simp <;> rfl) (made_x rfl (Nat.le_trans hB8 hC.size) (by rfl) (by rfl) (by omega) (by omega))
      obtain ⟨A6, c6, rfl⟩ := hv; (go_simp; refine hK _ ?_; clear hK K)
      repeat (refine wpX_quiet (by rfl) (by rfl) (by rfl) (fun K hK => ?_); go_big_quiet_op; refine hK _ ?_; clear hK K)
      refine wpX_loud (us := [101, 7]) (by rfl) (by rfl) (fun S wS hC hS hU => ?_) (fun v hv K hK => ?_)
      · exact appS_x (.tmp 61) (.tmp 64) st_u32 (by rfl) (by rfl) (by rfl) (hU 101 (by simp)) (own_sl (hU 7 (by simp)).2) (U32_one _) (by simp [maxLen]; omega) (by omega) (Nat.le_trans hB8 hC.size) (U32_append _ _)
      obtain ⟨A7, c7, rfl⟩ := hv; (go_simp; refine hK _ ?_; clear hK K)
      repeat (refine wpX_quiet (by rfl) (by rfl) (by rfl) (fun K hK => ?_); go_big_quiet_op; refine hK _ ?_; clear hK K)
      refine wpX_loud (us := [4, 8]) (by rfl) (by rfl) (fun S wS hC hS hU => ?_) (fun v hv K hK => ?_)
      · have hB : BlkF gl 63 (lsaC M none 0 0 A n c) S wS := hU 4 (by simp)
        have hO : OwnF w.heap.size 22 1 (n + 1) (U32 (done ++ [x0])) (.slice A7 (n + 1) c7) S wS := hU 8 (by simp)
        obtain ⟨hc, hf⟩ := blkF_cells hB
        unfold runs
        go_simp
        have hO9 := ownsRow_kept hO.2 (Kept.setCell (S := fun b => b = gl) (Kept.refl _ wS) (p := ⟨gl, 7, none⟩) (.inl rfl) (.slice A7 (n + 1) c7)) (fun g hg => by have := (hO.2.lt g hg).1; omega)
        have hB9 := blk_set hB.2 7 (.slice A7 (n + 1) c7)
        simp at hB9
        exact ⟨trivial, (Kept.refl _ _).setCell (.inl hB.1) _, A7, c7, ⟨.inl hB.1, hB9⟩, ⟨fun g hg => .inl (hO.1 g hg), hO9⟩⟩
      (go_simp; refine hK _ ?_; clear hK K)
      refine wpX_nil fun w9 hsat => ?_
      obtain ⟨S, hS, hfin⟩ := sat_get hsat 11
      obtain ⟨A', c', hb9, ho9⟩ := (hfin : ∃ A' c', BlkF gl 63 (lsaC M none 0 0 A' (n + 1) c') S w9 ∧ OwnF w.heap.size 22 1 (n + 1) (U32 (done ++ [x0])) (.slice A' (n + 1) c') S w9)
      obtain ⟨S2, _, hfin2⟩ := sat_get hsat 6
      have hrd9 := rdF_out (hfin2 : RdF wr B gr (rest.drop 4) S2 w9) hsat.1 hSB (by omega)
      have hkp9 := hI.kp.then hsat.1 (fun b hb h => by
        rcases h with ((h | h) | h) | h
        · exact h.elim
        · exact .inl h
        · have := (hown.lt _ h).1; omega
        · exact .inr h)
      have hm9 := hrd9.len
      have HM9 := hid hm9
      clear hm9 hsat hS hfin2
      go_wp2_with fail
      go_light
      refine ⟨⟨done ++ [x0], _, n + 1, A', c', ⟨hrd9, hb9.2, ho9.2, hkp9⟩, ?_, ?_⟩, ?_⟩
      · show _ = _
        rw [← HD.out, HLK.out]
        simp
      · simp
        omega
      · rw [HM9.out, HR0.out]
        simp
        omega
    · have h12' : n' < 4 := by omega
      have HN' := hid hn'
      clear hn'
      go_wp2_with fail
      go_end0
      have hD := HD.out
      rw [routersOf_no rest (by omega), List.append_nil] at hD
      refine ⟨rfl, A, n, c, ?_, ?_, freshA_own hI.own, hI.kp⟩
      · have := hI.hl
        rw [← HM.out] at this
        rw [HV.out]
        exact this
      · rw [HY.out, ← hD]
        exact own_sl hI.own

set_option maxRecDepth 100000 in
set_option maxHeartbeats 1600000 in
theorem body3 (L : Lsa) (B gl gr : Nat) (x : List UInt8) (w : World) (hL : w.heap[gl]? = some (.cells (lsaC L none 0 0 none 0 0) 63 (0, 0))) (hR : RdB B w gr x) (hBl : B ≤ gl) (hBr : B ≤ gr) (hne : gl ≠ gr) (hk : L.kty = 3) :
    Calls Try.prog 119 #[.pointer (some ⟨gl, 0, none⟩), .pointer (some ⟨gr, 0, none⟩)] w fun e w' => e = .returned (.tuple #[]) ∧
      w'.heap[gl]? = some (.cells (lsaC { L with mask := takeV x 4, cost := (takeV (takeR x 4) 4 : Nat) } none 0 0 none 0 0) 63 (0, 0)) ∧ Kept (fun b => b = gl ∨ b = gr) w w' := by
  have t1 : (L.kty == 1) = false := by rw [hk]; rfl
  have t2 : (L.kty == 2) = false := by rw [hk]; rfl
  have t3 : (L.kty == 3) = true := by rw [hk]; rfl
  have HK := hid hk
  clear hk
  have hltl := (Array.getElem?_eq_some_iff.1 hL).1
  have hltr : gr < w.heap.size := by obtain ⟨_, _, _, hb, _⟩ := hR; exact (Array.getElem?_eq_some_iff.1 hb).1
  obtain ⟨hcL, hfL⟩ := blk_cells hL
  have hV4 := takeV_bd x 4 (by omega)
  have hV8 := takeV_bd (takeR x 4) 4 (by omega)
  go_enter Try.func119, Try.ntmps119
  go_wp2_with fail
  refine (takeB_any B gr 4 x w hR hBr (by omega) (by omega)).mono ?_
  rintro e w1 ⟨rfl, hR1, hg1⟩
  have hL1 := blk_grown hL hg1 (by simp [hne])
  clear hcL hfL
  go_wp2_with fail
  refine (takeB_any B gr 4 _ w1 hR1 hBr (by omega) (by omega)).mono ?_
  rintro e w2 ⟨rfl, hR2, hg2⟩
  have hL2 := blk_grown hL1 hg2 (by simp [hne])
  have hk2 : Kept (fun b => b = gl ∨ b = gr) w w2 := ((Kept.of_row hg1).wider (S' := fun b => b = gl ∨ b = gr) (fun b hb => by injection hb with hb; exact .inr hb)).then (Kept.of_row hg2) (fun b _ hb => by injection hb with hb; exact .inr hb)
  obtain ⟨hcL, hfL⟩ := blk_cells hL2
  have hbd : ∀ v, (w2.setCell ⟨gl, 6, none⟩ v).cell? ⟨gl, 8, none⟩ = some (.int .i64 L.cost) := fun v => by
    have := blk_set hL2 6 v
    have := (blk_cells this).1 8
    simpa using this
  go_wp2_with fail
  go_end0
  refine ⟨rfl, ?_, ?_⟩
  · have := blk_set (blk_set hL2 6 (.int .u32 (takeV x 4 : Nat))) 8 (.int .i64 (takeV (takeR x 4) 4 : Nat))
    simpa using this
  · exact (hk2.setCell (p := ⟨gl, 6, none⟩) (.inl (.inl rfl)) _).setCell (p := ⟨gl, 8, none⟩) (.inl (.inl rfl)) _
set_option maxRecDepth 100000 in
set_option maxHeartbeats 800000 in
theorem body0 (L : Lsa) (gl gr : Nat) (w : World) (hL : w.heap[gl]? = some (.cells (lsaC L none 0 0 none 0 0) 63 (0, 0))) (h1 : L.kty ≠ 1) (h2 : L.kty ≠ 2) (h3 : L.kty ≠ 3) :
    Calls Try.prog 119 #[.pointer (some ⟨gl, 0, none⟩), .pointer (some ⟨gr, 0, none⟩)] w fun e w' => e = .returned (.tuple #[]) ∧ w = w' := by
  have t1 : (L.kty == 1) = false := by simpa using h1
  have t2 : (L.kty == 2) = false := by simpa using h2
  have t3 : (L.kty == 3) = false := by simpa using h3
  clear h1 h2 h3
  obtain ⟨hcL, hfL⟩ := blk_cells hL
  go_enter Try.func119, Try.ntmps119
  go_wp2_with fail
  go_end0
  exact ⟨rfl, rfl⟩

/-- **lsa.body** -/
theorem body_any (L : Lsa) (B gl gr : Nat) (x : List UInt8) (w : World) (hL : w.heap[gl]? = some (.cells (lsaC L none 0 0 none 0 0) 63 (0, 0))) (hR : RdB B w gr x) (hBl : B ≤ gl) (hBr : B ≤ gr) (hne : gl ≠ gr) (hx : x.length ≤ 1000000000)
    (e1 : L.links = []) (e2 : L.routers = []) :
    Calls Try.prog 119 #[.pointer (some ⟨gl, 0, none⟩), .pointer (some ⟨gr, 0, none⟩)] w fun e w' => e = .returned (.tuple #[]) ∧ ∃ A1 n1 c1 A2 n2 c2,
      w'.heap[gl]? = some (.cells (lsaC (bodyOf x L) A1 n1 c1 A2 n2 c2) 63 (0, 0)) ∧ IsLsa w' (bodyOf x L) A1 n1 c1 A2 n2 c2 ∧ FreshA w.heap.size A1 ∧ FreshA w.heap.size A2 ∧ Kept (fun b => b = gl ∨ b = gr) w w' := by
  have nil4 : ∀ w' : World, Sl w' 4 (.slice none 0 0) (LK []) := fun w' => sl_nil w' 4
  have nil1 : ∀ w' : World, Sl w' 1 (.slice none 0 0) (U32 []) := fun w' => sl_nil w' 1
  by_cases h1 : L.kty = 1
  · refine (body1 L B gl gr x w hL hR hBl hBr hne h1 hx).mono ?_
    rintro e w' ⟨rfl, A, n, c, h2, h3, hfA, h4⟩
    have hb : bodyOf x L = { L with links := linksOf (takeR x 4) } := by unfold bodyOf; rw [if_pos h1]
    rw [hb]
    exact ⟨rfl, A, n, c, none, 0, 0, h2, ⟨h3, by rw [show ({ L with links := linksOf (takeR x 4) } : Lsa).routers = [] from e2]; exact nil1 w'⟩, hfA, freshA_none _, h4⟩
  · by_cases h2 : L.kty = 2
    · refine (body2 L B gl gr x w hL hR hBl hBr hne h2 hx).mono ?_
      rintro e w' ⟨rfl, A, n, c, h3, h4, hfA, h5⟩
      have hb : bodyOf x L = { L with mask := takeV x 4, routers := routersOf (takeR x 4) } := by unfold bodyOf; rw [if_neg h1, if_pos h2]
      rw [hb]
      exact ⟨rfl, none, 0, 0, A, n, c, h3, ⟨by rw [show ({ L with mask := takeV x 4, routers := routersOf (takeR x 4) } : Lsa).links = [] from e1]; exact nil4 w', h4⟩, freshA_none _, hfA, h5⟩
    · by_cases h3 : L.kty = 3
      · refine (body3 L B gl gr x w hL hR hBl hBr hne h3).mono ?_
        rintro e w' ⟨rfl, h4, h5⟩
        have hb : bodyOf x L = { L with mask := takeV x 4, cost := (takeV (takeR x 4) 4 : Nat) } := by unfold bodyOf; rw [if_neg h1, if_neg h2, if_pos h3]
        rw [hb]
        exact ⟨rfl, none, 0, 0, none, 0, 0, h4, ⟨by rw [show ({ L with mask := takeV x 4, cost := (takeV (takeR x 4) 4 : Nat) } : Lsa).links = [] from e1]; exact nil4 w', by rw [show ({ L with mask := takeV x 4, cost := (takeV (takeR x 4) 4 : Nat) } : Lsa).routers = [] from e2]; exact nil1 w'⟩, freshA_none _, freshA_none _, h5⟩
      · refine (body0 L gl gr w hL h1 h2 h3).mono ?_
        rintro e w' ⟨rfl, rfl⟩
        have hb : bodyOf x L = L := by unfold bodyOf; rw [if_neg h1, if_neg h2, if_neg h3]
        rw [hb]
        exact ⟨rfl, none, 0, 0, none, 0, 0, hL, ⟨by rw [e1]; exact nil4 _, by rw [e2]; exact nil1 _⟩, freshA_none _, freshA_none _, Kept.refl _ _⟩
end Go.Proofs.Ytgopkpogakjckaa
