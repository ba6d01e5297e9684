/-
  Contract of packet's Get.
-/
import Derived.Test.YtgopkpogakjckaaPzA
import Derived.Test.YtgopkpogakjckaaPk9
import Derived.Test.YtgopkpogakjckaaRow
namespace Go.Proofs.Ytgopkpogakjckaa
set_option linter.unusedVariables false
set_option linter.unusedSimpArgs false
open Go Go.RowKit SM LM PK

def GetPPost (l : List UInt8) (s : ByteArray) (w : World) (e : Ending) (w' : World) : Prop :=
  ∃ A1 n1 c1 A2 n2 c2 A3 n3 c3 A4 n4 c4 R, e = .returned (.tuple #[.agg (pkC (getP l s) A1 n1 c1 A2 n2 c2 A3 n3 c3 A4 n4 c4), .int .i64 (getPE l s)]) ∧ IsPk w' (getP l s) A1 n1 c1 A2 n2 c2 A3 n3 c3 A4 n4 c4 R ∧ Below w.heap.size w w'
theorem pkC_one (P : Pkt) (A1 : Option Addr) (n1 c1 : Nat) (A2 : Option Addr) (n2 c2 : Nat) (A3 : Option Addr) (n3 c3 : Nat) (A4 : Option Addr) (n4 c4 : Nat) : (pkC P A1 n1 c1 A2 n2 c2 A3 n3 c3 A4 n4 c4).all (·.oneCell') = true := by simp [pkC, Value.oneCell']
theorem zeroC_one : zeroC.all (·.oneCell') = true := by simp [zeroC, Value.oneCell']
theorem isPk_zero (w : World) : IsPk w zeroP none 0 0 none 0 0 none 0 0 none 0 0 [] := ⟨nilU w, nil7 w, nil3 w, nil9 w _, rfl, by simp [zeroP]⟩
theorem getPPost_no {l : List UInt8} {s : ByteArray} {w w' : World} {k : Int} (h : getPE l s = k) (hk : k ≠ 0) (hb : Below w.heap.size w w') : GetPPost l s w (.returned (.tuple #[.agg (pkC zeroP none 0 0 none 0 0 none 0 0 none 0 0), .int .i64 k])) w' := by
  have hz : getP l s = zeroP := by unfold getP; rw [if_neg (by omega)]
  refine ⟨none, 0, 0, none, 0, 0, none, 0, 0, none, 0, 0, [], ?_, ?_, hb⟩
  · rw [hz, h]
  · rw [hz]; exact isPk_zero w'
theorem framed_bd (l : List UInt8) (s : ByteArray) : 0 ≤ framedE l s ∧ framedE l s ≤ 9 := by
  unfold framedE
  split <;> (try split) <;> (try split) <;> (try split) <;> omega
theorem tells_bd (y : List UInt8) (P : Pkt) : 0 ≤ tellsE y P ∧ tellsE y P ≤ 9 := by
  have hg : ∀ l, 0 ≤ getE l ∧ getE l ≤ 8 := fun l => by unfold getE; split <;> (try split) <;> (try split) <;> omega
  have hs : ∀ n l, 0 ≤ (lsasOf n l).1 ∧ (lsasOf n l).1 ≤ 8 := by
    intro n
    induction n with
    | zero => intro l; simp [lsasOf]
    | succ n ih =>
      intro l
      unfold lsasOf
      split
      · simp
      · split
        · exact hg _
        · exact ih _
  unfold tellsE
  split
  · unfold lsasE
    split
    · omega
    · have := hs (nv y 4) (y.drop 4); omega
  · omega
set_option maxRecDepth 100000 in
set_option maxHeartbeats 3200000 in
theorem pget_frame (A : Option Addr) (n c : Nat) (l : List UInt8) (s : ByteArray) (w : World) (h : Sl w 1 (.slice A n c) (B8 l)) (hm : n ≤ 100000)
    (hf : framedE l s ≠ 0) : Calls Try.prog 12 #[.slice A n c, .string s] w (GetPPost l s w) := by
  obtain ⟨hl1, hl2, hl3⟩ := h.len
  have HL := hid hl1
  clear hl1
  have HG : Hid (getPE l s = if framedE l s ≠ 0 then framedE l s else if tellsE (l.drop 24) (frontP l s) ≠ 0 then tellsE (l.drop 24) (frontP l s) else if rightR (wholeP l s) = true ∧ putP (wholeP l s) = l then 0 else 3) := rfl
  have hfb := framed_bd l s
  have hfn : framedE l s = 0 → 24 ≤ n := fun hh => by
    unfold framedE at hh
    rw [HL.out] at hh
    by_cases h24 : n < 24
    · rw [if_pos h24] at hh; omega
    · omega
  have h0 := h.alloc (.cells zeroC 40)
  have hb0 := heap_alloc_new w (.cells zeroC 40)
  have hbb0 := (Below.refl w.heap.size w).alloc (Nat.le_refl _) (.cells zeroC 40)
  have hz0 : (w.alloc (.cells zeroC 40)).heap.size = w.heap.size + 1 := by simp
  have hlt : ∀ ad, A = some ad → 0 < n → ad.block < w.heap.size := fun ad had hn => sl_ltP h hn ad had
  have HLT := hid hlt
  clear hlt h
  go_enter Try.func12, Try.ntmps12
  go_upto_region 1 with fail
  generalize w.alloc (.cells zeroC 40) = w0 at *
  go_wp2_with fail
  refine (framed_any A n c l s w0 h0 (by omega)).mono ?_
  rintro e w1 ⟨rfl, hb1⟩
  replace h0 := h0.below hb1
  replace hb0 := blk_below hb0 hb1 (blk_lt hb0)
  replace hbb0 := hbb0.trans (hb1.mono (by omega))
  have hz1 := hb1.size
  clear hb1
  have hE : getPE l s = framedE l s := by rw [HG.out, if_pos hf]
  have HE := hid hE
  have HF := hid hf
  have hfne : (framedE l s != 0) = true := by simpa using hf
  generalize framedE l s = fe at *
  clear hE hf hfn
  go_wp2_with (refine wpList_store_whole rfl 40 (.tmp 4) (.tmp 17) rfl zeroC rfl rfl hb0 (by kernel_rfl) rfl zeroC_one ?_)
  intro wz hgz hgrz
  have hbz := hbb0.trans ((Below.refl w.heap.size w1).grown hgrz hbb0.size (by intro k hk; injection hk with hk; omega))
  go_wp2_with fail
  exact ret_row2 (fn := Try.f12) (x := .int .i64 fe) (cs := zeroC) rfl rfl rfl hgz Try.underlying40 rfl (by kernel_rfl) rfl (getPPost_no HE.out HF.out hbz)
set_option maxRecDepth 100000 in
set_option maxHeartbeats 20000000 in
theorem pget_24 (A : Option Addr) (n c : Nat) (l : List UInt8) (s : ByteArray) (w : World) (h : Sl w 1 (.slice A n c) (B8 l)) (hm : n ≤ 100000)
    (hf : framedE l s = 0) (hc24 : c = 24) : Calls Try.prog 12 #[.slice A n c, .string s] w (GetPPost l s w) := by
  have HC24 := hid hc24
  clear hc24
  obtain ⟨hl1, hl2, hl3⟩ := h.len
  have HL := hid hl1
  clear hl1
  have HG : Hid (getPE l s = if framedE l s ≠ 0 then framedE l s else if tellsE (l.drop 24) (frontP l s) ≠ 0 then tellsE (l.drop 24) (frontP l s) else if rightR (wholeP l s) = true ∧ putP (wholeP l s) = l then 0 else 3) := rfl
  have hfb := framed_bd l s
  have hfn : framedE l s = 0 → 24 ≤ n := fun hh => by
    unfold framedE at hh
    rw [HL.out] at hh
    by_cases h24 : n < 24
    · rw [if_pos h24] at hh; omega
    · omega
  have h0 := h.alloc (.cells zeroC 40)
  have hb0 := heap_alloc_new w (.cells zeroC 40)
  have hbb0 := (Below.refl w.heap.size w).alloc (Nat.le_refl _) (.cells zeroC 40)
  have hz0 : (w.alloc (.cells zeroC 40)).heap.size = w.heap.size + 1 := by simp
  have hlt : ∀ ad, A = some ad → 0 < n → ad.block < w.heap.size := fun ad had hn => sl_ltP h hn ad had
  have HLT := hid hlt
  clear hlt h
  go_enter Try.func12, Try.ntmps12
  go_upto_region 1 with fail
  generalize w.alloc (.cells zeroC 40) = w0 at *
  go_wp2_with fail
  refine (framed_any A n c l s w0 h0 (by omega)).mono ?_
  rintro e w1 ⟨rfl, hb1⟩
  replace h0 := h0.below hb1
  replace hb0 := blk_below hb0 hb1 (blk_lt hb0)
  replace hbb0 := hbb0.trans (hb1.mono (by omega))
  have hz1 := hb1.size
  clear hb1
  have hn24 := hfn hf
  have hG2 : getPE l s = if tellsE (l.drop 24) (frontP l s) ≠ 0 then tellsE (l.drop 24) (frontP l s) else if rightR (wholeP l s) = true ∧ putP (wholeP l s) = l then 0 else 3 := by rw [HG.out, if_neg (by rw [hf]; simp)]
  have HG2 := hid hG2
  rw [hf]
  clear HG hf hfn hfb hG2
  obtain ⟨b, off, rfl, hbl, p1⟩ := h0.byte (k := 1) (by omega)
  have hbw := HLT.out _ rfl (by omega)
  simp only at hbw
  have hd4 := sl_drop h0 4 (by omega)
  rw [if_neg (by omega)] at hd4
  simp only [Option.map_some, addr_add] at hd4
  have hb1 := byt_lt l 1
  have e4 : takeV (l.drop 4) 4 = fld l 4 4 := takeV_fld l 4 4 (by rw [HL.out]; omega)
  have e8 : takeV (l.drop 8) 4 = fld l 8 4 := takeV_fld l 8 4 (by rw [HL.out]; omega)
  have r4 : takeR (l.drop 4) 4 = l.drop 8 := takeR_fld l 4 4 (by rw [HL.out]; omega)
  have r8 : takeR (l.drop 8) 4 = l.drop 12 := takeR_fld l 8 4 (by rw [HL.out]; omega)
  have E4 := hid e4
  have E8 := hid e8
  have R4 := hid r4
  have R8 := hid r8
  have B4 : Hid ((false || decide ((l.drop 4).length < 4)) = false) := by show _ = _; simp [HL.out]; omega
  have B8' : Hid ((false || decide ((l.drop 8).length < 4)) = false) := by show _ = _; simp [HL.out]; omega
  have f4 := fld_bd l 4 4 (by omega)
  have f8 := fld_bd l 8 4 (by omega)
  clear e4 e8 r4 r8
  go_upto_region 5 with fail
  have hR2 : RdP w.heap.size (w1.alloc (.cells #[.slice (some ⟨b, off + 4, none⟩) (n - 4) (c - 4), .bool false] 113)) w1.heap.size (l.drop 4) false :=
    ⟨_, _, _, heap_alloc_new w1 _, hd4.alloc _, fun ad had => by injection had with had; subst had; exact hbw⟩
  have h2 := h0.alloc (.cells #[.slice (some ⟨b, off + 4, none⟩) (n - 4) (c - 4), .bool false] 113)
  have hr2 := blk_alloc hb0 (.cells #[.slice (some ⟨b, off + 4, none⟩) (n - 4) (c - 4), .bool false] 113)
  have hbb2 := hbb0.alloc (by omega) (.cells #[.slice (some ⟨b, off + 4, none⟩) (n - 4) (c - 4), .bool false] 113)
  have hz2 : (w1.alloc (.cells #[.slice (some ⟨b, off + 4, none⟩) (n - 4) (c - 4), .bool false] 113)).heap.size = w1.heap.size + 1 := by simp
  have hp1 := (World.cell?_alloc_lt w1 (.cells #[.slice (some ⟨b, off + 4, none⟩) (n - 4) (c - 4), .bool false] 113) ⟨b, off + 1, none⟩ hbl).trans p1
  generalize w1.alloc (.cells #[.slice (some ⟨b, off + 4, none⟩) (n - 4) (c - 4), .bool false] 113) = w2 at *
  obtain ⟨gr, hgr⟩ : ∃ gr : Nat, gr = w1.heap.size := ⟨_, rfl⟩
  rw [← hgr] at hR2 hz2 ⊢
  have hgrw : w.heap.size < gr := by omega
  clear hgr p1 hd4 hb0 h0
  generalize hbt : byt l 1 = bt at *
  have HBT := hid hbt
  clear hbt
  generalize hfa : fld l 4 4 = fa at *
  have HFA := hid hfa
  clear hfa
  generalize hfb : fld l 8 4 = fb at *
  have HFB := hid hfb
  clear hfb
  have kp1 : ∀ x : WK (fun b' => False ∨ b' = gr) w2, (wat x).cell? ⟨b, off + 1, none⟩ = some (.int .u8 (bt : Int)) := fun x => (wat_cell (p := ⟨b, off + 1, none⟩) (by simp; omega) (by simp; omega) x).trans hp1
  have hSB : ∀ b', b' < w.heap.size → ¬ (False ∨ b' = gr) := fun b' hb' hh => by
    rcases hh with hh | hh
    · exact hh
    · omega
  refine wp_region_loud (fun b' => False ∨ b' = gr)
    [(5, factL [102] (fun v => v = .int .u32 (fa : Nat)) (fun _ => RdQ w2 w.heap.size gr (l.drop 8) false)), (7, factL [5] (fun v => v = .int .u32 (fb : Nat)) (fun _ => RdQ w2 w.heap.size gr (l.drop 12) false)),
     (10, newL 40 zeroC), (11, argL [10] (fun _ _ => True) (fun xs _ S w' => ∃ g, xs.head? = some (.pointer (some ⟨g, 0, none⟩)) ∧ BlkF g 40 (pkC (bareP (bt : Int) fa fb s) none 0 0 none 0 0 none 0 0 none 0 0) S w'))]
    (addL 102 (RdQ w2 w.heap.size gr (l.drop 4) false) (fun _ => Fact.none)) (by kernel_rfl) (by kernel_rfl)
    (.cons (factL_ok ⟨_, rfl⟩ (fun _ => good_rdQ _ _ _ _ _)) (.cons (factL_ok ⟨_, rfl⟩ (fun _ => good_rdQ _ _ _ _ _)) (.cons (newL_ok _ _) (.cons (argL_ok (fun _ => ⟨undef, trivial⟩) (fun xs _ S S' w w' h1 h2 ⟨g, h0, h3⟩ => ⟨g, h0, good_blk _ _ _ S S' w w' h1 h2 h3⟩)) .nil))))
    (good_add _ (good_rdQ _ _ _ _ _) good_nothing)
    (sat_add 102 sat_none (fun b _ h => h) (fun b' (hb : b' = gr) => by omega) (rdQ_in hR2)) (WX.out ?_)
  repeat (first | ((first | refine wx_quietU (by rfl) (by rfl) (by rfl) (fun K hK => ?_) | refine wx_quietG (by rfl) (by rfl) (by rfl) (by rfl) (by rfl) (fun K hK => ?_)); go_big_quiet_op; refine hK _ ?_; clear hK K) | ((first | refine wx_skipG (by rfl) (by rfl) (by rfl) (fun K hK => ?_) | refine wx_skipN (by rfl) (by rfl) (by rfl) (fun K hK => ?_)); go_simp; refine hK _ ?_; clear hK K))
  refine wx_loudU (us := [102]) (by rfl) (by rfl) (fun S wS hC hS hU => runs_enter (f := 47) (by go_simp <;> rfl) ?_) (fun v hv K hK => ?_)
  · have hF : RdQ w2 w.heap.size gr (l.drop 4) false S wS := hU 102 (by simp)
    refine (takeP_any w.heap.size gr 4 (l.drop 4) false wS (rdQ_out hF hC hSB (by omega)) (by omega) (by omega) (by omega)).mono ?_
    rintro e w' ⟨rfl, hR3, hg3⟩
    rw [E4.out]
    rw [R4.out, B4.out] at hR3
    have hk2 : Kept S wS w' := Kept.of_grown hg3 (fun g' hg' => by injection hg' with hg'; rw [← hg']; exact hF.1)
    have h9 : RdQ w2 w.heap.size gr (l.drop 8) false (fun b => S b ∨ (wS.heap.size ≤ b ∧ b < w'.heap.size)) w' := rdQ_of hR3 (.inl hF.1) (hC.step hk2 (fun b hb => (hS b hb).1)) hSB (by omega)
    exact ⟨_, rfl, rfl, hk2, h9⟩
  obtain rfl := hv; (go_simp; refine hK _ ?_; clear hK K)
  repeat (first | ((first | refine wx_quietU (by rfl) (by rfl) (by rfl) (fun K hK => ?_) | refine wx_quietG (by rfl) (by rfl) (by rfl) (by rfl) (by rfl) (fun K hK => ?_)); go_big_quiet_op; refine hK _ ?_; clear hK K) | ((first | refine wx_skipG (by rfl) (by rfl) (by rfl) (fun K hK => ?_) | refine wx_skipN (by rfl) (by rfl) (by rfl) (fun K hK => ?_)); go_simp; refine hK _ ?_; clear hK K))
  refine wx_loudU (us := [5]) (by rfl) (by rfl) (fun S wS hC hS hU => runs_enter (f := 47) (by go_simp <;> rfl) ?_) (fun v hv K hK => ?_)
  · have hF : RdQ w2 w.heap.size gr (l.drop 8) false S wS := hU 5 (by simp)
    refine (takeP_any w.heap.size gr 4 (l.drop 8) false wS (rdQ_out hF hC hSB (by omega)) (by omega) (by omega) (by omega)).mono ?_
    rintro e w' ⟨rfl, hR3, hg3⟩
    rw [E8.out]
    rw [R8.out, B8'.out] at hR3
    have hk2 : Kept S wS w' := Kept.of_grown hg3 (fun g' hg' => by injection hg' with hg'; rw [← hg']; exact hF.1)
    have h9 : RdQ w2 w.heap.size gr (l.drop 12) false (fun b => S b ∨ (wS.heap.size ≤ b ∧ b < w'.heap.size)) w' := rdQ_of hR3 (.inl hF.1) (hC.step hk2 (fun b hb => (hS b hb).1)) hSB (by omega)
    exact ⟨_, rfl, rfl, hk2, h9⟩
  obtain rfl := hv; (go_simp; refine hK _ ?_; clear hK K)
  repeat (first | ((first | refine wx_quietU (by rfl) (by rfl) (by rfl) (fun K hK => ?_) | refine wx_quietG (by rfl) (by rfl) (by rfl) (by rfl) (by rfl) (fun K hK => ?_)); go_big_quiet_op; refine hK _ ?_; clear hK K) | ((first | refine wx_skipG (by rfl) (by rfl) (by rfl) (fun K hK => ?_) | refine wx_skipN (by rfl) (by rfl) (by rfl) (fun K hK => ?_)); go_simp; refine hK _ ?_; clear hK K))
  refine wx_loudU (us := []) (by rfl) (by rfl) (fun S wS hC hS hU => ?_) (fun v hv K hK => ?_)
  · exact runs_value (by go_simp <;> rfl) (newB_x rfl)
  obtain ⟨gp, rfl⟩ := hv; (go_simp; refine hK _ ?_; clear hK K)
  repeat (first | ((first | refine wx_quietU (by rfl) (by rfl) (by rfl) (fun K hK => ?_) | refine wx_quietG (by rfl) (by rfl) (by rfl) (by rfl) (by rfl) (fun K hK => ?_)); go_big_quiet_op; refine hK _ ?_; clear hK K) | ((first | refine wx_skipG (by rfl) (by rfl) (by rfl) (fun K hK => ?_) | refine wx_skipN (by rfl) (by rfl) (by rfl) (fun K hK => ?_)); go_simp; refine hK _ ?_; clear hK K))
  refine wx_loudU (us := [10]) (by rfl) (by rfl) (fun S wS hC hS hU => ?_) (fun v hv K hK => ?_)
  · obtain ⟨g', e1, k23, k24⟩ := (hU 10 (by simp) : NewB 40 zeroC (.pointer (some ⟨gp, 0, none⟩)) S wS)
    injection e1 with e1
    injection e1 with e1
    injection e1 with e1
    subst e1
    obtain ⟨hc, hf⟩ := blk_cells k24
    have h9 := layPk_in k24 (bareP (bt : Int) fa fb s) none 0 0 none 0 0 none 0 0 none 0 0
    have h8 := Kept.of_grown (S := S) (layPk_grown wS gp (bareP (bt : Int) fa fb s) none 0 0 none 0 0 none 0 0 none 0 0) (fun g' hg' => by injection hg' with hg'; rw [← hg']; exact k23)
    refine runs_skip (by go_simp <;> rfl) ⟨trivial, h8, gp, rfl, .inl k23, h9⟩
  (go_simp; refine hK _ ?_; clear hK K)
  repeat (first | ((first | refine wx_quietU (by rfl) (by rfl) (by rfl) (fun K hK => ?_) | refine wx_quietG (by rfl) (by rfl) (by rfl) (by rfl) (by rfl) (fun K hK => ?_)); go_big_quiet_op; refine hK _ ?_; clear hK K) | ((first | refine wx_skipG (by rfl) (by rfl) (by rfl) (fun K hK => ?_) | refine wx_skipN (by rfl) (by rfl) (by rfl) (fun K hK => ?_)); go_simp; refine hK _ ?_; clear hK K))
  refine wx_nil fun w3 hsat => ?_
  obtain ⟨S11, hS11, hfin⟩ := sat_get hsat 11
  obtain ⟨gp', egp, hBp⟩ := (hfin : ∃ g, (some (Value.pointer (some ⟨gp, 0, none⟩))) = some (.pointer (some ⟨g, 0, none⟩)) ∧ BlkF g 40 (pkC (bareP (bt : Int) fa fb s) none 0 0 none 0 0 none 0 0 none 0 0) S11 w3)
  obtain rfl : gp' = gp := by
    injection egp with e1
    injection e1 with e1
    injection e1 with e1
    injection e1 with e1
    exact e1.symm
  have hgpw : w.heap.size < gp' := by
    rcases (hS11 _ hBp.1).1 with (h3 | h3) | h3
    · exact h3.elim
    · omega
    · omega
  have hK3 := hsat.1
  have hl3' := hBp.2
  have hgp3 := blk_lt hl3'
  have hr3 := blk_kept hr2 hK3 (by rintro (h3 | h3); exact h3; omega)
  have hbb3 := hbb2.trans (hK3.below_of (B := w.heap.size) hbb2.size (fun b' hb' => by rcases hb' with h3 | h3; exact h3.elim; omega))
  have h3 := sl_kept h2 hK3 (fun ad had hs => by injection had with had; subst had; rcases hs with h3 | h3; exact h3; simp at h3; omega)
  have hz3 := hK3.size
  clear hsat hBp hS11 hK3 h2 hr2 hR2 hbb2 kp1 hp1 hSB
  have hd24 := sl_drop h3 24 (by omega)
  have hfront : Hid (frontP l s = bareP (bt : Int) fa fb s) := by show _ = _; rw [frontP_eq, HBT.out, HFA.out, HFB.out]
  have hwhole : Hid (wholeP l s = tellsP (l.drop 24) (bareP (bt : Int) fa fb s)) := by show _ = _; unfold wholeP; rw [hfront.out]
  have hwf := wholeP_wf l s
  have hc24 := HC24.out
  clear HC24
  subst hc24
  obtain rfl : n = 24 := by omega
  rw [if_pos rfl, Nat.sub_self] at hd24
  go_upto_region 6 with fail
  have hR4 : RdP w.heap.size (w3.alloc (.cells #[.slice (some ⟨b, off, none⟩) 0 0, .bool false] 113)) w3.heap.size (l.drop 24) false :=
    ⟨_, _, _, heap_alloc_new w3 _, hd24.alloc _, fun ad had => by injection had with had; subst had; exact hbw⟩
  have h4 := h3.alloc (.cells #[.slice (some ⟨b, off, none⟩) 0 0, .bool false] 113)
  have hr4 := blk_alloc hr3 (.cells #[.slice (some ⟨b, off, none⟩) 0 0, .bool false] 113)
  have hl4 := blk_alloc hl3' (.cells #[.slice (some ⟨b, off, none⟩) 0 0, .bool false] 113)
  have hbb4 := hbb3.alloc (by omega) (.cells #[.slice (some ⟨b, off, none⟩) 0 0, .bool false] 113)
  have hz4 : (w3.alloc (.cells #[.slice (some ⟨b, off, none⟩) 0 0, .bool false] 113)).heap.size = w3.heap.size + 1 := by simp
  go_wp2_with fail
  generalize w3.alloc (.cells #[.slice (some ⟨b, off, none⟩) 0 0, .bool false] 113) = w4 at *
  obtain ⟨g2, hg2⟩ : ∃ g2 : Nat, g2 = w3.heap.size := ⟨_, rfl⟩
  rw [← hg2] at hR4 hz4 ⊢
  have hg2w : w.heap.size < g2 := by omega
  have hg2p : gp' ≠ g2 := by omega
  clear hg2
  refine (tells_any (bt : Int) fa fb s w.heap.size gp' g2 (l.drop 24) w4 hl4 hR4 (by omega) (by omega) hg2p (by rw [List.length_drop, HL.out]; omega)).mono ?_
  rintro e w5 ⟨rfl, hK5, hok⟩
  have hr5 := blk_kept hr4 hK5 (by rintro (h5 | h5) <;> omega)
  have hbb5 := hbb4.trans (hK5.below_of (B := w.heap.size) hbb4.size (fun b' hb' => by rcases hb' with h5 | h5 <;> omega))
  have h5 := sl_kept h4 hK5 (fun ad had hs => by injection had with had; subst had; rcases hs with h5 | h5 <;> (simp at h5; omega))
  have hz5 := hK5.size
  have hE0 := HG2.out
  rw [hfront.out, hwhole.out] at hE0
  have HE0 := hid hE0
  have HOK := hid hok
  have htb := tells_bd (l.drop 24) (bareP (bt : Int) fa fb s)
  rw [hwhole.out] at hwf
  clear h3 h4 hr3 hr4 hl3' hl4 hbb3 hbb4 hR4 hd24 hK5 hE0 hok
  by_cases ht : tellsE (l.drop 24) (bareP (bt : Int) fa fb s) = 0
  rotate_left
  · have hE : getPE l s = tellsE (l.drop 24) (bareP (bt : Int) fa fb s) := by rw [HE0.out, if_pos ht]
    have HE := hid hE
    have HT := hid ht
    have hne : (tellsE (l.drop 24) (bareP (bt : Int) fa fb s) != 0) = true := by simpa using ht
    clear hE ht HE0 HOK
    generalize tellsE (l.drop 24) (bareP (bt : Int) fa fb s) = te at *
    as_aux_lemma =>
      go_wp2_with (refine wpList_store_whole rfl 40 (.tmp 4) (.tmp 40) rfl zeroC rfl rfl hr5 (by kernel_rfl) rfl zeroC_one ?_)
      intro wz hgz hgrz
      have hbz := hbb5.trans ((Below.refl w.heap.size w5).grown hgrz hbb5.size (by intro k hk; injection hk with hk; omega))
      go_wp2_with fail
      exact ret_row2 (fn := Try.f12) (x := .int .i64 te) (cs := zeroC) rfl rfl rfl hgz Try.underlying40 rfl (by kernel_rfl) rfl (getPPost_no HE.out HT.out hbz)
  obtain ⟨A1, n1, c1, A2, n2, c2, A3, n3, c3, A4, n4, c4, R, hl5, hP5, fA1, fA2, fA3, fA4, fR⟩ := HOK.out ht
  rw [ht]
  have hE : getPE l s = if rightR (tellsP (l.drop 24) (bareP (bt : Int) fa fb s)) = true ∧ putP (tellsP (l.drop 24) (bareP (bt : Int) fa fb s)) = l then 0 else 3 := by rw [HE0.out, if_neg (by rw [ht]; simp)]
  have HE := hid hE
  clear HE0 HOK hE ht htb
  have HW := hwhole
  generalize tellsP (l.drop 24) (bareP (bt : Int) fa fb s) = P at *
  have HPN := fun w h => hid (pPut_no P A1 n1 c1 A2 n2 c2 A3 n3 c3 A4 n4 c4 R w h hwf)
  have HPY := fun w h => hid (pPut_yes P A1 n1 c1 A2 n2 c2 A3 n3 c3 A4 n4 c4 R w h hwf)
  have HWF := hid hwf
  clear hwf
  obtain ⟨ty, router, area, auth, mask, intv, dead, prio, dr, bdr, nbs, flags, seq, heads, keys, lsas⟩ := P
  go_wp2_with (refine wpList_load_row rfl 40 (.tmp 8) rfl gp' rfl 40 (pkC ⟨ty, router, area, auth, mask, intv, dead, prio, dr, bdr, nbs, flags, seq, heads, keys, lsas⟩ A1 n1 c1 A2 n2 c2 A3 n3 c3 A4 n4 c4) (0, 0) _ hl5 Try.underlying40 rfl (by kernel_rfl) ?_)
  cases hR : rightR ⟨ty, router, area, auth, mask, intv, dead, prio, dr, bdr, nbs, flags, seq, heads, keys, lsas⟩
  · have HRR := hid hR
    clear hR
    refine ((HPN _ hP5).out HRR.out).mono ?_
    rintro e w6 ⟨rfl, hb6⟩
    have hr6 := blk_below hr5 hb6 (blk_lt hr5)
    have hbb6 := hbb5.trans (hb6.mono (by omega))
    have hE3 : getPE l s = 3 := by rw [HE.out, if_neg (by rw [HRR.out]; simp)]
    have HE3 := hid hE3
    clear HE hE3
    as_aux_lemma =>
      go_wp2_with (refine wpList_store_whole rfl 40 (.tmp 4) (.tmp 55) rfl zeroC rfl rfl hr6 (by kernel_rfl) rfl zeroC_one ?_)
      intro wz hgz hgrz
      have hbz := hbb6.trans ((Below.refl w.heap.size w6).grown hgrz hbb6.size (by intro k hk; injection hk with hk; omega))
      go_wp2_with fail
      exact ret_row2 (fn := Try.f12) (x := .int .i64 3) (cs := zeroC) rfl rfl rfl hgz Try.underlying40 rfl (by kernel_rfl) rfl (getPPost_no HE3.out (by omega) hbz)
  · have HRR := hid hR
    clear hR
    refine ((HPY _ hP5).out HRR.out).mono ?_
    rintro e w6 ⟨Ab, nb, cb, rfl, hown6, hb6⟩
    have hr6 := blk_below hr5 hb6 (blk_lt hr5)
    have hl6 := blk_below hl5 hb6 (blk_lt hl5)
    have hbb6 := hbb5.trans (hb6.mono (by omega))
    have h6 := h5.below hb6
    have hP6 := hP5.below hb6
    have hslb := own_sl hown6
    clear hown6 hP5
    go_wp2_with fail
    refine (bytesEqual_any _ _ _ _ _ _ (putP ⟨ty, router, area, auth, mask, intv, dead, prio, dr, bdr, nbs, flags, seq, heads, keys, lsas⟩) l w6 hslb h6).mono ?_
    rintro e w7 ⟨rfl, rfl⟩
    by_cases hq : putP ⟨ty, router, area, auth, mask, intv, dead, prio, dr, bdr, nbs, flags, seq, heads, keys, lsas⟩ = l
    · have hqb : (putP ⟨ty, router, area, auth, mask, intv, dead, prio, dr, bdr, nbs, flags, seq, heads, keys, lsas⟩ == l) = true := by simp [hq]
      rw [hqb]
      have hE3 : getPE l s = 0 := by rw [HE.out, if_pos ⟨HRR.out, hq⟩]
      have HE3 := hid hE3
      clear hq hqb HE hE3
      as_aux_lemma =>
        go_wp2_with (first | refine wpList_load_row rfl 40 (.tmp 8) rfl gp' rfl 40 (pkC ⟨ty, router, area, auth, mask, intv, dead, prio, dr, bdr, nbs, flags, seq, heads, keys, lsas⟩ A1 n1 c1 A2 n2 c2 A3 n3 c3 A4 n4 c4) (0, 0) _ hl6 Try.underlying40 rfl (by kernel_rfl) ?_ | refine wpList_store_whole rfl 40 (.tmp 4) (.tmp 56) rfl (pkC ⟨ty, router, area, auth, mask, intv, dead, prio, dr, bdr, nbs, flags, seq, heads, keys, lsas⟩ A1 n1 c1 A2 n2 c2 A3 n3 c3 A4 n4 c4) rfl rfl hr6 (by kernel_rfl) rfl (pkC_one _ _ _ _ _ _ _ _ _ _ _ _ _) ?_)
        intro wz hgz hgrz
        have hgP : getP l s = ⟨ty, router, area, auth, mask, intv, dead, prio, dr, bdr, nbs, flags, seq, heads, keys, lsas⟩ := by unfold getP; rw [if_pos HE3.out]; exact HW.out
        have hK : Kept (fun b' => b' = w.heap.size) w6 wz := Kept.of_grown hgrz (fun b' hb' => by injection hb' with hb'; exact hb'.symm)
        have hbf : Below w.heap.size w wz := hbb6.trans ((Below.refl w.heap.size w6).grown hgrz hbb6.size (by intro k hk; injection hk with hk; omega))
        have hPf : IsPk wz ⟨ty, router, area, auth, mask, intv, dead, prio, dr, bdr, nbs, flags, seq, heads, keys, lsas⟩ A1 n1 c1 A2 n2 c2 A3 n3 c3 A4 n4 c4 R := by
          refine ⟨sl_kept hP6.nbs hK (fun ad had hs => by have := fA1 ad had; omega), sl_kept hP6.heads hK (fun ad had hs => by have := fA2 ad had; omega), sl_kept hP6.keys hK (fun ad had hs => by have := fA3 ad had; omega), sl_kept hP6.lsas hK (fun ad had hs => by have := fA4 ad had; omega), hP6.rl, fun q hq => ?_⟩
          have hq2 : q.2 ∈ R := (List.of_mem_zip (a := q.1) (b := q.2) hq).2
          have hi := hP6.each q hq
          exact ⟨sl_kept hi.links hK (fun ad had hs => by have := (fR _ hq2).1 ad had; omega), sl_kept hi.routers hK (fun ad had hs => by have := (fR _ hq2).2 ad had; omega)⟩
        go_wp2_with fail
        refine ret_row2 (fn := Try.f12) (x := .int .i64 0) (cs := pkC ⟨ty, router, area, auth, mask, intv, dead, prio, dr, bdr, nbs, flags, seq, heads, keys, lsas⟩ A1 n1 c1 A2 n2 c2 A3 n3 c3 A4 n4 c4) rfl rfl rfl hgz Try.underlying40 rfl (by kernel_rfl) rfl ?_
        have hfin : GetPPost l s w (.returned (.tuple #[.agg (pkC ⟨ty, router, area, auth, mask, intv, dead, prio, dr, bdr, nbs, flags, seq, heads, keys, lsas⟩ A1 n1 c1 A2 n2 c2 A3 n3 c3 A4 n4 c4), .int .i64 0])) wz := by
          unfold GetPPost
          rw [hgP, HE3.out]
          exact ⟨A1, n1, c1, A2, n2, c2, A3, n3, c3, A4, n4, c4, R, rfl, hPf, hbf⟩
        exact hfin
    · have hqb : (putP ⟨ty, router, area, auth, mask, intv, dead, prio, dr, bdr, nbs, flags, seq, heads, keys, lsas⟩ == l) = false := by simp [hq]
      rw [hqb]
      have hE3 : getPE l s = 3 := by rw [HE.out, if_neg (fun hh => hq hh.2)]
      have HE3 := hid hE3
      clear hq hqb HE hE3
      as_aux_lemma =>
        go_wp2_with (refine wpList_store_whole rfl 40 (.tmp 4) (.tmp 55) rfl zeroC rfl rfl hr6 (by kernel_rfl) rfl zeroC_one ?_)
        intro wz hgz hgrz
        have hbz := hbb6.trans ((Below.refl w.heap.size w6).grown hgrz hbb6.size (by intro k hk; injection hk with hk; omega))
        go_wp2_with fail
        exact ret_row2 (fn := Try.f12) (x := .int .i64 3) (cs := zeroC) rfl rfl rfl hgz Try.underlying40 rfl (by kernel_rfl) rfl (getPPost_no HE3.out (by omega) hbz)
set_option maxRecDepth 100000 in
set_option maxHeartbeats 20000000 in
theorem pget_more (A : Option Addr) (n c : Nat) (l : List UInt8) (s : ByteArray) (w : World) (h : Sl w 1 (.slice A n c) (B8 l)) (hm : n ≤ 100000)
    (hf : framedE l s = 0) (hc24 : c ≠ 24) : Calls Try.prog 12 #[.slice A n c, .string s] w (GetPPost l s w) := by
  have HC24 := hid hc24
  clear hc24
  obtain ⟨hl1, hl2, hl3⟩ := h.len
  have HL := hid hl1
  clear hl1
  have HG : Hid (getPE l s = if framedE l s ≠ 0 then framedE l s else if tellsE (l.drop 24) (frontP l s) ≠ 0 then tellsE (l.drop 24) (frontP l s) else if rightR (wholeP l s) = true ∧ putP (wholeP l s) = l then 0 else 3) := rfl
  have hfb := framed_bd l s
  have hfn : framedE l s = 0 → 24 ≤ n := fun hh => by
    unfold framedE at hh
    rw [HL.out] at hh
    by_cases h24 : n < 24
    · rw [if_pos h24] at hh; omega
    · omega
  have h0 := h.alloc (.cells zeroC 40)
  have hb0 := heap_alloc_new w (.cells zeroC 40)
  have hbb0 := (Below.refl w.heap.size w).alloc (Nat.le_refl _) (.cells zeroC 40)
  have hz0 : (w.alloc (.cells zeroC 40)).heap.size = w.heap.size + 1 := by simp
  have hlt : ∀ ad, A = some ad → 0 < n → ad.block < w.heap.size := fun ad had hn => sl_ltP h hn ad had
  have HLT := hid hlt
  clear hlt h
  go_enter Try.func12, Try.ntmps12
  go_upto_region 1 with fail
  generalize w.alloc (.cells zeroC 40) = w0 at *
  go_wp2_with fail
  refine (framed_any A n c l s w0 h0 (by omega)).mono ?_
  rintro e w1 ⟨rfl, hb1⟩
  replace h0 := h0.below hb1
  replace hb0 := blk_below hb0 hb1 (blk_lt hb0)
  replace hbb0 := hbb0.trans (hb1.mono (by omega))
  have hz1 := hb1.size
  clear hb1
  have hn24 := hfn hf
  have hG2 : getPE l s = if tellsE (l.drop 24) (frontP l s) ≠ 0 then tellsE (l.drop 24) (frontP l s) else if rightR (wholeP l s) = true ∧ putP (wholeP l s) = l then 0 else 3 := by rw [HG.out, if_neg (by rw [hf]; simp)]
  have HG2 := hid hG2
  rw [hf]
  clear HG hf hfn hfb hG2
  obtain ⟨b, off, rfl, hbl, p1⟩ := h0.byte (k := 1) (by omega)
  have hbw := HLT.out _ rfl (by omega)
  simp only at hbw
  have hd4 := sl_drop h0 4 (by omega)
  rw [if_neg (by omega)] at hd4
  simp only [Option.map_some, addr_add] at hd4
  have hb1 := byt_lt l 1
  have e4 : takeV (l.drop 4) 4 = fld l 4 4 := takeV_fld l 4 4 (by rw [HL.out]; omega)
  have e8 : takeV (l.drop 8) 4 = fld l 8 4 := takeV_fld l 8 4 (by rw [HL.out]; omega)
  have r4 : takeR (l.drop 4) 4 = l.drop 8 := takeR_fld l 4 4 (by rw [HL.out]; omega)
  have r8 : takeR (l.drop 8) 4 = l.drop 12 := takeR_fld l 8 4 (by rw [HL.out]; omega)
  have E4 := hid e4
  have E8 := hid e8
  have R4 := hid r4
  have R8 := hid r8
  have B4 : Hid ((false || decide ((l.drop 4).length < 4)) = false) := by show _ = _; simp [HL.out]; omega
  have B8' : Hid ((false || decide ((l.drop 8).length < 4)) = false) := by show _ = _; simp [HL.out]; omega
  have f4 := fld_bd l 4 4 (by omega)
  have f8 := fld_bd l 8 4 (by omega)
  clear e4 e8 r4 r8
  go_upto_region 5 with fail
  have hR2 : RdP w.heap.size (w1.alloc (.cells #[.slice (some ⟨b, off + 4, none⟩) (n - 4) (c - 4), .bool false] 113)) w1.heap.size (l.drop 4) false :=
    ⟨_, _, _, heap_alloc_new w1 _, hd4.alloc _, fun ad had => by injection had with had; subst had; exact hbw⟩
  have h2 := h0.alloc (.cells #[.slice (some ⟨b, off + 4, none⟩) (n - 4) (c - 4), .bool false] 113)
  have hr2 := blk_alloc hb0 (.cells #[.slice (some ⟨b, off + 4, none⟩) (n - 4) (c - 4), .bool false] 113)
  have hbb2 := hbb0.alloc (by omega) (.cells #[.slice (some ⟨b, off + 4, none⟩) (n - 4) (c - 4), .bool false] 113)
  have hz2 : (w1.alloc (.cells #[.slice (some ⟨b, off + 4, none⟩) (n - 4) (c - 4), .bool false] 113)).heap.size = w1.heap.size + 1 := by simp
  have hp1 := (World.cell?_alloc_lt w1 (.cells #[.slice (some ⟨b, off + 4, none⟩) (n - 4) (c - 4), .bool false] 113) ⟨b, off + 1, none⟩ hbl).trans p1
  generalize w1.alloc (.cells #[.slice (some ⟨b, off + 4, none⟩) (n - 4) (c - 4), .bool false] 113) = w2 at *
  obtain ⟨gr, hgr⟩ : ∃ gr : Nat, gr = w1.heap.size := ⟨_, rfl⟩
  rw [← hgr] at hR2 hz2 ⊢
  have hgrw : w.heap.size < gr := by omega
  clear hgr p1 hd4 hb0 h0
  generalize hbt : byt l 1 = bt at *
  have HBT := hid hbt
  clear hbt
  generalize hfa : fld l 4 4 = fa at *
  have HFA := hid hfa
  clear hfa
  generalize hfb : fld l 8 4 = fb at *
  have HFB := hid hfb
  clear hfb
  have kp1 : ∀ x : WK (fun b' => False ∨ b' = gr) w2, (wat x).cell? ⟨b, off + 1, none⟩ = some (.int .u8 (bt : Int)) := fun x => (wat_cell (p := ⟨b, off + 1, none⟩) (by simp; omega) (by simp; omega) x).trans hp1
  have hSB : ∀ b', b' < w.heap.size → ¬ (False ∨ b' = gr) := fun b' hb' hh => by
    rcases hh with hh | hh
    · exact hh
    · omega
  refine wp_region_loud (fun b' => False ∨ b' = gr)
    [(5, factL [102] (fun v => v = .int .u32 (fa : Nat)) (fun _ => RdQ w2 w.heap.size gr (l.drop 8) false)), (7, factL [5] (fun v => v = .int .u32 (fb : Nat)) (fun _ => RdQ w2 w.heap.size gr (l.drop 12) false)),
     (10, newL 40 zeroC), (11, argL [10] (fun _ _ => True) (fun xs _ S w' => ∃ g, xs.head? = some (.pointer (some ⟨g, 0, none⟩)) ∧ BlkF g 40 (pkC (bareP (bt : Int) fa fb s) none 0 0 none 0 0 none 0 0 none 0 0) S w'))]
    (addL 102 (RdQ w2 w.heap.size gr (l.drop 4) false) (fun _ => Fact.none)) (by kernel_rfl) (by kernel_rfl)
    (.cons (factL_ok ⟨_, rfl⟩ (fun _ => good_rdQ _ _ _ _ _)) (.cons (factL_ok ⟨_, rfl⟩ (fun _ => good_rdQ _ _ _ _ _)) (.cons (newL_ok _ _) (.cons (argL_ok (fun _ => ⟨undef, trivial⟩) (fun xs _ S S' w w' h1 h2 ⟨g, h0, h3⟩ => ⟨g, h0, good_blk _ _ _ S S' w w' h1 h2 h3⟩)) .nil))))
    (good_add _ (good_rdQ _ _ _ _ _) good_nothing)
    (sat_add 102 sat_none (fun b _ h => h) (fun b' (hb : b' = gr) => by omega) (rdQ_in hR2)) (WX.out ?_)
  repeat (first | ((first | refine wx_quietU (by rfl) (by rfl) (by rfl) (fun K hK => ?_) | refine wx_quietG (by rfl) (by rfl) (by rfl) (by rfl) (by rfl) (fun K hK => ?_)); go_big_quiet_op; refine hK _ ?_; clear hK K) | ((first | refine wx_skipG (by rfl) (by rfl) (by rfl) (fun K hK => ?_) | refine wx_skipN (by rfl) (by rfl) (by rfl) (fun K hK => ?_)); go_simp; refine hK _ ?_; clear hK K))
  refine wx_loudU (us := [102]) (by rfl) (by rfl) (fun S wS hC hS hU => runs_enter (f := 47) (by go_simp <;> rfl) ?_) (fun v hv K hK => ?_)
  · have hF : RdQ w2 w.heap.size gr (l.drop 4) false S wS := hU 102 (by simp)
    refine (takeP_any w.heap.size gr 4 (l.drop 4) false wS (rdQ_out hF hC hSB (by omega)) (by omega) (by omega) (by omega)).mono ?_
    rintro e w' ⟨rfl, hR3, hg3⟩
    rw [E4.out]
    rw [R4.out, B4.out] at hR3
    have hk2 : Kept S wS w' := Kept.of_grown hg3 (fun g' hg' => by injection hg' with hg'; rw [← hg']; exact hF.1)
    have h9 : RdQ w2 w.heap.size gr (l.drop 8) false (fun b => S b ∨ (wS.heap.size ≤ b ∧ b < w'.heap.size)) w' := rdQ_of hR3 (.inl hF.1) (hC.step hk2 (fun b hb => (hS b hb).1)) hSB (by omega)
    exact ⟨_, rfl, rfl, hk2, h9⟩
  obtain rfl := hv; (go_simp; refine hK _ ?_; clear hK K)
  repeat (first | ((first | refine wx_quietU (by rfl) (by rfl) (by rfl) (fun K hK => ?_) | refine wx_quietG (by rfl) (by rfl) (by rfl) (by rfl) (by rfl) (fun K hK => ?_)); go_big_quiet_op; refine hK _ ?_; clear hK K) | ((first | refine wx_skipG (by rfl) (by rfl) (by rfl) (fun K hK => ?_) | refine wx_skipN (by rfl) (by rfl) (by rfl) (fun K hK => ?_)); go_simp; refine hK _ ?_; clear hK K))
  refine wx_loudU (us := [5]) (by rfl) (by rfl) (fun S wS hC hS hU => runs_enter (f := 47) (by go_simp <;> rfl) ?_) (fun v hv K hK => ?_)
  · have hF : RdQ w2 w.heap.size gr (l.drop 8) false S wS := hU 5 (by simp)
    refine (takeP_any w.heap.size gr 4 (l.drop 8) false wS (rdQ_out hF hC hSB (by omega)) (by omega) (by omega) (by omega)).mono ?_
    rintro e w' ⟨rfl, hR3, hg3⟩
    rw [E8.out]
    rw [R8.out, B8'.out] at hR3
    have hk2 : Kept S wS w' := Kept.of_grown hg3 (fun g' hg' => by injection hg' with hg'; rw [← hg']; exact hF.1)
    have h9 : RdQ w2 w.heap.size gr (l.drop 12) false (fun b => S b ∨ (wS.heap.size ≤ b ∧ b < w'.heap.size)) w' := rdQ_of hR3 (.inl hF.1) (hC.step hk2 (fun b hb => (hS b hb).1)) hSB (by omega)
    exact ⟨_, rfl, rfl, hk2, h9⟩
  obtain rfl := hv; (go_simp; refine hK _ ?_; clear hK K)
  repeat (first | ((first | refine wx_quietU (by rfl) (by rfl) (by rfl) (fun K hK => ?_) | refine wx_quietG (by rfl) (by rfl) (by rfl) (by rfl) (by rfl) (fun K hK => ?_)); go_big_quiet_op; refine hK _ ?_; clear hK K) | ((first | refine wx_skipG (by rfl) (by rfl) (by rfl) (fun K hK => ?_) | refine wx_skipN (by rfl) (by rfl) (by rfl) (fun K hK => ?_)); go_simp; refine hK _ ?_; clear hK K))
  refine wx_loudU (us := []) (by rfl) (by rfl) (fun S wS hC hS hU => ?_) (fun v hv K hK => ?_)
  · exact runs_value (by go_simp <;> rfl) (newB_x rfl)
  obtain ⟨gp, rfl⟩ := hv; (go_simp; refine hK _ ?_; clear hK K)
  repeat (first | ((first | refine wx_quietU (by rfl) (by rfl) (by rfl) (fun K hK => ?_) | refine wx_quietG (by rfl) (by rfl) (by rfl) (by rfl) (by rfl) (fun K hK => ?_)); go_big_quiet_op; refine hK _ ?_; clear hK K) | ((first | refine wx_skipG (by rfl) (by rfl) (by rfl) (fun K hK => ?_) | refine wx_skipN (by rfl) (by rfl) (by rfl) (fun K hK => ?_)); go_simp; refine hK _ ?_; clear hK K))
  refine wx_loudU (us := [10]) (by rfl) (by rfl) (fun S wS hC hS hU => ?_) (fun v hv K hK => ?_)
  · obtain ⟨g', e1, k23, k24⟩ := (hU 10 (by simp) : NewB 40 zeroC (.pointer (some ⟨gp, 0, none⟩)) S wS)
    injection e1 with e1
    injection e1 with e1
    injection e1 with e1
    subst e1
    obtain ⟨hc, hf⟩ := blk_cells k24
    have h9 := layPk_in k24 (bareP (bt : Int) fa fb s) none 0 0 none 0 0 none 0 0 none 0 0
    have h8 := Kept.of_grown (S := S) (layPk_grown wS gp (bareP (bt : Int) fa fb s) none 0 0 none 0 0 none 0 0 none 0 0) (fun g' hg' => by injection hg' with hg'; rw [← hg']; exact k23)
    refine runs_skip (by go_simp <;> rfl) ⟨trivial, h8, gp, rfl, .inl k23, h9⟩
  (go_simp; refine hK _ ?_; clear hK K)
  repeat (first | ((first | refine wx_quietU (by rfl) (by rfl) (by rfl) (fun K hK => ?_) | refine wx_quietG (by rfl) (by rfl) (by rfl) (by rfl) (by rfl) (fun K hK => ?_)); go_big_quiet_op; refine hK _ ?_; clear hK K) | ((first | refine wx_skipG (by rfl) (by rfl) (by rfl) (fun K hK => ?_) | refine wx_skipN (by rfl) (by rfl) (by rfl) (fun K hK => ?_)); go_simp; refine hK _ ?_; clear hK K))
  refine wx_nil fun w3 hsat => ?_
  obtain ⟨S11, hS11, hfin⟩ := sat_get hsat 11
  obtain ⟨gp', egp, hBp⟩ := (hfin : ∃ g, (some (Value.pointer (some ⟨gp, 0, none⟩))) = some (.pointer (some ⟨g, 0, none⟩)) ∧ BlkF g 40 (pkC (bareP (bt : Int) fa fb s) none 0 0 none 0 0 none 0 0 none 0 0) S11 w3)
  obtain rfl : gp' = gp := by
    injection egp with e1
    injection e1 with e1
    injection e1 with e1
    injection e1 with e1
    exact e1.symm
  have hgpw : w.heap.size < gp' := by
    rcases (hS11 _ hBp.1).1 with (h3 | h3) | h3
    · exact h3.elim
    · omega
    · omega
  have hK3 := hsat.1
  have hl3' := hBp.2
  have hgp3 := blk_lt hl3'
  have hr3 := blk_kept hr2 hK3 (by rintro (h3 | h3); exact h3; omega)
  have hbb3 := hbb2.trans (hK3.below_of (B := w.heap.size) hbb2.size (fun b' hb' => by rcases hb' with h3 | h3; exact h3.elim; omega))
  have h3 := sl_kept h2 hK3 (fun ad had hs => by injection had with had; subst had; rcases hs with h3 | h3; exact h3; simp at h3; omega)
  have hz3 := hK3.size
  clear hsat hBp hS11 hK3 h2 hr2 hR2 hbb2 kp1 hp1 hSB
  have hd24 := sl_drop h3 24 (by omega)
  have hfront : Hid (frontP l s = bareP (bt : Int) fa fb s) := by show _ = _; rw [frontP_eq, HBT.out, HFA.out, HFB.out]
  have hwhole : Hid (wholeP l s = tellsP (l.drop 24) (bareP (bt : Int) fa fb s)) := by show _ = _; unfold wholeP; rw [hfront.out]
  have hwf := wholeP_wf l s
  rw [if_neg HC24.out] at hd24
  simp only [Option.map_some, addr_add] at hd24
  go_upto_region 6 with fail
  have hR4 : RdP w.heap.size (w3.alloc (.cells #[.slice (some ⟨b, off + 24, none⟩) (n - 24) (c - 24), .bool false] 113)) w3.heap.size (l.drop 24) false :=
    ⟨_, _, _, heap_alloc_new w3 _, hd24.alloc _, fun ad had => by injection had with had; subst had; exact hbw⟩
  have h4 := h3.alloc (.cells #[.slice (some ⟨b, off + 24, none⟩) (n - 24) (c - 24), .bool false] 113)
  have hr4 := blk_alloc hr3 (.cells #[.slice (some ⟨b, off + 24, none⟩) (n - 24) (c - 24), .bool false] 113)
  have hl4 := blk_alloc hl3' (.cells #[.slice (some ⟨b, off + 24, none⟩) (n - 24) (c - 24), .bool false] 113)
  have hbb4 := hbb3.alloc (by omega) (.cells #[.slice (some ⟨b, off + 24, none⟩) (n - 24) (c - 24), .bool false] 113)
  have hz4 : (w3.alloc (.cells #[.slice (some ⟨b, off + 24, none⟩) (n - 24) (c - 24), .bool false] 113)).heap.size = w3.heap.size + 1 := by simp
  go_wp2_with fail
  generalize w3.alloc (.cells #[.slice (some ⟨b, off + 24, none⟩) (n - 24) (c - 24), .bool false] 113) = w4 at *
  obtain ⟨g2, hg2⟩ : ∃ g2 : Nat, g2 = w3.heap.size := ⟨_, rfl⟩
  rw [← hg2] at hR4 hz4 ⊢
  have hg2w : w.heap.size < g2 := by omega
  have hg2p : gp' ≠ g2 := by omega
  clear hg2
  refine (tells_any (bt : Int) fa fb s w.heap.size gp' g2 (l.drop 24) w4 hl4 hR4 (by omega) (by omega) hg2p (by rw [List.length_drop, HL.out]; omega)).mono ?_
  rintro e w5 ⟨rfl, hK5, hok⟩
  have hr5 := blk_kept hr4 hK5 (by rintro (h5 | h5) <;> omega)
  have hbb5 := hbb4.trans (hK5.below_of (B := w.heap.size) hbb4.size (fun b' hb' => by rcases hb' with h5 | h5 <;> omega))
  have h5 := sl_kept h4 hK5 (fun ad had hs => by injection had with had; subst had; rcases hs with h5 | h5 <;> (simp at h5; omega))
  have hz5 := hK5.size
  have hE0 := HG2.out
  rw [hfront.out, hwhole.out] at hE0
  have HE0 := hid hE0
  have HOK := hid hok
  have htb := tells_bd (l.drop 24) (bareP (bt : Int) fa fb s)
  rw [hwhole.out] at hwf
  clear h3 h4 hr3 hr4 hl3' hl4 hbb3 hbb4 hR4 hd24 hK5 hE0 hok
  by_cases ht : tellsE (l.drop 24) (bareP (bt : Int) fa fb s) = 0
  rotate_left
  · have hE : getPE l s = tellsE (l.drop 24) (bareP (bt : Int) fa fb s) := by rw [HE0.out, if_pos ht]
    have HE := hid hE
    have HT := hid ht
    have hne : (tellsE (l.drop 24) (bareP (bt : Int) fa fb s) != 0) = true := by simpa using ht
    clear hE ht HE0 HOK
    generalize tellsE (l.drop 24) (bareP (bt : Int) fa fb s) = te at *
    as_aux_lemma =>
      go_wp2_with (refine wpList_store_whole rfl 40 (.tmp 4) (.tmp 40) rfl zeroC rfl rfl hr5 (by kernel_rfl) rfl zeroC_one ?_)
      intro wz hgz hgrz
      have hbz := hbb5.trans ((Below.refl w.heap.size w5).grown hgrz hbb5.size (by intro k hk; injection hk with hk; omega))
      go_wp2_with fail
      exact ret_row2 (fn := Try.f12) (x := .int .i64 te) (cs := zeroC) rfl rfl rfl hgz Try.underlying40 rfl (by kernel_rfl) rfl (getPPost_no HE.out HT.out hbz)
  obtain ⟨A1, n1, c1, A2, n2, c2, A3, n3, c3, A4, n4, c4, R, hl5, hP5, fA1, fA2, fA3, fA4, fR⟩ := HOK.out ht
  rw [ht]
  have hE : getPE l s = if rightR (tellsP (l.drop 24) (bareP (bt : Int) fa fb s)) = true ∧ putP (tellsP (l.drop 24) (bareP (bt : Int) fa fb s)) = l then 0 else 3 := by rw [HE0.out, if_neg (by rw [ht]; simp)]
  have HE := hid hE
  clear HE0 HOK hE ht htb
  have HW := hwhole
  generalize tellsP (l.drop 24) (bareP (bt : Int) fa fb s) = P at *
  have HPN := fun w h => hid (pPut_no P A1 n1 c1 A2 n2 c2 A3 n3 c3 A4 n4 c4 R w h hwf)
  have HPY := fun w h => hid (pPut_yes P A1 n1 c1 A2 n2 c2 A3 n3 c3 A4 n4 c4 R w h hwf)
  have HWF := hid hwf
  clear hwf
  obtain ⟨ty, router, area, auth, mask, intv, dead, prio, dr, bdr, nbs, flags, seq, heads, keys, lsas⟩ := P
  go_wp2_with (refine wpList_load_row rfl 40 (.tmp 8) rfl gp' rfl 40 (pkC ⟨ty, router, area, auth, mask, intv, dead, prio, dr, bdr, nbs, flags, seq, heads, keys, lsas⟩ A1 n1 c1 A2 n2 c2 A3 n3 c3 A4 n4 c4) (0, 0) _ hl5 Try.underlying40 rfl (by kernel_rfl) ?_)
  cases hR : rightR ⟨ty, router, area, auth, mask, intv, dead, prio, dr, bdr, nbs, flags, seq, heads, keys, lsas⟩
  · have HRR := hid hR
    clear hR
    refine ((HPN _ hP5).out HRR.out).mono ?_
    rintro e w6 ⟨rfl, hb6⟩
    have hr6 := blk_below hr5 hb6 (blk_lt hr5)
    have hbb6 := hbb5.trans (hb6.mono (by omega))
    have hE3 : getPE l s = 3 := by rw [HE.out, if_neg (by rw [HRR.out]; simp)]
    have HE3 := hid hE3
    clear HE hE3
    as_aux_lemma =>
      go_wp2_with (refine wpList_store_whole rfl 40 (.tmp 4) (.tmp 55) rfl zeroC rfl rfl hr6 (by kernel_rfl) rfl zeroC_one ?_)
      intro wz hgz hgrz
      have hbz := hbb6.trans ((Below.refl w.heap.size w6).grown hgrz hbb6.size (by intro k hk; injection hk with hk; omega))
      go_wp2_with fail
      exact ret_row2 (fn := Try.f12) (x := .int .i64 3) (cs := zeroC) rfl rfl rfl hgz Try.underlying40 rfl (by kernel_rfl) rfl (getPPost_no HE3.out (by omega) hbz)
  · have HRR := hid hR
    clear hR
    refine ((HPY _ hP5).out HRR.out).mono ?_
    rintro e w6 ⟨Ab, nb, cb, rfl, hown6, hb6⟩
    have hr6 := blk_below hr5 hb6 (blk_lt hr5)
    have hl6 := blk_below hl5 hb6 (blk_lt hl5)
    have hbb6 := hbb5.trans (hb6.mono (by omega))
    have h6 := h5.below hb6
    have hP6 := hP5.below hb6
    have hslb := own_sl hown6
    clear hown6 hP5
    go_wp2_with fail
    refine (bytesEqual_any _ _ _ _ _ _ (putP ⟨ty, router, area, auth, mask, intv, dead, prio, dr, bdr, nbs, flags, seq, heads, keys, lsas⟩) l w6 hslb h6).mono ?_
    rintro e w7 ⟨rfl, rfl⟩
    by_cases hq : putP ⟨ty, router, area, auth, mask, intv, dead, prio, dr, bdr, nbs, flags, seq, heads, keys, lsas⟩ = l
    · have hqb : (putP ⟨ty, router, area, auth, mask, intv, dead, prio, dr, bdr, nbs, flags, seq, heads, keys, lsas⟩ == l) = true := by simp [hq]
      rw [hqb]
      have hE3 : getPE l s = 0 := by rw [HE.out, if_pos ⟨HRR.out, hq⟩]
      have HE3 := hid hE3
      clear hq hqb HE hE3
      as_aux_lemma =>
        go_wp2_with (first | refine wpList_load_row rfl 40 (.tmp 8) rfl gp' rfl 40 (pkC ⟨ty, router, area, auth, mask, intv, dead, prio, dr, bdr, nbs, flags, seq, heads, keys, lsas⟩ A1 n1 c1 A2 n2 c2 A3 n3 c3 A4 n4 c4) (0, 0) _ hl6 Try.underlying40 rfl (by kernel_rfl) ?_ | refine wpList_store_whole rfl 40 (.tmp 4) (.tmp 56) rfl (pkC ⟨ty, router, area, auth, mask, intv, dead, prio, dr, bdr, nbs, flags, seq, heads, keys, lsas⟩ A1 n1 c1 A2 n2 c2 A3 n3 c3 A4 n4 c4) rfl rfl hr6 (by kernel_rfl) rfl (pkC_one _ _ _ _ _ _ _ _ _ _ _ _ _) ?_)
        intro wz hgz hgrz
        have hgP : getP l s = ⟨ty, router, area, auth, mask, intv, dead, prio, dr, bdr, nbs, flags, seq, heads, keys, lsas⟩ := by unfold getP; rw [if_pos HE3.out]; exact HW.out
        have hK : Kept (fun b' => b' = w.heap.size) w6 wz := Kept.of_grown hgrz (fun b' hb' => by injection hb' with hb'; exact hb'.symm)
        have hbf : Below w.heap.size w wz := hbb6.trans ((Below.refl w.heap.size w6).grown hgrz hbb6.size (by intro k hk; injection hk with hk; omega))
        have hPf : IsPk wz ⟨ty, router, area, auth, mask, intv, dead, prio, dr, bdr, nbs, flags, seq, heads, keys, lsas⟩ A1 n1 c1 A2 n2 c2 A3 n3 c3 A4 n4 c4 R := by
          refine ⟨sl_kept hP6.nbs hK (fun ad had hs => by have := fA1 ad had; omega), sl_kept hP6.heads hK (fun ad had hs => by have := fA2 ad had; omega), sl_kept hP6.keys hK (fun ad had hs => by have := fA3 ad had; omega), sl_kept hP6.lsas hK (fun ad had hs => by have := fA4 ad had; omega), hP6.rl, fun q hq => ?_⟩
          have hq2 : q.2 ∈ R := (List.of_mem_zip (a := q.1) (b := q.2) hq).2
          have hi := hP6.each q hq
          exact ⟨sl_kept hi.links hK (fun ad had hs => by have := (fR _ hq2).1 ad had; omega), sl_kept hi.routers hK (fun ad had hs => by have := (fR _ hq2).2 ad had; omega)⟩
        go_wp2_with fail
        refine ret_row2 (fn := Try.f12) (x := .int .i64 0) (cs := pkC ⟨ty, router, area, auth, mask, intv, dead, prio, dr, bdr, nbs, flags, seq, heads, keys, lsas⟩ A1 n1 c1 A2 n2 c2 A3 n3 c3 A4 n4 c4) rfl rfl rfl hgz Try.underlying40 rfl (by kernel_rfl) rfl ?_
        have hfin : GetPPost l s w (.returned (.tuple #[.agg (pkC ⟨ty, router, area, auth, mask, intv, dead, prio, dr, bdr, nbs, flags, seq, heads, keys, lsas⟩ A1 n1 c1 A2 n2 c2 A3 n3 c3 A4 n4 c4), .int .i64 0])) wz := by
          unfold GetPPost
          rw [hgP, HE3.out]
          exact ⟨A1, n1, c1, A2, n2, c2, A3, n3, c3, A4, n4, c4, R, rfl, hPf, hbf⟩
        exact hfin
    · have hqb : (putP ⟨ty, router, area, auth, mask, intv, dead, prio, dr, bdr, nbs, flags, seq, heads, keys, lsas⟩ == l) = false := by simp [hq]
      rw [hqb]
      have hE3 : getPE l s = 3 := by rw [HE.out, if_neg (fun hh => hq hh.2)]
      have HE3 := hid hE3
      clear hq hqb HE hE3
      as_aux_lemma =>
        go_wp2_with (refine wpList_store_whole rfl 40 (.tmp 4) (.tmp 55) rfl zeroC rfl rfl hr6 (by kernel_rfl) rfl zeroC_one ?_)
        intro wz hgz hgrz
        have hbz := hbb6.trans ((Below.refl w.heap.size w6).grown hgrz hbb6.size (by intro k hk; injection hk with hk; omega))
        go_wp2_with fail
        exact ret_row2 (fn := Try.f12) (x := .int .i64 3) (cs := zeroC) rfl rfl rfl hgz Try.underlying40 rfl (by kernel_rfl) rfl (getPPost_no HE3.out (by omega) hbz)
theorem pget_any (A : Option Addr) (n c : Nat) (l : List UInt8) (s : ByteArray) (w : World) (h : Sl w 1 (.slice A n c) (B8 l)) (hm : n ≤ 100000) : Calls Try.prog 12 #[.slice A n c, .string s] w (GetPPost l s w) := by
  by_cases hf : framedE l s = 0
  · by_cases hc24 : c = 24
    · exact pget_24 A n c l s w h hm hf hc24
    · exact pget_more A n c l s w h hm hf hc24
  · exact pget_frame A n c l s w h hm hf
end Go.Proofs.Ytgopkpogakjckaa
