/-
  The contract of the reference's Get (layer 11).
-/
import Derived.Test.YtgopkpogakjckaaPkH
import Derived.Test.YtgopkpogakjckaaPkN
import Derived.Test.YtgopkpogakjckaaPkJ
import Derived.Test.YtgopkpogakjckaaPkS
import Derived.Test.YtgopkpogakjckaaPkU
import Derived.Test.YtgopkpogakjckaaLg4
import Derived.Test.YtgopkpogakjckaaStr
import Derived.Great.BuildSlice
import Derived.Deep.MidRow
namespace Go.Proofs.Ytgopkpogakjckaa
set_option linter.unusedVariables false
set_option linter.unusedSimpArgs false
open Go Go.RowKit SM LM PK

theorem i64n (k : Nat) (h : k < 4294967296) : IntKind.i64.wrap (k : Int) = (k : Int) := IntWalk.i64_in _ (by omega)
theorem runs_buildV {P : Program} {o : Oper} {a : Act} {w : World} {R : Value → World → Prop} (t : TypeId) (parts : List (Nat × Operand)) (ho : o.op = .build t parts.toArray)
    (vals : List (Nat × Value)) (hv : parts.map (fun p => (p.1, a.eval p.2)) = vals) (cells : Array Value) (hf : P.built t vals = some cells) (h : R (.agg cells) w) : runs P o a w R :=
  runs_value (v := .agg cells) (w' := w) (by
    have e : (parts.toArray.map fun ((i, x) : Nat × Operand) => (i, a.eval x)).toList = vals := by rw [Array.toList_map]; exact hv
    unfold execOp
    simp only [ho, Sem.run_bind, run_build w t _ cells (by rw [e]; exact hf), Result.andThen_ok]
    rfl) h
theorem key_built3 (x0 x1 x2 : Nat) : (Try.prog).built 74 [(0, .int .i64 (x0 : Int)), (1, .int .u32 (x1 : Int)), (2, .int .u32 (x2 : Int))] = some #[.int .i64 (x0 : Int), .int .u32 (x1 : Int), .int .u32 (x2 : Int)] := by kernel_rfl
theorem gr_built (x0 x1 x2 q7 x4 x5 : Nat) : (Try.prog).built 25 [(0, .int .u32 (x0 : Int)), (1, .int .i64 (x1 : Int)), (3, .int .i64 (q7 : Int)), (2, .int .i64 (x2 : Int)), (4, .int .u32 (x4 : Int)), (5, .int .u32 (x5 : Int))] =
    some #[.int .u32 (x0 : Int), .int .i64 (x1 : Int), .int .i64 (x2 : Int), .int .i64 (q7 : Int), .int .u32 (x4 : Int), .int .u32 (x5 : Int), .slice none 0 0] := by kernel_rfl
theorem pkt_built (bt : Int) (fa fb : Nat) (s : ByteArray) : (Try.prog).built 30 [(0, .int .i64 bt), (1, .int .u32 (fa : Int)), (2, .int .u32 (fb : Int)), (3, .string s)] = some (pkC (bareP bt fa fb s) none 0 0 none 0 0 none 0 0 none 0 0) := by kernel_rfl
theorem runs_store_greet {P : Program} {o : Oper} {a : Act} {w : World} {R : Value → World → Prop} (ty : TypeId) (x y : Operand) (ho : o.op = .store ty x y) {g : Nat} {T : TypeId} {cs : Array Value} (a0 a1 a2 a3 a4 a5 a6 : Value)
    (hx : a.eval x = .pointer (some ⟨g, 4, none⟩)) (hy : a.eval y = .agg #[a0, a1, a2, a3, a4, a5, a6]) (hg : w.heap[g]? = some (.cells cs T (0, 0))) (hs : cs.size = 16) (hi : (P.info? ty).map (·.size) = some 7) (h1 : #[a0, a1, a2, a3, a4, a5, a6].all (·.oneCell') = true)
    (h : R undef (layG w g a0 a1 a2 a3 a4 a5 a6)) : runs P o a w R :=
  runs_skip (w' := layG w g a0 a1 a2 a3 a4 a5 a6) (by
    obtain ⟨hc, hf⟩ := blk_cells hg
    have ht : w.there g 4 (#[a0, a1, a2, a3, a4, a5, a6] : Array Value).size := fun j hj => ⟨by rw [hc]; simp at hj ⊢; omega, hf _⟩
    have hrun := run_storeAt_mid (P := P) w g 4 ty #[a0, a1, a2, a3, a4, a5, a6] ht hi h1
    unfold execOp
    simp only [ho, hx, hy, Sem.run_bind, hrun, Result.andThen_ok]
    rfl) h
theorem newB_get {S : Nat → Prop} {w : World} {g : Nat} {T : TypeId} {cs : Array Value} (h : NewB T cs (.pointer (some ⟨g, 0, none⟩)) S w) : BlkF g T cs S w := by
  obtain ⟨g', e1, k3, k4⟩ := h
  injection e1 with e1
  injection e1 with e1
  injection e1 with e1
  subst e1
  exact ⟨k3, k4⟩
theorem s8_ne (a b : List UInt8) : ((Value.string (S8 a)) = .string (S8 b)) ↔ a = b := by
  constructor
  · intro h
    injection h with h
    have := congrArg (fun x : ByteArray => x.data.toList) h
    simpa [S8] using this
  · intro h; rw [h]
theorem fld_take (l : List UInt8) (m o k : Nat) (h : o + k ≤ m) : fld (l.take m) o k = fld l o k := by
  unfold fld
  rw [List.drop_take, nv_take _ _ _ (by omega)]
theorem headC_take (l : List UInt8) : headC (l.take 20) = (hdC (hdOf l)).toArray := by
  unfold headC hdC hdOf sq
  simp only [fld_take l 20 0 2 (by omega), fld_take l 20 3 1 (by omega), fld_take l 20 4 4 (by omega), fld_take l 20 8 4 (by omega), fld_take l 20 12 4 (by omega), fld_take l 20 16 2 (by omega), fld_take l 20 18 2 (by omega)]
/-- a packet but for its heads, and they out of the bytes behind 'off' -/
def pq (P : Pkt) (y : List UInt8) (off : Nat) : Pkt := { P with heads := headsOf (y.drop off) }
/-- what is behind the switch -/
def Rsw (l : List UInt8) (s : ByteArray) (w8 : World) (g9 : Nat) (v10 v11 : Value) (wx : World) : Prop :=
  ∃ (P : Pkt) (YA : Option Addr) (ny cy off : Nat) (y : List UInt8) (A1 : Option Addr) (n1 c1 : Nat) (A3 : Option Addr) (n3 c3 : Nat) (A4 : Option Addr) (n4 c4 : Nat) (R : List LsR),
    v10 = .slice YA ny cy ∧ v11 = .int .i64 (off : Nat) ∧ ny ≤ 100000 ∧ off ≤ ny ∧ Sl wx 1 (.slice YA ny cy) (B8 y) ∧ (0 < ny → ∀ ad, YA = some ad → ad.block < w8.heap.size ∧ ad.block ≠ g9) ∧
    wx.heap[g9]? = some (.cells (pkC P A1 n1 c1 none 0 0 A3 n3 c3 A4 n4 c4) 30 (0, 0)) ∧ IsPk wx P A1 n1 c1 none 0 0 A3 n3 c3 A4 n4 c4 R ∧
    FreshA w8.heap.size A1 ∧ FreshA w8.heap.size A3 ∧ FreshA w8.heap.size A4 ∧ (∀ r ∈ R, FreshA w8.heap.size r.A1 ∧ FreshA w8.heap.size r.A2) ∧ Kept (fun b => b = g9) w8 wx ∧ P.auth.size ≤ 9223372036854775807 ∧
    Hid (getPE l s = if rightR (pq P y off) = true ∧ putP (pq P y off) = l then 0 else 3) ∧ Hid (getPE l s = 0 → getP l s = pq P y off) ∧ Hid (rightR (pq P y off) = true → WfP (pq P y off))
theorem facts_whole {l : List UInt8} {s : ByteArray} {Q : Pkt} (hf : framedE l s = 0) (ht : tellsE (l.drop 24) (frontP l s) = 0) (hq : Q = wholeP l s) :
    (getPE l s = if rightR Q = true ∧ putP Q = l then 0 else 3) ∧ (getPE l s = 0 → getP l s = Q) ∧ (rightR Q = true → WfP Q) := by
  subst hq
  exact ⟨getPE_put l s hf ht, getP_whole l s, fun _ => wholeP_wf l s⟩
theorem facts_odd {l : List UInt8} {s : ByteArray} {Q : Pkt} (hf : framedE l s = 0) (ht : byt l 1 < 1 ∨ 5 < byt l 1) (hq : Q.ty = (byt l 1 : Nat)) :
    (getPE l s = if rightR Q = true ∧ putP Q = l then 0 else 3) ∧ (getPE l s = 0 → getP l s = Q) ∧ (rightR Q = true → WfP Q) := by
  have h3 := odd_getPE l s hf ht
  have hr : rightR Q = false := rightR_odd Q (by rw [hq]; omega)
  refine ⟨by rw [h3, hr]; simp, fun h => by rw [h3] at h; omega, fun h => by rw [hr] at h; cases h⟩
theorem isPk_empty (w : World) (P : Pkt) (h1 : P.nbs = []) (h2 : P.heads = []) (h3 : P.keys = []) (h4 : P.lsas = []) : IsPk w P none 0 0 none 0 0 none 0 0 none 0 0 [] :=
  ⟨by rw [h1]; exact nilU w, by rw [h2]; exact nil7 w, by rw [h3]; exact nil3 w, by rw [h4]; exact nil9 w _, by rw [h4]; rfl, fun p hp => by rw [h4] at hp; simp at hp⟩
theorem isPk_bare (w : World) (bt : Int) (fa fb : Nat) (s : ByteArray) : IsPk w (bareP bt fa fb s) none 0 0 none 0 0 none 0 0 none 0 0 [] := ⟨nilU w, nil7 w, nil3 w, nil9 w _, rfl, by simp [bareP]⟩
set_option maxRecDepth 100000 in
set_option maxHeartbeats 20000000 in
theorem rget_any (A : Option Addr) (n c : Nat) (l : List UInt8) (s : ByteArray) (w : World) (h : Sl w 1 (.slice A n c) (B8 l)) (hm : n ≤ 100000) (hsz : s.size ≤ 9223372036854775807) :
    Calls Try.prog 13 #[.slice A n c, .string s] w (GetPPost l s w) := by
  obtain ⟨hl1, hl2, hl3⟩ := h.len
  have HL := hid hl1
  clear hl1
  have HG := hid (getPE_framed l s)
  have HF : Hid (framedE l s = if n < 24 then 4 else if byt l 0 ≠ 2 ∨ fld l 2 2 ≠ n then 3 else if fld l 12 2 ≠ sumP l then 8 else if fld l 14 2 ≠ kindP s ∨ (l.drop 16).take 8 ≠ key8 s ∨ 8 < s.size then 9 else 0) := by
    show _ = _
    unfold framedE
    rw [HL.out]
  have h0 := h.alloc (.cells zeroC 30)
  have hb0 := heap_alloc_new w (.cells zeroC 30)
  have hbb0 := (Below.refl w.heap.size w).alloc (Nat.le_refl _) (.cells zeroC 30)
  have hz0 : (w.alloc (.cells zeroC 30)).heap.size = w.heap.size + 1 := by simp
  have HLT : Hid (∀ ad, A = some ad → 0 < n → ad.block < w.heap.size) := fun ad had hn => sl_ltP h hn ad had
  clear h
  go_enter Try.func13, Try.ntmps13
  go_upto_region 1 with fail
  generalize w.alloc (.cells zeroC 30) = w0 at *
  by_cases hn24 : n < 24
  · have hE : framedE l s = 4 := by rw [HF.out, if_pos hn24]
    have HE : Hid (getPE l s = 4) := by show _ = _; rw [HG.out (by rw [hE]; decide), hE]
    clear hE
    as_aux_lemma =>
      go_wp2_with (refine wpList_store_whole rfl 30 (.tmp 4) (.tmp 25) rfl zeroC rfl rfl hb0 (by kernel_rfl) rfl zeroC_one ?_)
      intro wz hgz hgrz
      have hbz := hbb0.trans ((Below.refl w.heap.size w0).grown hgrz hbb0.size (by intro k hk; injection hk with hk; omega))
      go_wp2_with fail
      exact ret_row2 (fn := Try.f13) (x := .int .i64 4) (cs := zeroC) rfl rfl rfl hgz Try.underlying30 rfl (by kernel_rfl) rfl (getPPost_no HE.out (by omega) hbz)
  replace HF : Hid (framedE l s = if byt l 0 ≠ 2 ∨ fld l 2 2 ≠ n then 3 else if fld l 12 2 ≠ sumP l then 8 else if fld l 14 2 ≠ kindP s ∨ (l.drop 16).take 8 ≠ key8 s ∨ 8 < s.size then 9 else 0) := by
    show _ = _
    rw [HF.out, if_neg hn24]
  obtain ⟨b, off, rfl, hbl, p0⟩ := h0.byte (k := 0) (by omega)
  have hbw := HLT.out _ rfl (by omega)
  simp only at hbw
  clear HLT
  rw [Nat.add_zero] at p0
  by_cases h2 : byt l 0 = 2
  rotate_left
  · have hE : framedE l s = 3 := by rw [HF.out, if_pos (.inl h2)]
    have HE : Hid (getPE l s = 3) := by show _ = _; rw [HG.out (by rw [hE]; decide), hE]
    have t0 : ((byt l 0 : Int) != 2) = true := by simp; omega
    clear hE h2
    as_aux_lemma =>
      go_wp2_with (refine wpList_store_whole rfl 30 (.tmp 4) (.tmp 38) rfl zeroC rfl rfl hb0 (by kernel_rfl) rfl zeroC_one ?_)
      intro wz hgz hgrz
      have hbz := hbb0.trans ((Below.refl w.heap.size w0).grown hgrz hbb0.size (by intro k hk; injection hk with hk; omega))
      go_wp2_with fail
      exact ret_row2 (fn := Try.f13) (x := .int .i64 3) (cs := zeroC) rfl rfl rfl hgz Try.underlying30 rfl (by kernel_rfl) rfl (getPPost_no HE.out (by omega) hbz)
  have hm2 := sl_mid h0 2 4 (by omega) (by omega) (by omega)
  rw [h2] at p0
  have H2 := hid h2
  clear h2
  go_wp2_with fail
  refine (refNum_any _ 2 _ ((l.drop 2).take 2) w0 hm2 (by omega)).mono ?_
  rintro e wx ⟨rfl, rfl⟩
  rw [show nv ((l.drop 2).take 2) 2 = fld l 2 2 from nv_take _ 2 2 (by omega)]
  generalize hf2 : fld l 2 2 = f2 at *
  by_cases hfn : f2 = n
  rotate_left
  · have hE : framedE l s = 3 := by rw [HF.out, if_pos (.inr hfn)]
    have HE : Hid (getPE l s = 3) := by show _ = _; rw [HG.out (by rw [hE]; decide), hE]
    have t0 : ((f2 : Int) != (n : Int)) = true := by simp; omega
    clear hE hfn hf2
    as_aux_lemma =>
      go_wp2_with (refine wpList_store_whole rfl 30 (.tmp 4) (.tmp 38) rfl zeroC rfl rfl hb0 (by kernel_rfl) rfl zeroC_one ?_)
      intro wz hgz hgrz
      have hbz := hbb0.trans ((Below.refl w.heap.size wx).grown hgrz hbb0.size (by intro k hk; injection hk with hk; omega))
      go_wp2_with fail
      exact ret_row2 (fn := Try.f13) (x := .int .i64 3) (cs := zeroC) rfl rfl rfl hgz Try.underlying30 rfl (by kernel_rfl) rfl (getPPost_no HE.out (by omega) hbz)
  replace HF : Hid (framedE l s = if fld l 12 2 ≠ sumP l then 8 else if fld l 14 2 ≠ kindP s ∨ (l.drop 16).take 8 ≠ key8 s ∨ 8 < s.size then 9 else 0) := by
    show _ = _
    rw [HF.out, if_neg (by rw [H2.out, hfn]; simp)]
  have t0 : ((f2 : Int) != (n : Int)) = false := by rw [hfn]; simp
  have t0' : ((n : Int) != (n : Int)) = false := by simp
  subst hfn
  clear hf2 H2 t0 p0
  obtain ⟨w0, rfl⟩ : ∃ w0 : World, w0 = wx := ⟨_, rfl⟩
  as_aux_lemma =>
    go_upto_region 5 with fail
    go_cut [6] (fun v wr => ∃ g c', v = .slice (some ⟨g, 0, none⟩) (f2 - 8) c' ∧ w0.heap.size ≤ g ∧ g < wr.heap.size ∧ wr.ownsRow w0.heap.size 5 1 (.slice (some ⟨g, 0, none⟩) (f2 - 8) c') (f2 - 8) (B8 (l.take 16 ++ l.drop 24)) ∧ Below w0.heap.size w0 wr)
    case first =>
      have h1 := h0.take 16 (by omega)
      by_cases hc : c = 24
      · subst hc
        obtain rfl : f2 = 24 := by omega
        have h2 : Sl w0 1 (.slice (some ⟨b, off, none⟩) 0 0) (B8 (l.drop 24)) := by
          have hz : l.drop 24 = [] := List.eq_nil_of_length_eq_zero (by rw [List.length_drop, HL.out])
          rw [hz]
          exact ⟨_, _, _, rfl, rfl, Nat.le_refl _, by simp [maxLen], fun h => absurd h (by omega)⟩
        go_upto_region 5 with fail
        refine wp_region_loud (fun _ => False)
          [(0, rowL [] w0.heap.size 5 1 0 []), (3, rowL [0] w0.heap.size 5 1 16 (B8 (l.take 16))), (6, rowL [3] w0.heap.size 5 1 (16 + 0) (B8 (l.take 16 ++ l.drop 24)))]
          (fun _ => Fact.none) (by kernel_rfl) (by kernel_rfl) (.cons (rowL_ok _ _ _ _ _ _) (.cons (rowL_ok _ _ _ _ _ _) (.cons (rowL_ok _ _ _ _ _ _) .nil))) good_nothing sat_none (WX.out ?_)
        repeat (first | ((first | refine wx_quietU (by rfl) (by rfl) (by rfl) (fun K hK => ?_) | refine wx_quietG (by rfl) (by rfl) (by rfl) (by rfl) (by rfl) (fun K hK => ?_)); go_big_quiet_op; refine hK _ ?_; clear hK K) | ((first | refine wx_skipG (by rfl) (by rfl) (by rfl) (fun K hK => ?_) | refine wx_skipN (by rfl) (by rfl) (by rfl) (fun K hK => ?_)); go_simp; refine hK _ ?_; clear hK K))
        refine wx_loudU (us := []) (by rfl) (by rfl) (fun S wS hC hS hU => ?_) (fun v hv K hK => ?_)
        · exact runs_value (by go_simp <;> rfl) (made_x rfl hC.size (by rfl) (by rfl) (by omega) (by omega))
        obtain ⟨A4, c4, rfl⟩ := hv; (go_simp; refine hK _ ?_; clear hK K)
        repeat (first | ((first | refine wx_quietU (by rfl) (by rfl) (by rfl) (fun K hK => ?_) | refine wx_quietG (by rfl) (by rfl) (by rfl) (by rfl) (by rfl) (fun K hK => ?_)); go_big_quiet_op; refine hK _ ?_; clear hK K) | ((first | refine wx_skipG (by rfl) (by rfl) (by rfl) (fun K hK => ?_) | refine wx_skipN (by rfl) (by rfl) (by rfl) (fun K hK => ?_)); go_simp; refine hK _ ?_; clear hK K))
        refine wx_loudU (us := [0]) (by rfl) (by rfl) (fun S wS hC hS hU => ?_) (fun v hv K hK => ?_)
        · refine runs_mono (appS_x (zs := B8 (l.take 16)) (.tmp 39) (.tmp 41) st_bytes (by rfl) (by rfl) (by rfl) (hU 0 (by simp)) (by exact sl_kept0 h1 hC) (B8_one _) (by simp [maxLen]) (by omega) hC.size (by simp)) ?_
          intro v w' hL
          simp only [Nat.zero_add] at hL
          exact hL
        obtain ⟨A5, c5, rfl⟩ := hv; (go_simp; refine hK _ ?_; clear hK K)
        repeat (first | ((first | refine wx_quietU (by rfl) (by rfl) (by rfl) (fun K hK => ?_) | refine wx_quietG (by rfl) (by rfl) (by rfl) (by rfl) (by rfl) (fun K hK => ?_)); go_big_quiet_op; refine hK _ ?_; clear hK K) | ((first | refine wx_skipG (by rfl) (by rfl) (by rfl) (fun K hK => ?_) | refine wx_skipN (by rfl) (by rfl) (by rfl) (fun K hK => ?_)); go_simp; refine hK _ ?_; clear hK K))
        refine wx_loudU (us := [3]) (by rfl) (by rfl) (fun S wS hC hS hU => ?_) (fun v hv K hK => ?_)
        · exact appS_x (.tmp 42) (.tmp 44) st_bytes (by rfl) (by rfl) (by rfl) (hU 3 (by simp)) (by exact sl_kept0 h2 hC) (B8_one _) (by simp [maxLen] <;> omega) (by omega) hC.size (B8_append _ _)
        obtain ⟨A6, c6, rfl⟩ := hv; (go_simp; refine hK _ ?_; clear hK K)
        repeat (first | ((first | refine wx_quietU (by rfl) (by rfl) (by rfl) (fun K hK => ?_) | refine wx_quietG (by rfl) (by rfl) (by rfl) (by rfl) (by rfl) (fun K hK => ?_)); go_big_quiet_op; refine hK _ ?_; clear hK K) | ((first | refine wx_skipG (by rfl) (by rfl) (by rfl) (fun K hK => ?_) | refine wx_skipN (by rfl) (by rfl) (by rfl) (fun K hK => ?_)); go_simp; refine hK _ ?_; clear hK K))
        refine wx_nil fun w2 hsat => ?_
        have hown := sat_row hsat 6 (by rfl)
        have hb2 := sat_below hsat
        clear hsat
        go_wp2_with fail
        obtain ⟨g, rfl, hg1, hg2⟩ := own_some hown (by omega)
        go_meet
        all_goals go_light
        exact ⟨g, c6, rfl, hg1, hg2, hown, hb2⟩
      · have h2 : Sl w0 1 (.slice (some ⟨b, off + 24, none⟩) (f2 - 24) (c - 24)) (B8 (l.drop 24)) := by
          have := sl_drop h0 24 (by omega)
          rw [if_neg hc] at this
          simpa only [Option.map_some, addr_add] using this
        go_upto_region 5 with fail
        refine wp_region_loud (fun _ => False)
          [(0, rowL [] w0.heap.size 5 1 0 []), (3, rowL [0] w0.heap.size 5 1 16 (B8 (l.take 16))), (6, rowL [3] w0.heap.size 5 1 (16 + (f2 - 24)) (B8 (l.take 16 ++ l.drop 24)))]
          (fun _ => Fact.none) (by kernel_rfl) (by kernel_rfl) (.cons (rowL_ok _ _ _ _ _ _) (.cons (rowL_ok _ _ _ _ _ _) (.cons (rowL_ok _ _ _ _ _ _) .nil))) good_nothing sat_none (WX.out ?_)
        repeat (first | ((first | refine wx_quietU (by rfl) (by rfl) (by rfl) (fun K hK => ?_) | refine wx_quietG (by rfl) (by rfl) (by rfl) (by rfl) (by rfl) (fun K hK => ?_)); go_big_quiet_op; refine hK _ ?_; clear hK K) | ((first | refine wx_skipG (by rfl) (by rfl) (by rfl) (fun K hK => ?_) | refine wx_skipN (by rfl) (by rfl) (by rfl) (fun K hK => ?_)); go_simp; refine hK _ ?_; clear hK K))
        refine wx_loudU (us := []) (by rfl) (by rfl) (fun S wS hC hS hU => ?_) (fun v hv K hK => ?_)
        · exact runs_value (by go_simp <;> rfl) (made_x rfl hC.size (by rfl) (by rfl) (by omega) (by omega))
        obtain ⟨A4, c4, rfl⟩ := hv; (go_simp; refine hK _ ?_; clear hK K)
        repeat (first | ((first | refine wx_quietU (by rfl) (by rfl) (by rfl) (fun K hK => ?_) | refine wx_quietG (by rfl) (by rfl) (by rfl) (by rfl) (by rfl) (fun K hK => ?_)); go_big_quiet_op; refine hK _ ?_; clear hK K) | ((first | refine wx_skipG (by rfl) (by rfl) (by rfl) (fun K hK => ?_) | refine wx_skipN (by rfl) (by rfl) (by rfl) (fun K hK => ?_)); go_simp; refine hK _ ?_; clear hK K))
        refine wx_loudU (us := [0]) (by rfl) (by rfl) (fun S wS hC hS hU => ?_) (fun v hv K hK => ?_)
        · refine runs_mono (appS_x (zs := B8 (l.take 16)) (.tmp 39) (.tmp 41) st_bytes (by rfl) (by rfl) (by rfl) (hU 0 (by simp)) (by exact sl_kept0 h1 hC) (B8_one _) (by simp [maxLen]) (by omega) hC.size (by simp)) ?_
          intro v w' hL
          simp only [Nat.zero_add] at hL
          exact hL
        obtain ⟨A5, c5, rfl⟩ := hv; (go_simp; refine hK _ ?_; clear hK K)
        repeat (first | ((first | refine wx_quietU (by rfl) (by rfl) (by rfl) (fun K hK => ?_) | refine wx_quietG (by rfl) (by rfl) (by rfl) (by rfl) (by rfl) (fun K hK => ?_)); go_big_quiet_op; refine hK _ ?_; clear hK K) | ((first | refine wx_skipG (by rfl) (by rfl) (by rfl) (fun K hK => ?_) | refine wx_skipN (by rfl) (by rfl) (by rfl) (fun K hK => ?_)); go_simp; refine hK _ ?_; clear hK K))
        refine wx_loudU (us := [3]) (by rfl) (by rfl) (fun S wS hC hS hU => ?_) (fun v hv K hK => ?_)
        · exact appS_x (.tmp 42) (.tmp 44) st_bytes (by rfl) (by rfl) (by rfl) (hU 3 (by simp)) (by exact sl_kept0 h2 hC) (B8_one _) (by simp [maxLen] <;> omega) (by omega) hC.size (B8_append _ _)
        obtain ⟨A6, c6, rfl⟩ := hv; (go_simp; refine hK _ ?_; clear hK K)
        repeat (first | ((first | refine wx_quietU (by rfl) (by rfl) (by rfl) (fun K hK => ?_) | refine wx_quietG (by rfl) (by rfl) (by rfl) (by rfl) (by rfl) (fun K hK => ?_)); go_big_quiet_op; refine hK _ ?_; clear hK K) | ((first | refine wx_skipG (by rfl) (by rfl) (by rfl) (fun K hK => ?_) | refine wx_skipN (by rfl) (by rfl) (by rfl) (fun K hK => ?_)); go_simp; refine hK _ ?_; clear hK K))
        refine wx_nil fun w2 hsat => ?_
        have hown := sat_row hsat 6 (by rfl)
        have hb2 := sat_below hsat
        clear hsat
        go_wp2_with fail
        obtain ⟨g, rfl, hg1, hg2⟩ := own_some hown (by omega)
        rw [show 16 + (f2 - 24) = f2 - 8 by omega] at hown ⊢
        go_meet
        all_goals go_light
        exact ⟨g, c6, rfl, hg1, hg2, hown, hb2⟩
    case rest =>
      obtain ⟨g, c', rfl, hg1, hg2, hown, hb2⟩ := hcut
      obtain ⟨w2, rfl⟩ : ∃ w2 : World, w2 = wc := ⟨_, rfl⟩
      as_aux_lemma =>
        obtain ⟨p0, p1⟩ := own_byte hown 12 (by omega)
        obtain ⟨p2, p3⟩ := own_byte hown 13 (by omega)
        have hown3 := ((hown.stored 12 (.int .u8 0)).1.stored 13 (.int .u8 0)).1
        have hs12 : Hid (((B8 (l.take 16 ++ l.drop 24)).set 12 (.int .u8 0)).set 13 (.int .u8 0) = B8 (sumL l)) := by
          show _ = _
          have e0 : (Value.int .u8 0) = .int .u8 ((0 : UInt8).toNat : Int) := rfl
          rw [e0, B8_set, B8_set]
          rfl
        rw [hs12.out] at hown3
        have hb3 := (hb2.setCell (p := ⟨g, 12, none⟩) hg1 (.int .u8 0)).setCell (p := ⟨g, 13, none⟩) hg1 (.int .u8 0)
        have h3 := h0.below hb3
        have hr3 := blk_below hb0 hb3 (blk_lt hb0)
        have hbb3 := hbb0.trans (hb3.mono (by omega))
        have hz3 := hb3.size
        have hsum3 := own_sl hown3
        go_upto_region 7 with fail
        clear hown hown3 hs12 hb2 hg2 p0 p1 p2 p3 h0 hb0 hbb0 hb3
        generalize (w2.setCell ⟨g, 12, none⟩ (.int .u8 0)).setCell ⟨g, 13, none⟩ (.int .u8 0) = w3 at *
        have hm12 := sl_mid h3 12 14 (by omega) (by omega) (by omega)
        have hb12 : fld l 12 2 < 65536 := nv_lt _ 2
        have hbsp : sumP l ≤ 65535 := by unfold sumP; exact inet_le _
        have HSP : Hid (inet (sumL l) = sumP l) := rfl
        generalize hf12 : fld l 12 2 = f12 at *
        have HF12 := hid hf12
        clear hf12
        generalize sumP l = sp at *
        refine wp_region_loud (fun _ => False) [(1, plainL [] (.int .u16 (sp : Int))), (5, plainL [] (.int .i64 (f12 : Int)))]
          (fun _ => Fact.none) (by kernel_rfl) (by kernel_rfl) (.cons (plainL_ok _ _) (.cons (plainL_ok _ _) .nil)) good_nothing sat_none (WX.out ?_)
        repeat (first | ((first | refine wx_quietU (by rfl) (by rfl) (by rfl) (fun K hK => ?_) | refine wx_quietG (by rfl) (by rfl) (by rfl) (by rfl) (by rfl) (fun K hK => ?_)); go_big_quiet_op; refine hK _ ?_; clear hK K) | ((first | refine wx_skipG (by rfl) (by rfl) (by rfl) (fun K hK => ?_) | refine wx_skipN (by rfl) (by rfl) (by rfl) (fun K hK => ?_)); go_simp; refine hK _ ?_; clear hK K))
        refine wx_loudU (us := []) (by rfl) (by rfl) (fun S wS hC hS hU => runs_enter (f := 45) (by go_simp <;> rfl) ?_) (fun v hv K hK => ?_)
        · refine (refInternet_any _ _ _ (sumL l) wS (by exact sl_kept0 hsum3 hC)).mono ?_
          rintro e w' ⟨rfl, rfl⟩
          exact ⟨_, rfl, congrArg (fun k : Nat => Value.int .u16 (k : Int)) HSP.out, Kept.refl _ _, trivial⟩
        obtain rfl := hv; (go_simp; refine hK _ ?_; clear hK K)
        repeat (first | ((first | refine wx_quietU (by rfl) (by rfl) (by rfl) (fun K hK => ?_) | refine wx_quietG (by rfl) (by rfl) (by rfl) (by rfl) (by rfl) (fun K hK => ?_)); go_big_quiet_op; refine hK _ ?_; clear hK K) | ((first | refine wx_skipG (by rfl) (by rfl) (by rfl) (fun K hK => ?_) | refine wx_skipN (by rfl) (by rfl) (by rfl) (fun K hK => ?_)); go_simp; refine hK _ ?_; clear hK K))
        refine wx_loudU (us := []) (by rfl) (by rfl) (fun S wS hC hS hU => runs_enter (f := 50) (by go_simp <;> rfl) ?_) (fun v hv K hK => ?_)
        · refine (refNum_any _ 2 _ ((l.drop 12).take 2) wS (by exact sl_kept0 hm12 hC) (by omega)).mono ?_
          rintro e w' ⟨rfl, rfl⟩
          exact ⟨_, rfl, congrArg (fun k : Nat => Value.int .i64 (k : Int)) ((nv_take (l.drop 12) 2 2 (by omega)).trans HF12.out), Kept.refl _ _, trivial⟩
        obtain rfl := hv; (go_simp; refine hK _ ?_; clear hK K)
        repeat (first | ((first | refine wx_quietU (by rfl) (by rfl) (by rfl) (fun K hK => ?_) | refine wx_quietG (by rfl) (by rfl) (by rfl) (by rfl) (by rfl) (fun K hK => ?_)); go_big_quiet_op; refine hK _ ?_; clear hK K) | ((first | refine wx_skipG (by rfl) (by rfl) (by rfl) (fun K hK => ?_) | refine wx_skipN (by rfl) (by rfl) (by rfl) (fun K hK => ?_)); go_simp; refine hK _ ?_; clear hK K))
        refine wx_nil fun w4 hsat => ?_
        have hb4 := sat_below hsat
        have h4 := h3.below hb4
        have hr4 := blk_below hr3 hb4 (blk_lt hr3)
        have hbb4 := hbb3.trans (hb4.mono (by omega))
        have hz4 := hb4.size
        clear hsat hsum3 hm12 h3 hr3 hbb3 hb4 HSP
        as_aux_lemma =>
          by_cases hfs : f12 = sp
          rotate_left
          · have hE : framedE l s = 8 := by rw [HF.out, if_pos hfs]
            have HE : Hid (getPE l s = 8) := by show _ = _; rw [HG.out (by rw [hE]; decide), hE]
            have t0 : ((sp : Int) != (f12 : Int)) = true := by simp; omega
            clear hE hfs
            as_aux_lemma =>
              go_wp2_with (refine wpList_store_whole rfl 30 (.tmp 4) (.tmp 57) rfl zeroC rfl rfl hr4 (by kernel_rfl) rfl zeroC_one ?_)
              intro wz hgz hgrz
              have hbz := hbb4.trans ((Below.refl w.heap.size w4).grown hgrz hbb4.size (by intro k hk; injection hk with hk; omega))
              go_wp2_with fail
              exact ret_row2 (fn := Try.f13) (x := .int .i64 8) (cs := zeroC) rfl rfl rfl hgz Try.underlying30 rfl (by kernel_rfl) rfl (getPPost_no HE.out (by omega) hbz)
          replace HF : Hid (framedE l s = if fld l 14 2 ≠ kindP s ∨ (l.drop 16).take 8 ≠ key8 s ∨ 8 < s.size then 9 else 0) := by
            show _ = _
            rw [HF.out, if_neg (by rw [hfs]; simp)]
          have t0 : ((sp : Int) != (f12 : Int)) = false := by rw [hfs]; simp
          clear hfs
          obtain ⟨wm, hmk, hownK, hbK⟩ := mk8 w4
          have hBm := hbK.size
          have h5 := h4.below hbK
          have hr5 := blk_below hr4 hbK (blk_lt hr4)
          have hbb5 := hbb4.trans (hbK.mono (by omega))
          have hgr4 : w.heap.size < w4.heap.size := by omega
          generalize hB0 : w4.heap.size = B at *
          go_wp2_with (with_reducible refine wpList_copy8 (o := ⟨some 61, _, _, _, _, _⟩) rfl (.tmp 59) (.tmp 60) 31 9 5 rfl Try.underlying31 info_u8s B B s rfl rfl hownK ?_)
          intro w5 z hownK2 hgK2
          have hbk2 := grown_below hownK hgK2 hBm
          have hslK := own_sl hownK2
          have h6 := h5.grown hgK2 (fun ad had => by injection had with had; subst had; simp; omega)
          have hr6 := blk_grown hr5 hgK2 (by simp; omega)
          have hbb6 := hbb5.trans (hbk2.mono (by omega))
          have hz6 : B < w5.heap.size := (hownK2.lt B rfl).2
          have hkd : kindP s ≤ 1 := by unfold kindP; split <;> omega
          clear hownK hgK2 hbK hmk hBm h5 hr5 hbb5 hbk2 h4 hr4 hbb4 hownK2
          clear hB0
          clear wm t0
          as_aux_lemma =>
            go_upto_if 63 with fail
            go_cut [8] (fun v wx => w5 = wx ∧ v = .int .i64 (kindP s : Nat))
            case first =>
              by_cases h0 : s.size = 0
              · have hs0 : s = ⟨#[]⟩ := by
                  cases s with | mk a => congr 1; exact Array.eq_empty_of_size_eq_zero h0
                have he : s.toList.isEmpty = true := by rw [hs0, ba_toList]; rfl
                have hkp : kindP s = 0 := by unfold kindP; rw [if_pos h0]
                have HKP := hid hkp
                clear hs0 hkp h0
                as_aux_lemma =>
                  go_wp2_with fail
                  all_goals go_meet
                  all_goals go_light
                  all_goals first | exact ⟨rfl, by rw [HKP.out]; rfl⟩ | (exfalso; rename_i hx; rw [he] at hx; simp at hx)
              · have he : s.toList.isEmpty = false := by
                  rw [ba_toList]
                  cases hq : s.data.toList with
                  | nil =>
                    exfalso
                    apply h0
                    have : s.data.toList.length = s.size := by rw [Array.length_toList]; rfl
                    rw [← this, hq]; rfl
                  | cons x l => rfl
                have hkp : kindP s = 1 := by unfold kindP; rw [if_neg h0]
                have HKP := hid hkp
                clear hkp h0
                as_aux_lemma =>
                  go_wp2_with fail
                  all_goals go_meet
                  all_goals go_light
                  all_goals first | exact ⟨rfl, by rw [HKP.out]; rfl⟩ | (exfalso; rename_i hx; rw [he] at hx; simp at hx)
            case rest =>
              obtain ⟨rfl, rfl⟩ := hcut
              as_aux_lemma =>
                have hm14 : Sl w5 1 (.slice (some ⟨b, off + 14, none⟩) 2 (c - 14)) (B8 ((l.drop 14).take 2)) := sl_mid h6 14 16 (by omega) (by omega) (by omega)
                have hm16 : Sl w5 1 (.slice (some ⟨b, off + 16, none⟩) 8 (c - 16)) (B8 ((l.drop 16).take 8)) := sl_mid h6 16 24 (by omega) (by omega) (by omega)
                have zK : ∀ z : WK (fun _ => False) w5, (convert 31 9 (.slice (some ⟨B, 0, none⟩) 8 8)).run Try.prog (wat z) = .ok (.string (S8 (key8 s))) (wat z) := fun z => bstr (hslK.below (wat_kept z).below)
                have z16 : ∀ z : WK (fun _ => False) w5, (convert 31 9 (.slice (some ⟨b, off + 16, none⟩) 8 (c - 16))).run Try.prog (wat z) = .ok (.string (S8 ((l.drop 16).take 8))) (wat z) := fun z => bstr (hm16.below (wat_kept z).below)
                clear hm16 hslK hz6
                have hb14 : fld l 14 2 < 65536 := nv_lt _ 2
                generalize hf14 : fld l 14 2 = f14 at *
                have HF14 := hid hf14
                clear hf14
                generalize (l.drop 16).take 8 = x16 at *
                generalize key8 s = K8 at *
                generalize kindP s = kd at *
                go_upto_region 14 with fail
                by_cases ha1 : f14 = kd
                rotate_left
                · have hE : framedE l s = 9 := by rw [HF.out, if_pos (.inl ha1)]
                  have HE : Hid (getPE l s = 9) := by show _ = _; rw [HG.out (by rw [hE]; decide), hE]
                  have t1 : ((f14 : Int) != (kd : Int)) = true := by simp; omega
                  clear hE ha1
                  as_aux_lemma =>
                    refine wp_region_loud (fun _ => False) [(2, plainL [] (.int .i64 (f14 : Int)))]
                      (fun _ => Fact.none) (by kernel_rfl) (by kernel_rfl) (.cons (plainL_ok _ _) .nil) good_nothing sat_none (WX.out ?_)
                    repeat (first | ((first | refine wx_quietU (by rfl) (by rfl) (by rfl) (fun K hK => ?_) | refine wx_quietG (by rfl) (by rfl) (by rfl) (by rfl) (by rfl) (fun K hK => ?_)); go_big_quiet_op; refine hK _ ?_; clear hK K) | ((first | refine wx_skipG (by rfl) (by rfl) (by rfl) (fun K hK => ?_) | refine wx_skipN (by rfl) (by rfl) (by rfl) (fun K hK => ?_)); go_simp; refine hK _ ?_; clear hK K))
                    refine wx_loudU (us := []) (by rfl) (by rfl) (fun S wS hC hS hU => runs_enter (f := 50) (by go_simp <;> rfl) ?_) (fun v hv K hK => ?_)
                    · refine (refNum_any _ 2 _ ((l.drop 14).take 2) wS (by exact sl_kept0 hm14 hC) (by omega)).mono ?_
                      rintro e w' ⟨rfl, rfl⟩
                      exact ⟨_, rfl, congrArg (fun k : Nat => Value.int .i64 (k : Int)) ((nv_take (l.drop 14) 2 2 (by omega)).trans HF14.out), Kept.refl _ _, trivial⟩
                    obtain rfl := hv; (go_simp; refine hK _ ?_; clear hK K)
                    repeat (first | ((first | refine wx_quietU (by rfl) (by rfl) (by rfl) (fun K hK => ?_) | refine wx_quietG (by rfl) (by rfl) (by rfl) (by rfl) (by rfl) (fun K hK => ?_)); go_big_quiet_op; refine hK _ ?_; clear hK K) | ((first | refine wx_skipG (by rfl) (by rfl) (by rfl) (fun K hK => ?_) | refine wx_skipN (by rfl) (by rfl) (by rfl) (fun K hK => ?_)); go_simp; refine hK _ ?_; clear hK K))
                    refine wx_nil fun w6 hsat => ?_
                    have hb7 := sat_below hsat
                    have h7 := h6.below hb7
                    have hr7 := blk_below hr6 hb7 (blk_lt hr6)
                    have hbb7 := hbb6.trans (hb7.mono hbb6.size)
                    have hz7 := hb7.size
                    clear hsat hm14 h6 hr6 hbb6 hb7 zK z16
                    go_wp2_with (refine wpList_store_whole rfl 30 (.tmp 4) (.tmp 82) rfl zeroC rfl rfl hr7 (by kernel_rfl) rfl zeroC_one ?_)
                    intro wz hgz hgrz
                    have hbz := hbb7.trans ((Below.refl w.heap.size w6).grown hgrz hbb7.size (by intro k hk; injection hk with hk; omega))
                    go_wp2_with fail
                    exact ret_row2 (fn := Try.f13) (x := .int .i64 9) (cs := zeroC) rfl rfl rfl hgz Try.underlying30 rfl (by kernel_rfl) rfl (getPPost_no HE.out (by omega) hbz)
                have t1 : ((f14 : Int) != (kd : Int)) = false := by rw [ha1]; simp
                have t1' : ((kd : Int) != (kd : Int)) = false := by simp
                have HA1 := hid ha1
                clear ha1
                by_cases ha2 : x16 = K8
                rotate_left
                · have hE : framedE l s = 9 := by rw [HF.out, if_pos (.inr (.inl ha2))]
                  have HE : Hid (getPE l s = 9) := by show _ = _; rw [HG.out (by rw [hE]; decide), hE]
                  have t2 : ((S8 x16).toList == (S8 K8).toList) = false := by simp only [ba_toList, S8]; simpa using ha2
                  have t3 : ((S8 x16).toList != (S8 K8).toList) = true := by simp only [ba_toList, S8]; simpa using ha2
                  clear hE ha2
                  as_aux_lemma =>
                    refine wp_region_loud (fun _ => False) [(2, plainL [] (.int .i64 (f14 : Int)))]
                      (fun _ => Fact.none) (by kernel_rfl) (by kernel_rfl) (.cons (plainL_ok _ _) .nil) good_nothing sat_none (WX.out ?_)
                    repeat (first | ((first | refine wx_quietU (by rfl) (by rfl) (by rfl) (fun K hK => ?_) | refine wx_quietG (by rfl) (by rfl) (by rfl) (by rfl) (by rfl) (fun K hK => ?_)); go_big_quiet_op; refine hK _ ?_; clear hK K) | ((first | refine wx_skipG (by rfl) (by rfl) (by rfl) (fun K hK => ?_) | refine wx_skipN (by rfl) (by rfl) (by rfl) (fun K hK => ?_)); go_simp; refine hK _ ?_; clear hK K))
                    refine wx_loudU (us := []) (by rfl) (by rfl) (fun S wS hC hS hU => runs_enter (f := 50) (by go_simp <;> rfl) ?_) (fun v hv K hK => ?_)
                    · refine (refNum_any _ 2 _ ((l.drop 14).take 2) wS (by exact sl_kept0 hm14 hC) (by omega)).mono ?_
                      rintro e w' ⟨rfl, rfl⟩
                      exact ⟨_, rfl, congrArg (fun k : Nat => Value.int .i64 (k : Int)) ((nv_take (l.drop 14) 2 2 (by omega)).trans HF14.out), Kept.refl _ _, trivial⟩
                    obtain rfl := hv; (go_simp; refine hK _ ?_; clear hK K)
                    repeat (first | ((first | refine wx_quietU (by rfl) (by rfl) (by rfl) (fun K hK => ?_) | refine wx_quietG (by rfl) (by rfl) (by rfl) (by rfl) (by rfl) (fun K hK => ?_)); go_big_quiet_op; refine hK _ ?_; clear hK K) | ((first | refine wx_skipG (by rfl) (by rfl) (by rfl) (fun K hK => ?_) | refine wx_skipN (by rfl) (by rfl) (by rfl) (fun K hK => ?_)); go_simp; refine hK _ ?_; clear hK K))
                    refine wx_nil fun w6 hsat => ?_
                    have hb7 := sat_below hsat
                    have h7 := h6.below hb7
                    have hr7 := blk_below hr6 hb7 (blk_lt hr6)
                    have hbb7 := hbb6.trans (hb7.mono hbb6.size)
                    have hz7 := hb7.size
                    clear hsat hm14 h6 hr6 hbb6 hb7 zK z16
                    go_wp2_with (refine wpList_store_whole rfl 30 (.tmp 4) (.tmp 82) rfl zeroC rfl rfl hr7 (by kernel_rfl) rfl zeroC_one ?_)
                    intro wz hgz hgrz
                    have hbz := hbb7.trans ((Below.refl w.heap.size w6).grown hgrz hbb7.size (by intro k hk; injection hk with hk; omega))
                    go_wp2_with fail
                    exact ret_row2 (fn := Try.f13) (x := .int .i64 9) (cs := zeroC) rfl rfl rfl hgz Try.underlying30 rfl (by kernel_rfl) rfl (getPPost_no HE.out (by omega) hbz)
                have t2 : ((S8 K8).toList == (S8 K8).toList) = true := by simp
                have t3 : ((S8 K8).toList != (S8 K8).toList) = false := by simp
                subst ha2
                by_cases ha3 : 8 < s.size
                · have hE : framedE l s = 9 := by rw [HF.out, if_pos (.inr (.inr ha3))]
                  have HE : Hid (getPE l s = 9) := by show _ = _; rw [HG.out (by rw [hE]; decide), hE]
                  have t4 : decide ((8 : Int) < (s.size : Int)) = true := by simp; omega
                  clear hE ha3
                  as_aux_lemma =>
                    refine wp_region_loud (fun _ => False) [(2, plainL [] (.int .i64 (f14 : Int)))]
                      (fun _ => Fact.none) (by kernel_rfl) (by kernel_rfl) (.cons (plainL_ok _ _) .nil) good_nothing sat_none (WX.out ?_)
                    repeat (first | ((first | refine wx_quietU (by rfl) (by rfl) (by rfl) (fun K hK => ?_) | refine wx_quietG (by rfl) (by rfl) (by rfl) (by rfl) (by rfl) (fun K hK => ?_)); go_big_quiet_op; refine hK _ ?_; clear hK K) | ((first | refine wx_skipG (by rfl) (by rfl) (by rfl) (fun K hK => ?_) | refine wx_skipN (by rfl) (by rfl) (by rfl) (fun K hK => ?_)); go_simp; refine hK _ ?_; clear hK K))
                    refine wx_loudU (us := []) (by rfl) (by rfl) (fun S wS hC hS hU => runs_enter (f := 50) (by go_simp <;> rfl) ?_) (fun v hv K hK => ?_)
                    · refine (refNum_any _ 2 _ ((l.drop 14).take 2) wS (by exact sl_kept0 hm14 hC) (by omega)).mono ?_
                      rintro e w' ⟨rfl, rfl⟩
                      exact ⟨_, rfl, congrArg (fun k : Nat => Value.int .i64 (k : Int)) ((nv_take (l.drop 14) 2 2 (by omega)).trans HF14.out), Kept.refl _ _, trivial⟩
                    obtain rfl := hv; (go_simp; refine hK _ ?_; clear hK K)
                    repeat (first | ((first | refine wx_quietU (by rfl) (by rfl) (by rfl) (fun K hK => ?_) | refine wx_quietG (by rfl) (by rfl) (by rfl) (by rfl) (by rfl) (fun K hK => ?_)); go_big_quiet_op; refine hK _ ?_; clear hK K) | ((first | refine wx_skipG (by rfl) (by rfl) (by rfl) (fun K hK => ?_) | refine wx_skipN (by rfl) (by rfl) (by rfl) (fun K hK => ?_)); go_simp; refine hK _ ?_; clear hK K))
                    refine wx_nil fun w6 hsat => ?_
                    have hb7 := sat_below hsat
                    have h7 := h6.below hb7
                    have hr7 := blk_below hr6 hb7 (blk_lt hr6)
                    have hbb7 := hbb6.trans (hb7.mono hbb6.size)
                    have hz7 := hb7.size
                    clear hsat hm14 h6 hr6 hbb6 hb7 zK z16
                    go_wp2_with (refine wpList_store_whole rfl 30 (.tmp 4) (.tmp 82) rfl zeroC rfl rfl hr7 (by kernel_rfl) rfl zeroC_one ?_)
                    intro wz hgz hgrz
                    have hbz := hbb7.trans ((Below.refl w.heap.size w6).grown hgrz hbb7.size (by intro k hk; injection hk with hk; omega))
                    go_wp2_with fail
                    exact ret_row2 (fn := Try.f13) (x := .int .i64 9) (cs := zeroC) rfl rfl rfl hgz Try.underlying30 rfl (by kernel_rfl) rfl (getPPost_no HE.out (by omega) hbz)
                have t4 : decide ((8 : Int) < (s.size : Int)) = false := by simp; omega
                have hE : framedE l s = 0 := by rw [HF.out, if_neg (by rw [HA1.out]; simp; omega)]
                have HE := hid hE
                clear hE HG HF
                refine wp_region_loud (fun _ => False) [(2, plainL [] (.int .i64 (f14 : Int)))]
                  (fun _ => Fact.none) (by kernel_rfl) (by kernel_rfl) (.cons (plainL_ok _ _) .nil) good_nothing sat_none (WX.out ?_)
                repeat (first | ((first | refine wx_quietU (by rfl) (by rfl) (by rfl) (fun K hK => ?_) | refine wx_quietG (by rfl) (by rfl) (by rfl) (by rfl) (by rfl) (fun K hK => ?_)); go_big_quiet_op; refine hK _ ?_; clear hK K) | ((first | refine wx_skipG (by rfl) (by rfl) (by rfl) (fun K hK => ?_) | refine wx_skipN (by rfl) (by rfl) (by rfl) (fun K hK => ?_)); go_simp; refine hK _ ?_; clear hK K))
                refine wx_loudU (us := []) (by rfl) (by rfl) (fun S wS hC hS hU => runs_enter (f := 50) (by go_simp <;> rfl) ?_) (fun v hv K hK => ?_)
                · refine (refNum_any _ 2 _ ((l.drop 14).take 2) wS (by exact sl_kept0 hm14 hC) (by omega)).mono ?_
                  rintro e w' ⟨rfl, rfl⟩
                  exact ⟨_, rfl, congrArg (fun k : Nat => Value.int .i64 (k : Int)) ((nv_take (l.drop 14) 2 2 (by omega)).trans HF14.out), Kept.refl _ _, trivial⟩
                obtain rfl := hv; (go_simp; refine hK _ ?_; clear hK K)
                repeat (first | ((first | refine wx_quietU (by rfl) (by rfl) (by rfl) (fun K hK => ?_) | refine wx_quietG (by rfl) (by rfl) (by rfl) (by rfl) (by rfl) (fun K hK => ?_)); go_big_quiet_op; refine hK _ ?_; clear hK K) | ((first | refine wx_skipG (by rfl) (by rfl) (by rfl) (fun K hK => ?_) | refine wx_skipN (by rfl) (by rfl) (by rfl) (fun K hK => ?_)); go_simp; refine hK _ ?_; clear hK K))
                refine wx_nil fun w6 hsat => ?_
                have hb7 := sat_below hsat
                have h7 := h6.below hb7
                have hr7 := blk_below hr6 hb7 (blk_lt hr6)
                have hbb7 := hbb6.trans (hb7.mono hbb6.size)
                have hz7 := hb7.size
                clear hsat hm14 h6 hr6 hbb6 hb7 zK z16
                as_aux_lemma =>
                  go_upto_region 16 with fail
                  have hm4 : Sl w6 1 (.slice (some ⟨b, off + 4, none⟩) 4 (c - 4)) (B8 ((l.drop 4).take 4)) := sl_mid h7 4 8 (by omega) (by omega) (by omega)
                  have hm8 : Sl w6 1 (.slice (some ⟨b, off + 8, none⟩) 4 (c - 8)) (B8 ((l.drop 8).take 4)) := sl_mid h7 8 12 (by omega) (by omega) (by omega)
                  obtain ⟨_, _, e1, hbl7, p1⟩ := h7.byte (k := 1) (by omega)
                  injection e1 with e1
                  injection e1 with e1 e2
                  subst e1; subst e2
                  have hb1 := byt_lt l 1
                  have hfb4 : fld l 4 4 < 4294967296 := nv_lt _ 4
                  have hfb8 : fld l 8 4 < 4294967296 := nv_lt _ 4
                  generalize hbt : byt l 1 = bt at *
                  have HBT := hid hbt
                  clear hbt
                  generalize hf4 : fld l 4 4 = fa at *
                  have HF4 := hid hf4
                  clear hf4
                  generalize hf8 : fld l 8 4 = fb at *
                  have HF8 := hid hf8
                  clear hf8
                  have kp1 : ∀ x : WK (fun _ => False) w6, (wat x).cell? ⟨b, off + 1, none⟩ = some (.int .u8 (bt : Int)) := fun x => (wat_cell (p := ⟨b, off + 1, none⟩) hbl7 (by simp) x).trans p1
                  clear p1 t1 t1' t2 t3 t4 t0'
                  refine wp_region_loud (fun _ => False)
                    [(6, plainL [] (.int .i64 (fa : Int))), (10, plainL [] (.int .i64 (fb : Int))), (13, plainL [] (.agg (pkC (bareP (bt : Int) fa fb s) none 0 0 none 0 0 none 0 0 none 0 0))), (14, newL 30 zeroC), (15, storeC [14] 30 (pkC (bareP (bt : Int) fa fb s) none 0 0 none 0 0 none 0 0 none 0 0))]
                    (fun _ => Fact.none) (by kernel_rfl) (by kernel_rfl) (.cons (plainL_ok _ _) (.cons (plainL_ok _ _) (.cons (plainL_ok _ _) (.cons (newL_ok _ _) (.cons (storeC_ok _ _ _) .nil))))) good_nothing sat_none (WX.out ?_)
                  repeat (first | ((first | refine wx_quietU (by rfl) (by rfl) (by rfl) (fun K hK => ?_) | refine wx_quietG (by rfl) (by rfl) (by rfl) (by rfl) (by rfl) (fun K hK => ?_)); go_big_quiet_op; refine hK _ ?_; clear hK K) | ((first | refine wx_skipG (by rfl) (by rfl) (by rfl) (fun K hK => ?_) | refine wx_skipN (by rfl) (by rfl) (by rfl) (fun K hK => ?_)); go_simp; refine hK _ ?_; clear hK K))
                  refine wx_loudU (us := []) (by rfl) (by rfl) (fun S wS hC hS hU => runs_enter (f := 50) (by go_simp <;> rfl) ?_) (fun v hv K hK => ?_)
                  · refine (refNum_any _ 4 _ ((l.drop 4).take 4) wS (by exact sl_kept0 hm4 hC) (by omega)).mono ?_
                    rintro e w' ⟨rfl, rfl⟩
                    exact ⟨_, rfl, congrArg (fun k : Nat => Value.int .i64 (k : Int)) ((nv_take (l.drop 4) 4 4 (by omega)).trans HF4.out), Kept.refl _ _, trivial⟩
                  obtain rfl := hv; (go_simp; refine hK _ ?_; clear hK K)
                  repeat (first | ((first | refine wx_quietU (by rfl) (by rfl) (by rfl) (fun K hK => ?_) | refine wx_quietG (by rfl) (by rfl) (by rfl) (by rfl) (by rfl) (fun K hK => ?_)); go_big_quiet_op; refine hK _ ?_; clear hK K) | ((first | refine wx_skipG (by rfl) (by rfl) (by rfl) (fun K hK => ?_) | refine wx_skipN (by rfl) (by rfl) (by rfl) (fun K hK => ?_)); go_simp; refine hK _ ?_; clear hK K))
                  refine wx_loudU (us := []) (by rfl) (by rfl) (fun S wS hC hS hU => runs_enter (f := 50) (by go_simp <;> rfl) ?_) (fun v hv K hK => ?_)
                  · refine (refNum_any _ 4 _ ((l.drop 8).take 4) wS (by exact sl_kept0 hm8 hC) (by omega)).mono ?_
                    rintro e w' ⟨rfl, rfl⟩
                    exact ⟨_, rfl, congrArg (fun k : Nat => Value.int .i64 (k : Int)) ((nv_take (l.drop 8) 4 4 (by omega)).trans HF8.out), Kept.refl _ _, trivial⟩
                  obtain rfl := hv; (go_simp; refine hK _ ?_; clear hK K)
                  repeat (first | ((first | refine wx_quietU (by rfl) (by rfl) (by rfl) (fun K hK => ?_) | refine wx_quietG (by rfl) (by rfl) (by rfl) (by rfl) (by rfl) (fun K hK => ?_)); go_big_quiet_op; refine hK _ ?_; clear hK K) | ((first | refine wx_skipG (by rfl) (by rfl) (by rfl) (fun K hK => ?_) | refine wx_skipN (by rfl) (by rfl) (by rfl) (fun K hK => ?_)); go_simp; refine hK _ ?_; clear hK K))
                  refine wx_loudU (us := []) (by rfl) (by rfl) (fun S wS hC hS hU => ?_) (fun v hv K hK => ?_)
                  · exact runs_buildV 30 [(0, .tmp 86), (1, .tmp 90), (2, .tmp 94), (3, .tmp 95)] rfl [(0, .int .i64 (bt : Int)), (1, .int .u32 (fa : Int)), (2, .int .u32 (fb : Int)), (3, .string s)] rfl _ (pkt_built _ _ _ _) ⟨rfl, Kept.refl _ _, trivial⟩
                  obtain rfl := hv; (go_simp; refine hK _ ?_; clear hK K)
                  repeat (first | ((first | refine wx_quietU (by rfl) (by rfl) (by rfl) (fun K hK => ?_) | refine wx_quietG (by rfl) (by rfl) (by rfl) (by rfl) (by rfl) (fun K hK => ?_)); go_big_quiet_op; refine hK _ ?_; clear hK K) | ((first | refine wx_skipG (by rfl) (by rfl) (by rfl) (fun K hK => ?_) | refine wx_skipN (by rfl) (by rfl) (by rfl) (fun K hK => ?_)); go_simp; refine hK _ ?_; clear hK K))
                  refine wx_loudU (us := []) (by rfl) (by rfl) (fun S wS hC hS hU => ?_) (fun v hv K hK => ?_)
                  · exact runs_value (by go_simp <;> rfl) (newB_x rfl)
                  obtain ⟨g9, rfl⟩ := hv; (go_simp; refine hK _ ?_; clear hK K)
                  repeat (first | ((first | refine wx_quietU (by rfl) (by rfl) (by rfl) (fun K hK => ?_) | refine wx_quietG (by rfl) (by rfl) (by rfl) (by rfl) (by rfl) (fun K hK => ?_)); go_big_quiet_op; refine hK _ ?_; clear hK K) | ((first | refine wx_skipG (by rfl) (by rfl) (by rfl) (fun K hK => ?_) | refine wx_skipN (by rfl) (by rfl) (by rfl) (fun K hK => ?_)); go_simp; refine hK _ ?_; clear hK K))
                  refine wx_loudU (us := [14]) (by rfl) (by rfl) (fun S wS hC hS hU => ?_) (fun v hv K hK => ?_)
                  · have hB := newB_get (g := g9) (T := 30) (cs := zeroC) (hU 14 (by simp))
                    clear hU
                    exact runs_store_whole 30 (.tmp 9) (.tmp 96) rfl (pkC (bareP (bt : Int) fa fb s) none 0 0 none 0 0 none 0 0 none 0 0) rfl rfl hB.2 (by kernel_rfl) rfl (pkC_one _ _ _ _ _ _ _ _ _ _ _ _ _)
                      ⟨trivial, kept_setRow wS g9 _ hB.1, g9, rfl, .inl hB.1, setRow_heap _ _ _ _ _ _ hB.2⟩
                  (go_simp; refine hK _ ?_; clear hK K)
                  repeat (first | ((first | refine wx_quietU (by rfl) (by rfl) (by rfl) (fun K hK => ?_) | refine wx_quietG (by rfl) (by rfl) (by rfl) (by rfl) (by rfl) (fun K hK => ?_)); go_big_quiet_op; refine hK _ ?_; clear hK K) | ((first | refine wx_skipG (by rfl) (by rfl) (by rfl) (fun K hK => ?_) | refine wx_skipN (by rfl) (by rfl) (by rfl) (fun K hK => ?_)); go_simp; refine hK _ ?_; clear hK K))
                  refine wx_nil fun w8 hsat => ?_
                  obtain ⟨S15, hS15, hF15⟩ := sat_get hsat 15
                  have hg9 : w8.heap[g9]? = some (.cells (pkC (bareP (bt : Int) fa fb s) none 0 0 none 0 0 none 0 0 none 0 0) 30 (0, 0)) := (storeC_get (g := g9) hF15).2
                  have hg9w : w6.heap.size ≤ g9 := by
                    rcases (hS15 _ (storeC_get (g := g9) hF15).1).1 with h | h
                    · exact h.elim
                    · exact h
                  have hb8 := sat_below hsat
                  have h8 := h7.below hb8
                  have hr8 := blk_below hr7 hb8 (blk_lt hr7)
                  have hbb8 := hbb7.trans (hb8.mono hbb7.size)
                  have hg9l := blk_lt hg9
                  have hwg9 : w.heap.size < g9 := by have := blk_lt hr7; omega
                  clear hsat hF15 hS15 hb8 h7 hr7 hbb7 hm4 hm8 kp1 hbl7 hg9w
                  as_aux_lemma =>
                    go_upto_region 17 with fail
                    go_cut [10] (fun v wx => ∃ YA : Nat, v = .slice (some ⟨b, YA, none⟩) (f2 - 24) (c - 24) ∧ Sl w8 1 (.slice (some ⟨b, YA, none⟩) (f2 - 24) (c - 24)) (B8 (l.drop 24)) ∧ wx = w8)
                    case first =>
                      have hd24 := sl_drop h8 24 (by omega)
                      by_cases hc : c = 24
                      · subst hc
                        obtain rfl : f2 = 24 := by omega
                        as_aux_lemma =>
                          go_wp2_with fail
                          go_meet
                          all_goals go_light
                          exact ⟨off, rfl, by simpa using hd24, rfl⟩
                      · rw [if_neg hc] at hd24
                        simp only [Option.map_some, addr_add] at hd24
                        as_aux_lemma =>
                          go_wp2_with fail
                          go_meet
                          all_goals go_light
                          exact ⟨off + 24, rfl, hd24, rfl⟩
                    case rest =>
                      obtain ⟨YA, rfl, hy8, hw8⟩ := hcut
                      subst hw8
                      as_aux_lemma =>
                        obtain ⟨w8, rfl⟩ : ∃ w8 : World, w8 = wc := ⟨_, rfl⟩
                        have HLY : Hid ((l.drop 24).length = f2 - 24) := by show _ = _; rw [List.length_drop, HL.out]
                        have hny : f2 - 24 ≤ 100000 := by omega
                        generalize hnye : f2 - 24 = ny at *
                        generalize c - 24 = cy at *
                        have HNY : Hid (f2 = ny + 24) := by show _ = _; omega
                        have hnc : ny ≤ cy := hy8.len.2.1
                        clear hnye
                        have HFE : Hid (framedE l s = 0) := HE
                        have hYA : b < w8.heap.size ∧ b ≠ g9 := ⟨by omega, by omega⟩
                        have HYA := hid hYA
                        have c0 := (blk_cells hg9).1 0
                        simp [bareP] at c0
                        clear hYA HE
                        go_upto_region 19 with fail
                        iterate 10 (first | go_guarded | go_step | go_upon)
                        go_cut [10, 11] (fun v10 v11 wx => Rsw l s w8 g9 v10 v11 wx)
                        case first =>
                          as_aux_lemma =>
                            by_cases b1 : bt = 1
                            · have t1 : ((bt : Int) == 1) = true := by rw [b1]; rfl
                              have B2 : Hid (byt l 1 = 1) := by show _ = _; rw [HBT.out, b1]
                              have hfr : Hid (frontP l s = bareP (bt : Int) fa fb s) := by show _ = _; rw [frontP_eq, HBT.out, HF4.out, HF8.out]
                              have B1' := hid b1
                              clear b1
                              by_cases h20' : ny < 20
                              · have HE : Hid (getPE l s = 3) := short1_getPE l s HFE.out B2.out (by have := HL.out; have := HNY.out; omega)
                                as_aux_lemma =>
                                  go_wp2_with (refine wpList_store_whole rfl 30 (.tmp 4) (.tmp 106) rfl zeroC rfl rfl hr8 (by kernel_rfl) rfl zeroC_one ?_)
                                  intro wz hgz hgrz
                                  have hbz := hbb8.trans ((Below.refl w.heap.size w8).grown hgrz hbb8.size (by intro k hk; injection hk with hk; omega))
                                  go_wp2_with fail
                                  exact ret_row2 (fn := Try.f13) (x := .int .i64 3) (cs := zeroC) rfl rfl rfl hgz Try.underlying30 rfl (by kernel_rfl) rfl (getPPost_no HE.out (by omega) hbz)
                              as_aux_lemma =>
                                have hc20 : 20 ≤ cy := by omega
                                have hma := hy8.take 4 (by omega)
                                have hmb : Sl w8 1 (.slice (some ⟨b, YA + 4, none⟩) 2 (cy - 4)) (B8 (((l.drop 24).drop 4).take 2)) := sl_mid hy8 4 6 (by omega) (by omega) (by omega)
                                have hmc : Sl w8 1 (.slice (some ⟨b, YA + 8, none⟩) 4 (cy - 8)) (B8 (((l.drop 24).drop 8).take 4)) := sl_mid hy8 8 12 (by omega) (by omega) (by omega)
                                have hmd : Sl w8 1 (.slice (some ⟨b, YA + 12, none⟩) 4 (cy - 12)) (B8 (((l.drop 24).drop 12).take 4)) := sl_mid hy8 12 16 (by omega) (by omega) (by omega)
                                have hme : Sl w8 1 (.slice (some ⟨b, YA + 16, none⟩) 4 (cy - 16)) (B8 (((l.drop 24).drop 16).take 4)) := sl_mid hy8 16 20 (by omega) (by omega) (by omega)
                                obtain ⟨_, _, e1, hbl8, p7⟩ := hy8.byte (k := 7) (by omega)
                                injection e1 with e1
                                injection e1 with e1 e2
                                subst e1; subst e2
                                have hq7 := byt_lt (l.drop 24) 7
                                have hx0 : fld (l.drop 24) 0 4 < 4294967296 := nv_lt _ 4
                                have hx1 : fld (l.drop 24) 4 2 < 65536 := nv_lt _ 2
                                have hx2 : fld (l.drop 24) 8 4 < 4294967296 := nv_lt _ 4
                                have hx4 : fld (l.drop 24) 12 4 < 4294967296 := nv_lt _ 4
                                have hx5 : fld (l.drop 24) 16 4 < 4294967296 := nv_lt _ 4
                                have HW : Hid (∀ L, L = routersOf ((l.drop 24).drop 20) → pq ⟨(bt : Int), fa, fb, s, fld (l.drop 24) 0 4, (fld (l.drop 24) 4 2 : Nat), (fld (l.drop 24) 8 4 : Nat), (byt (l.drop 24) 7 : Nat), fld (l.drop 24) 12 4, fld (l.drop 24) 16 4, L, 0, 0, [], [], []⟩ (l.drop 24) ny = wholeP l s) := by
                                  show ∀ _, _
                                  intro L hL
                                  have e71 : fld (l.drop 24) 7 1 = byt (l.drop 24) 7 := by unfold fld; simp [nv, byt_drop]
                                  have hly : (l.drop 24).drop ny = [] := List.drop_of_length_le (by rw [HLY.out]; exact Nat.le_refl _)
                                  unfold wholeP pq
                                  rw [hfr.out, tells1 (by show (bt : Int) = 1; rw [B1'.out]; rfl), helloP_long _ _ (by rw [HLY.out]; omega), e71, hly, headsOf_no [] (by decide), hL]
                                  rfl
                                generalize hq7e : byt (l.drop 24) 7 = q7 at *
                                generalize hx0e : fld (l.drop 24) 0 4 = x0 at *
                                generalize hx1e : fld (l.drop 24) 4 2 = x1 at *
                                generalize hx2e : fld (l.drop 24) 8 4 = x2 at *
                                generalize hx4e : fld (l.drop 24) 12 4 = x4 at *
                                generalize hx5e : fld (l.drop 24) 16 4 = x5 at *
                                have HX0 := hid hx0e
                                have HX1 := hid hx1e
                                have HX2 := hid hx2e
                                have HX4 := hid hx4e
                                have HX5 := hid hx5e
                                clear hq7e hx0e hx1e hx2e hx4e hx5e
                                go_upto_region 23 with fail
                                have kp7 : ∀ x : WK (fun b' => False ∨ b' = g9) w8, (wat x).cell? ⟨b, YA + 7, none⟩ = some (.int .u8 (q7 : Int)) := fun x => (wat_cell (p := ⟨b, YA + 7, none⟩) (by simp; omega) (by simp; exact HYA.out.2) x).trans p7
                                have hS0 : ∀ (o : Nat) (ad : Addr), some (Addr.mk b o none) = some ad → ¬ (False ∨ ad.block = g9) := fun o ad had hh => by
                                  injection had with had
                                  subst had
                                  rcases hh with hh | hh
                                  · exact hh
                                  · exact HYA.out.2 hh
                                clear p7 c0
                                refine wp_region_loud (fun b' => False ∨ b' = g9)
                                  [(2, plainL [] (.int .i64 (x0 : Int))), (6, plainL [] (.int .i64 (x1 : Int))), (13, plainL [] (.int .i64 (x2 : Int))), (16, plainL [] (.int .i64 (x4 : Int))), (20, plainL [] (.int .i64 (x5 : Int))),
                                   (22, plainL [] (.agg #[.int .u32 (x0 : Int), .int .i64 (x1 : Int), .int .i64 (x2 : Int), .int .i64 (q7 : Int), .int .u32 (x4 : Int), .int .u32 (x5 : Int), .slice none 0 0])),
                                   (24, factL [100] (fun _ => True) (fun _ => BlkF g9 30 (pkC ⟨(bt : Int), fa, fb, s, x0, x1, x2, q7, x4, x5, [], 0, 0, [], [], []⟩ none 0 0 none 0 0 none 0 0 none 0 0)))]
                                  (addL 100 (BlkF g9 30 (pkC ⟨(bt : Int), fa, fb, s, 0, 0, 0, 0, 0, 0, [], 0, 0, [], [], []⟩ none 0 0 none 0 0 none 0 0 none 0 0)) (fun _ => Fact.none)) (by kernel_rfl) (by kernel_rfl)
                                  (.cons (plainL_ok _ _) (.cons (plainL_ok _ _) (.cons (plainL_ok _ _) (.cons (plainL_ok _ _) (.cons (plainL_ok _ _) (.cons (plainL_ok _ _) (.cons (factL_ok ⟨undef, trivial⟩ (fun _ => good_blk _ _ _)) .nil)))))))
                                  (good_add _ (good_blk _ _ _) good_nothing)
                                  (sat_add 100 sat_none (fun b _ h => h) (fun b' (hb : b' = g9) => by omega) ⟨rfl, hg9⟩) (WX.out ?_)
                                repeat (first | ((first | refine wx_quietU (by rfl) (by rfl) (by rfl) (fun K hK => ?_) | refine wx_quietG (by rfl) (by rfl) (by rfl) (by rfl) (by rfl) (fun K hK => ?_)); go_big_quiet_op; refine hK _ ?_; clear hK K) | ((first | refine wx_skipG (by rfl) (by rfl) (by rfl) (fun K hK => ?_) | refine wx_skipN (by rfl) (by rfl) (by rfl) (fun K hK => ?_)); go_simp; refine hK _ ?_; clear hK K))
                                refine wx_loudU (us := []) (by rfl) (by rfl) (fun S wS hC hS hU => runs_enter (f := 50) (by go_simp <;> rfl) ?_) (fun v hv K hK => ?_)
                                · refine (refNum_any _ 4 _ ((l.drop 24).take 4) wS (by exact sl_kept hma hC (hS0 _)) (by omega)).mono ?_
                                  rintro e w' ⟨rfl, rfl⟩
                                  exact ⟨_, rfl, congrArg (fun k : Nat => Value.int .i64 (k : Int)) ((nv_take (l.drop 24) 4 4 (by omega)).trans HX0.out), Kept.refl _ _, trivial⟩
                                obtain rfl := hv; (go_simp; refine hK _ ?_; clear hK K)
                                repeat (first | ((first | refine wx_quietU (by rfl) (by rfl) (by rfl) (fun K hK => ?_) | refine wx_quietG (by rfl) (by rfl) (by rfl) (by rfl) (by rfl) (fun K hK => ?_)); go_big_quiet_op; refine hK _ ?_; clear hK K) | ((first | refine wx_skipG (by rfl) (by rfl) (by rfl) (fun K hK => ?_) | refine wx_skipN (by rfl) (by rfl) (by rfl) (fun K hK => ?_)); go_simp; refine hK _ ?_; clear hK K))
                                refine wx_loudU (us := []) (by rfl) (by rfl) (fun S wS hC hS hU => runs_enter (f := 50) (by go_simp <;> rfl) ?_) (fun v hv K hK => ?_)
                                · refine (refNum_any _ 2 _ (((l.drop 24).drop 4).take 2) wS (by exact sl_kept hmb hC (hS0 _)) (by omega)).mono ?_
                                  rintro e w' ⟨rfl, rfl⟩
                                  exact ⟨_, rfl, congrArg (fun k : Nat => Value.int .i64 (k : Int)) ((nv_take ((l.drop 24).drop 4) 2 2 (by omega)).trans HX1.out), Kept.refl _ _, trivial⟩
                                obtain rfl := hv; (go_simp; refine hK _ ?_; clear hK K)
                                repeat (first | ((first | refine wx_quietU (by rfl) (by rfl) (by rfl) (fun K hK => ?_) | refine wx_quietG (by rfl) (by rfl) (by rfl) (by rfl) (by rfl) (fun K hK => ?_)); go_big_quiet_op; refine hK _ ?_; clear hK K) | ((first | refine wx_skipG (by rfl) (by rfl) (by rfl) (fun K hK => ?_) | refine wx_skipN (by rfl) (by rfl) (by rfl) (fun K hK => ?_)); go_simp; refine hK _ ?_; clear hK K))
                                refine wx_loudU (us := []) (by rfl) (by rfl) (fun S wS hC hS hU => runs_enter (f := 50) (by go_simp <;> rfl) ?_) (fun v hv K hK => ?_)
                                · refine (refNum_any _ 4 _ (((l.drop 24).drop 8).take 4) wS (by exact sl_kept hmc hC (hS0 _)) (by omega)).mono ?_
                                  rintro e w' ⟨rfl, rfl⟩
                                  exact ⟨_, rfl, congrArg (fun k : Nat => Value.int .i64 (k : Int)) ((nv_take ((l.drop 24).drop 8) 4 4 (by omega)).trans HX2.out), Kept.refl _ _, trivial⟩
                                obtain rfl := hv; (go_simp; refine hK _ ?_; clear hK K)
                                repeat (first | ((first | refine wx_quietU (by rfl) (by rfl) (by rfl) (fun K hK => ?_) | refine wx_quietG (by rfl) (by rfl) (by rfl) (by rfl) (by rfl) (fun K hK => ?_)); go_big_quiet_op; refine hK _ ?_; clear hK K) | ((first | refine wx_skipG (by rfl) (by rfl) (by rfl) (fun K hK => ?_) | refine wx_skipN (by rfl) (by rfl) (by rfl) (fun K hK => ?_)); go_simp; refine hK _ ?_; clear hK K))
                                refine wx_loudU (us := []) (by rfl) (by rfl) (fun S wS hC hS hU => runs_enter (f := 50) (by go_simp <;> rfl) ?_) (fun v hv K hK => ?_)
                                · refine (refNum_any _ 4 _ (((l.drop 24).drop 12).take 4) wS (by exact sl_kept hmd hC (hS0 _)) (by omega)).mono ?_
                                  rintro e w' ⟨rfl, rfl⟩
                                  exact ⟨_, rfl, congrArg (fun k : Nat => Value.int .i64 (k : Int)) ((nv_take ((l.drop 24).drop 12) 4 4 (by omega)).trans HX4.out), Kept.refl _ _, trivial⟩
                                obtain rfl := hv; (go_simp; refine hK _ ?_; clear hK K)
                                repeat (first | ((first | refine wx_quietU (by rfl) (by rfl) (by rfl) (fun K hK => ?_) | refine wx_quietG (by rfl) (by rfl) (by rfl) (by rfl) (by rfl) (fun K hK => ?_)); go_big_quiet_op; refine hK _ ?_; clear hK K) | ((first | refine wx_skipG (by rfl) (by rfl) (by rfl) (fun K hK => ?_) | refine wx_skipN (by rfl) (by rfl) (by rfl) (fun K hK => ?_)); go_simp; refine hK _ ?_; clear hK K))
                                refine wx_loudU (us := []) (by rfl) (by rfl) (fun S wS hC hS hU => runs_enter (f := 50) (by go_simp <;> rfl) ?_) (fun v hv K hK => ?_)
                                · refine (refNum_any _ 4 _ (((l.drop 24).drop 16).take 4) wS (by exact sl_kept hme hC (hS0 _)) (by omega)).mono ?_
                                  rintro e w' ⟨rfl, rfl⟩
                                  exact ⟨_, rfl, congrArg (fun k : Nat => Value.int .i64 (k : Int)) ((nv_take ((l.drop 24).drop 16) 4 4 (by omega)).trans HX5.out), Kept.refl _ _, trivial⟩
                                obtain rfl := hv; (go_simp; refine hK _ ?_; clear hK K)
                                repeat (first | ((first | refine wx_quietU (by rfl) (by rfl) (by rfl) (fun K hK => ?_) | refine wx_quietG (by rfl) (by rfl) (by rfl) (by rfl) (by rfl) (fun K hK => ?_)); go_big_quiet_op; refine hK _ ?_; clear hK K) | ((first | refine wx_skipG (by rfl) (by rfl) (by rfl) (fun K hK => ?_) | refine wx_skipN (by rfl) (by rfl) (by rfl) (fun K hK => ?_)); go_simp; refine hK _ ?_; clear hK K))
                                refine wx_loudU (us := []) (by rfl) (by rfl) (fun S wS hC hS hU => ?_) (fun v hv K hK => ?_)
                                · exact runs_buildV 25 [(0, .tmp 110), (1, .tmp 113), (3, .tmp 117), (2, .tmp 120), (4, .tmp 124), (5, .tmp 128)] rfl [(0, .int .u32 (x0 : Int)), (1, .int .i64 (x1 : Int)), (3, .int .i64 (q7 : Int)), (2, .int .i64 (x2 : Int)), (4, .int .u32 (x4 : Int)), (5, .int .u32 (x5 : Int))] rfl _ (gr_built _ _ _ _ _ _) ⟨rfl, Kept.refl _ _, trivial⟩
                                obtain rfl := hv; (go_simp; refine hK _ ?_; clear hK K)
                                repeat (first | ((first | refine wx_quietU (by rfl) (by rfl) (by rfl) (fun K hK => ?_) | refine wx_quietG (by rfl) (by rfl) (by rfl) (by rfl) (by rfl) (fun K hK => ?_)); go_big_quiet_op; refine hK _ ?_; clear hK K) | ((first | refine wx_skipG (by rfl) (by rfl) (by rfl) (fun K hK => ?_) | refine wx_skipN (by rfl) (by rfl) (by rfl) (fun K hK => ?_)); go_simp; refine hK _ ?_; clear hK K))
                                refine wx_loudU (us := [100]) (by rfl) (by rfl) (fun S wS hC hS hU => ?_) (fun v hv K hK => ?_)
                                · have hB : BlkF g9 30 (pkC ⟨(bt : Int), fa, fb, s, 0, 0, 0, 0, 0, 0, [], 0, 0, [], [], []⟩ none 0 0 none 0 0 none 0 0 none 0 0) S wS := hU 100 (by simp)
                                  obtain ⟨hc, hf⟩ := blkF_cells hB
                                  have h9 := layG_in hB.2 (.int .u32 (x0 : Int)) (.int .i64 (x1 : Int)) (.int .i64 (x2 : Int)) (.int .i64 (q7 : Int)) (.int .u32 (x4 : Int)) (.int .u32 (x5 : Int)) (.slice none 0 0)
                                  have h10 := Kept.of_grown (S := S) (layG_grown wS g9 (.int .u32 (x0 : Int)) (.int .i64 (x1 : Int)) (.int .i64 (x2 : Int)) (.int .i64 (q7 : Int)) (.int .u32 (x4 : Int)) (.int .u32 (x5 : Int)) (.slice none 0 0)) (fun g' hg' => by injection hg' with hg'; rw [← hg']; exact hB.1)
                                  exact runs_store_greet 25 (.tmp 130) (.tmp 129) rfl _ _ _ _ _ _ _ rfl rfl hB.2 rfl (by kernel_rfl) (by simp [Value.oneCell']) ⟨trivial, h10, .inl hB.1, h9⟩
                                (go_simp; refine hK _ ?_; clear hK K)
                                repeat (first | ((first | refine wx_quietU (by rfl) (by rfl) (by rfl) (fun K hK => ?_) | refine wx_quietG (by rfl) (by rfl) (by rfl) (by rfl) (by rfl) (fun K hK => ?_)); go_big_quiet_op; refine hK _ ?_; clear hK K) | ((first | refine wx_skipG (by rfl) (by rfl) (by rfl) (fun K hK => ?_) | refine wx_skipN (by rfl) (by rfl) (by rfl) (fun K hK => ?_)); go_simp; refine hK _ ?_; clear hK K))
                                refine wx_nil fun w9 hsat => ?_
                                obtain ⟨S24, _, hF24⟩ := sat_get hsat 24
                                have hB24 := (hF24 : BlkF g9 30 (pkC ⟨(bt : Int), fa, fb, s, x0, x1, x2, q7, x4, x5, [], 0, 0, [], [], []⟩ none 0 0 none 0 0 none 0 0 none 0 0) S24 w9).2
                                have hk9 := hsat.1.wider (S' := fun b' => b' = g9) (fun b' hb => by rcases hb with hb | hb; exact hb.elim; exact hb)
                                have hy9 := sl_kept hy8 hk9 (fun ad had hb => by injection had with had; subst had; exact HYA.out.2 hb)
                                clear hsat hF24 hma hmb hmc hmd hme kp7
                                obtain ⟨CN, hCN⟩ : ∃ CN : Value → Array Value, CN = fun x => #[.int .i64 (bt : Int), .int .u32 (fa : Int), .int .u32 (fb : Int), .string s, .int .u32 (x0 : Int), .int .i64 (x1 : Int), .int .i64 (x2 : Int), .int .i64 (q7 : Int), .int .u32 (x4 : Int), .int .u32 (x5 : Int), x, .int .i64 0, .int .u32 0, .slice none 0 0, .slice none 0 0, .slice none 0 0] := ⟨_, rfl⟩
                                have HCN := hid hCN
                                have hg' : w9.heap[g9]? = some (.cells (CN (.slice none 0 0)) 30 (0, 0)) := by rw [hCN]; exact hB24
                                have hg9m := blk_lt hB24
                                have hz89 := hk9.size
                                clear hCN hB24
                                go_upto_region 25 with fail
                                go_loopw [12] (fun i wr => ∃ (k m : Nat) (A : Option Addr) (c : Nat) (dk : List Nat), i = .int .i64 m ∧ m ≤ ny ∧ k ≤ m ∧ LoI w9 g9 30 (CN (.slice A k c)) 22 1 k (.slice A k c) (U32 dk) wr ∧ Hid (routersOf ((l.drop 24).drop 20) = dk ++ routersOf ((l.drop 24).drop m))) (fun i _ => ny - (intOf i).toNat)
                                case atStart => exact ⟨0, 20, none, 0, [], rfl, by omega, by omega, ⟨hg', by simpa [U32] using World.ownsRow_nil _ _ _ _, Kept.refl _ _⟩, by show _ = _; simp⟩
                                case round =>
                                  obtain ⟨k, m, A, c, dk, rfl, hmn, hkm, hI, HD0⟩ := hrel
                                  have hsz' := hI.kp.size
                                  have hyr := sl_kept hy9 hI.kp (fun ad had hb => by injection had with had; subst had; exact HYA.out.2 hb)
                                  by_cases hlt : m + 4 ≤ ny
                                  · have hcm : m + 4 ≤ cy := by omega
                                    have hma : Sl wr 1 (.slice (some ⟨b, YA + m, none⟩) 4 (cy - m)) (B8 (((l.drop 24).drop m).take 4)) := by
                                      have := sl_mid hyr m (m + 4) (by omega) (by omega) (by omega)
                                      rwa [Nat.add_sub_cancel_left] at this
                                    have HTK : Hid (routersOf ((l.drop 24).drop 20) = (dk ++ [nv ((l.drop 24).drop m) 4]) ++ routersOf ((l.drop 24).drop (m + 4))) := by
                                      show _ = _
                                      rw [HD0.out, routersOf_yes ((l.drop 24).drop m) (by rw [List.length_drop, HLY.out]; omega), List.drop_drop]
                                      simp [Nat.add_assoc]
                                    have hv0 : nv ((l.drop 24).drop m) 4 < 4294967296 := nv_lt _ 4
                                    generalize hxn : nv ((l.drop 24).drop m) 4 = xn at *
                                    have HXN := hid hxn
                                    clear hxn HD0 hyr
                                    as_aux_lemma =>
                                      go_upto_region 27 with fail
                                      have hown := hI.own
                                      have hne1 : ∀ b : Nat, Value.ownBlock (.slice A k c) = some b → w9.heap.size ≤ b := fun b hb => (hown.lt b hb).1
                                      have hd1 : ∀ b, Value.ownBlock (.slice A k c) = some b → (False ∨ b = g9) → False := by
                                        rintro b h1 (h2 | h2)
                                        · exact h2
                                        · have := hne1 b h1; omega
                                      have hS0 : ∀ (o : Nat) (ad : Addr), some (Addr.mk b o none) = some ad → ¬ ((False ∨ ad.block = g9) ∨ Value.ownBlock (.slice A k c) = some ad.block) := fun o ad had hh => by
                                        injection had with had
                                        subst had
                                        rcases hh with (hh | hh) | hh
                                        · exact hh
                                        · exact HYA.out.2 hh
                                        · have h7 : w9.heap.size ≤ b := hne1 _ hh; have h6 : b < w8.heap.size := HYA.out.1; omega
                                      refine wp_region_loud (fun b => (False ∨ b = g9) ∨ Value.ownBlock (.slice A k c) = some b)
                                        [(2, loadL [100] (.slice A k c) (BlkF g9 30 (CN (.slice A k c)))), (8, plainL [] (.int .i64 (xn : Int))),
                                         (10, rowL [] w9.heap.size 22 1 1 (U32 [xn])), (11, rowL [101, 10] w9.heap.size 22 1 (k + 1) (U32 (dk ++ [xn]))),
                                         (14, factL [2, 11] (fun _ => True) (fun _ S w' => ∃ A1 c1, BlkF g9 30 (CN (.slice A1 (k + 1) c1)) S w' ∧ OwnF w9.heap.size 22 1 (k + 1) (U32 (dk ++ [xn])) (.slice A1 (k + 1) c1) S w'))]
                                        (addL 101 (OwnF w9.heap.size 22 1 k (U32 dk) (.slice A k c)) (addL 100 (BlkF g9 30 (CN (.slice A k c))) (fun _ => Fact.none))) (by kernel_rfl) (by kernel_rfl)
                                        (.cons (loadL_ok _ _ (good_blk _ _ _)) (.cons (plainL_ok _ _) (.cons (rowL_ok _ _ _ _ _ _) (.cons (rowL_ok _ _ _ _ _ _) (.cons (factL_ok ⟨undef, trivial⟩ (fun _ S S' w w' h1 h2 ⟨A', c', h3, h4⟩ => ⟨A', c', good_blk _ _ _ S S' w w' h1 h2 h3, good_own _ _ _ _ _ _ S S' w w' h1 h2 h4⟩)) .nil)))))
                                        (good_add _ (good_own _ _ _ _ _ _) (good_add _ (good_blk _ _ _) good_nothing))
                                        (sat_add 101 (sat_add 100 sat_none (fun b _ h => h) (fun b (hb : b = g9) => by omega) ⟨rfl, hI.hl⟩) hd1 (ownF_lt hown) (ownF_in hown)) (WX.out ?_)
                                      repeat (first | ((first | refine wx_quietU (by rfl) (by rfl) (by rfl) (fun K hK => ?_) | refine wx_quietG (by rfl) (by rfl) (by rfl) (by rfl) (by rfl) (fun K hK => ?_)); go_big_quiet_op; refine hK _ ?_; clear hK K) | ((first | refine wx_skipG (by rfl) (by rfl) (by rfl) (fun K hK => ?_) | refine wx_skipN (by rfl) (by rfl) (by rfl) (fun K hK => ?_)); go_simp; refine hK _ ?_; clear hK K))
                                      refine wx_loudU (us := [100]) (by rfl) (by rfl) (fun S wS hC hS hU => ?_) (fun v hv K hK => ?_)
                                      · have hB : BlkF g9 30 (CN (.slice A k c)) S wS := hU 100 (by simp)
                                        have hB2 := hB
                                        rw [HCN.out] at hB2
                                        obtain ⟨hc, hf⟩ := blkF_cells hB2
                                        exact load_x (by go_simp) (good_blk _ _ _) hB
                                      obtain rfl := hv; (go_simp; refine hK _ ?_; clear hK K)
                                      repeat (first | ((first | refine wx_quietU (by rfl) (by rfl) (by rfl) (fun K hK => ?_) | refine wx_quietG (by rfl) (by rfl) (by rfl) (by rfl) (by rfl) (fun K hK => ?_)); go_big_quiet_op; refine hK _ ?_; clear hK K) | ((first | refine wx_skipG (by rfl) (by rfl) (by rfl) (fun K hK => ?_) | refine wx_skipN (by rfl) (by rfl) (by rfl) (fun K hK => ?_)); go_simp; refine hK _ ?_; clear hK K))
                                      refine wx_loudU (us := []) (by rfl) (by rfl) (fun S wS hC hS hU => runs_enter (f := 50) (by go_simp <;> rfl) ?_) (fun v hv K hK => ?_)
                                      · refine (refNum_any _ 4 _ (((l.drop 24).drop m).take 4) wS (by exact sl_kept hma hC (hS0 _)) (by omega)).mono ?_
                                        rintro e w' ⟨rfl, rfl⟩
                                        exact ⟨_, rfl, congrArg (fun k : Nat => Value.int .i64 (k : Int)) ((nv_take ((l.drop 24).drop m) 4 4 (by omega)).trans HXN.out), Kept.refl _ _, trivial⟩
                                      obtain rfl := hv; (go_simp; refine hK _ ?_; clear hK K)
                                      repeat (first | ((first | refine wx_quietU (by rfl) (by rfl) (by rfl) (fun K hK => ?_) | refine wx_quietG (by rfl) (by rfl) (by rfl) (by rfl) (by rfl) (fun K hK => ?_)); go_big_quiet_op; refine hK _ ?_; clear hK K) | ((first | refine wx_skipG (by rfl) (by rfl) (by rfl) (fun K hK => ?_) | refine wx_skipN (by rfl) (by rfl) (by rfl) (fun K hK => ?_)); go_simp; refine hK _ ?_; clear hK K))
                                      refine wx_loudU (us := []) (by rfl) (by rfl) (fun S wS hC hS hU => ?_) (fun v hv K hK => ?_)
                                      · exact runs_value (by go_simp <;> rfl) (made_x rfl (Nat.le_trans hsz' hC.size) (by rfl) (by rfl) (by omega) (by omega))
                                      obtain ⟨A6, c6, rfl⟩ := hv; (go_simp; refine hK _ ?_; clear hK K)
                                      repeat (first | ((first | refine wx_quietU (by rfl) (by rfl) (by rfl) (fun K hK => ?_) | refine wx_quietG (by rfl) (by rfl) (by rfl) (by rfl) (by rfl) (fun K hK => ?_)); go_big_quiet_op; refine hK _ ?_; clear hK K) | ((first | refine wx_skipG (by rfl) (by rfl) (by rfl) (fun K hK => ?_) | refine wx_skipN (by rfl) (by rfl) (by rfl) (fun K hK => ?_)); go_simp; refine hK _ ?_; clear hK K))
                                      refine wx_loudU (us := [101, 10]) (by rfl) (by rfl) (fun S wS hC hS hU => ?_) (fun v hv K hK => ?_)
                                      · exact appS_x (.tmp 140) (.tmp 148) st_u32 (by rfl) (by rfl) (by rfl) (hU 101 (by simp)) (own_sl (hU 10 (by simp)).2) (U32_one _) (by simp [maxLen]; omega) (by omega) (Nat.le_trans hsz' hC.size) (U32_append _ _)
                                      obtain ⟨A7, c7, rfl⟩ := hv; (go_simp; refine hK _ ?_; clear hK K)
                                      repeat (first | ((first | refine wx_quietU (by rfl) (by rfl) (by rfl) (fun K hK => ?_) | refine wx_quietG (by rfl) (by rfl) (by rfl) (by rfl) (by rfl) (fun K hK => ?_)); go_big_quiet_op; refine hK _ ?_; clear hK K) | ((first | refine wx_skipG (by rfl) (by rfl) (by rfl) (fun K hK => ?_) | refine wx_skipN (by rfl) (by rfl) (by rfl) (fun K hK => ?_)); go_simp; refine hK _ ?_; clear hK K))
                                      refine wx_loudU (us := [2, 11]) (by rfl) (by rfl) (fun S wS hC hS hU => ?_) (fun v hv K hK => ?_)
                                      · have hB : BlkF g9 30 (CN (.slice A k c)) S wS := hU 2 (by simp)
                                        rw [HCN.out] at hB
                                        have hO : OwnF w9.heap.size 22 1 (k + 1) (U32 (dk ++ [xn])) (.slice A7 (k + 1) c7) S wS := hU 11 (by simp)
                                        obtain ⟨hc, hf⟩ := blkF_cells hB
                                        have hO9 := ownsRow_kept hO.2 (Kept.setCell (S := fun b => b = g9) (Kept.refl _ wS) (p := ⟨g9, 10, none⟩) (.inl rfl) (.slice A7 (k + 1) c7)) (fun y hy => by have := (hO.2.lt y hy).1; omega)
                                        have hB9 := blk_set hB.2 10 (.slice A7 (k + 1) c7)
                                        simp at hB9
                                        exact runs_skip (by go_simp <;> rfl) ⟨trivial, (Kept.refl _ _).setCell (.inl hB.1) _, A7, c7, ⟨.inl hB.1, by rw [HCN.out]; exact hB9⟩, ⟨fun y hy => .inl (hO.1 y hy), hO9⟩⟩
                                      (go_simp; refine hK _ ?_; clear hK K)
                                      repeat (first | ((first | refine wx_quietU (by rfl) (by rfl) (by rfl) (fun K hK => ?_) | refine wx_quietG (by rfl) (by rfl) (by rfl) (by rfl) (by rfl) (fun K hK => ?_)); go_big_quiet_op; refine hK _ ?_; clear hK K) | ((first | refine wx_skipG (by rfl) (by rfl) (by rfl) (fun K hK => ?_) | refine wx_skipN (by rfl) (by rfl) (by rfl) (fun K hK => ?_)); go_simp; refine hK _ ?_; clear hK K))
                                      refine wx_nil fun w11 hsat => ?_
                                      obtain ⟨S11, hS11, hfin⟩ := sat_get hsat 14
                                      obtain ⟨A9, c9, hb11, ho11⟩ := (hfin : ∃ A1 c1, BlkF g9 30 (CN (.slice A1 (k + 1) c1)) S11 w11 ∧ OwnF w9.heap.size 22 1 (k + 1) (U32 (dk ++ [xn])) (.slice A1 (k + 1) c1) S11 w11)
                                      have hkp11 := hI.kp.then hsat.1 (fun b hb h => by
                                        rcases h with (h | h) | h
                                        · exact h.elim
                                        · exact h
                                        · have := hne1 _ h; omega)
                                      clear hsat hS11
                                      go_wp2_with fail
                                      go_light
                                      exact ⟨⟨k + 1, m + 4, A9, c9, dk ++ [xn], by go_num, by omega, by omega, ⟨hb11.2, ho11.2, hkp11⟩, HTK⟩, by simp [intOf]; omega⟩
                                  · as_aux_lemma =>
                                      have hDK : dk = routersOf ((l.drop 24).drop 20) := by
                                        rw [HD0.out, routersOf_no ((l.drop 24).drop m) (by rw [List.length_drop, HLY.out]; omega)]
                                        simp
                                      have HFA := hid (facts_whole HFE.out (by unfold tellsE; rw [if_neg (by rw [hfr.out]; show (bt : Int) ≠ 4; rw [B1'.out]; decide)]) (HW.out dk hDK))
                                      have hB := hI.hl
                                      rw [HCN.out] at hB
                                      have hk10 := hk9.then hI.kp (fun b' _ hb => hb)
                                      have hrow := own_sl hI.own
                                      have fA : FreshA w8.heap.size A := fun ad had => by have := freshA_own hI.own ad had; omega
                                      clear HW hDK hI HD0 B1'
                                      go_wp2_with fail
                                      go_meet
                                      all_goals go_light
                                      exact ⟨⟨(bt : Int), fa, fb, s, x0, x1, x2, q7, x4, x5, dk, 0, 0, [], [], []⟩, some ⟨b, YA, none⟩, ny, cy, ny, l.drop 24, A, k, c, none, 0, 0, none, 0, 0, [], rfl, rfl, by omega, Nat.le_refl _, hyr, fun _ ad had => by injection had with had; subst had; exact HYA.out, hB,
                                        ⟨hrow, nil7 _, nil3 _, nil9 _ _, rfl, (fun p hp => by simp at hp)⟩, fA, (fun _ h => by cases h), (fun _ h => by cases h), (fun _ h => by cases h), hk10, hsz, HFA.out.1, HFA.out.2.1, HFA.out.2.2⟩
                            by_cases b2 : bt = 2
                            · have t1 : ((bt : Int) == 1) = false := by rw [beq_eq_false_iff_ne]; omega
                              have t2 : ((bt : Int) == 2) = true := by rw [b2]; rfl
                              have B2 : Hid (byt l 1 = 2) := by show _ = _; rw [HBT.out, b2]
                              have hfr : Hid (frontP l s = bareP (bt : Int) fa fb s) := by show _ = _; rw [frontP_eq, HBT.out, HF4.out, HF8.out]
                              have B2' := hid b2
                              clear b1 b2
                              by_cases h8' : ny < 8
                              · have HE : Hid (getPE l s = 3) := short2_getPE l s HFE.out B2.out (by have := HL.out; have := HNY.out; omega)
                                as_aux_lemma =>
                                  go_wp2_with (refine wpList_store_whole rfl 30 (.tmp 4) (.tmp 159) rfl zeroC rfl rfl hr8 (by kernel_rfl) rfl zeroC_one ?_)
                                  intro wz hgz hgrz
                                  have hbz := hbb8.trans ((Below.refl w.heap.size w8).grown hgrz hbb8.size (by intro k hk; injection hk with hk; omega))
                                  go_wp2_with fail
                                  exact ret_row2 (fn := Try.f13) (x := .int .i64 3) (cs := zeroC) rfl rfl rfl hgz Try.underlying30 rfl (by kernel_rfl) rfl (getPPost_no HE.out (by omega) hbz)
                              as_aux_lemma =>
                                have hc8 : 8 ≤ cy := by omega
                                have hm48 : Sl w8 1 (.slice (some ⟨b, YA + 4, none⟩) 4 (cy - 4)) (B8 (((l.drop 24).drop 4).take 4)) := sl_mid hy8 4 8 (by omega) (by omega) (by omega)
                                obtain ⟨_, _, e1, hbl8, p3⟩ := hy8.byte (k := 3) (by omega)
                                injection e1 with e1
                                injection e1 with e1 e2
                                subst e1; subst e2
                                have hq3 := byt_lt (l.drop 24) 3
                                have hq4 : fld (l.drop 24) 4 4 < 4294967296 := nv_lt _ 4
                                have HW : Hid (pq ⟨(bt : Int), fa, fb, s, 0, 0, 0, 0, 0, 0, [], (byt (l.drop 24) 3 : Nat), fld (l.drop 24) 4 4, [], [], []⟩ (l.drop 24) 8 = wholeP l s) := by
                                  show _ = _
                                  have e31 : fld (l.drop 24) 3 1 = byt (l.drop 24) 3 := by unfold fld; simp [nv, byt_drop]
                                  unfold wholeP
                                  rw [hfr.out, tells2 (by show (bt : Int) = 2; rw [B2'.out]; rfl), dataP_long _ _ (by rw [HLY.out]; omega), e31]
                                  rfl
                                have HFA := hid (facts_whole HFE.out (by unfold tellsE; rw [if_neg (by rw [hfr.out]; show (bt : Int) ≠ 4; rw [B2'.out]; decide)]) HW.out)
                                generalize hq3e : byt (l.drop 24) 3 = q3 at *
                                generalize hq4e : fld (l.drop 24) 4 4 = q4 at *
                                have HQ4 := hid hq4e
                                clear hq3e hq4e HW B2 B2'
                                go_upto_region 32 with fail
                                have kp3 : ∀ x : WK (fun b' => False ∨ b' = g9) w8, (wat x).cell? ⟨b, YA + 3, none⟩ = some (.int .u8 (q3 : Int)) := fun x => (wat_cell (p := ⟨b, YA + 3, none⟩) (by simp; omega) (by simp; exact HYA.out.2) x).trans p3
                                clear p3 c0
                                refine wp_region_loud (fun b' => False ∨ b' = g9)
                                  [(6, plainL [] (.int .i64 (q4 : Int))), (9, factL [100] (fun _ => True) (fun _ => BlkF g9 30 (pkC ⟨(bt : Int), fa, fb, s, 0, 0, 0, 0, 0, 0, [], (q3 : Nat), 0, [], [], []⟩ none 0 0 none 0 0 none 0 0 none 0 0))),
                                   (11, factL [9] (fun _ => True) (fun _ => BlkF g9 30 (pkC ⟨(bt : Int), fa, fb, s, 0, 0, 0, 0, 0, 0, [], (q3 : Nat), q4, [], [], []⟩ none 0 0 none 0 0 none 0 0 none 0 0)))]
                                  (addL 100 (BlkF g9 30 (pkC ⟨(bt : Int), fa, fb, s, 0, 0, 0, 0, 0, 0, [], 0, 0, [], [], []⟩ none 0 0 none 0 0 none 0 0 none 0 0)) (fun _ => Fact.none)) (by kernel_rfl) (by kernel_rfl)
                                  (.cons (plainL_ok _ _) (.cons (factL_ok ⟨undef, trivial⟩ (fun _ => good_blk _ _ _)) (.cons (factL_ok ⟨undef, trivial⟩ (fun _ => good_blk _ _ _)) .nil)))
                                  (good_add _ (good_blk _ _ _) good_nothing)
                                  (sat_add 100 sat_none (fun b _ h => h) (fun b' (hb : b' = g9) => by omega) ⟨rfl, hg9⟩) (WX.out ?_)
                                repeat (first | ((first | refine wx_quietU (by rfl) (by rfl) (by rfl) (fun K hK => ?_) | refine wx_quietG (by rfl) (by rfl) (by rfl) (by rfl) (by rfl) (fun K hK => ?_)); go_big_quiet_op; refine hK _ ?_; clear hK K) | ((first | refine wx_skipG (by rfl) (by rfl) (by rfl) (fun K hK => ?_) | refine wx_skipN (by rfl) (by rfl) (by rfl) (fun K hK => ?_)); go_simp; refine hK _ ?_; clear hK K))
                                refine wx_loudU (us := []) (by rfl) (by rfl) (fun S wS hC hS hU => runs_enter (f := 50) (by go_simp <;> rfl) ?_) (fun v hv K hK => ?_)
                                · have hmS := sl_kept hm48 hC (fun ad had hb => by injection had with had; subst had; rcases hb with hb | hb; exact hb; exact HYA.out.2 hb)
                                  refine (refNum_any _ 4 _ (((l.drop 24).drop 4).take 4) wS (by exact hmS) (by omega)).mono ?_
                                  rintro e w' ⟨rfl, rfl⟩
                                  exact ⟨_, rfl, congrArg (fun k : Nat => Value.int .i64 (k : Int)) ((nv_take ((l.drop 24).drop 4) 4 4 (by omega)).trans HQ4.out), Kept.refl _ _, trivial⟩
                                obtain rfl := hv; (go_simp; refine hK _ ?_; clear hK K)
                                repeat (first | ((first | refine wx_quietU (by rfl) (by rfl) (by rfl) (fun K hK => ?_) | refine wx_quietG (by rfl) (by rfl) (by rfl) (by rfl) (by rfl) (fun K hK => ?_)); go_big_quiet_op; refine hK _ ?_; clear hK K) | ((first | refine wx_skipG (by rfl) (by rfl) (by rfl) (fun K hK => ?_) | refine wx_skipN (by rfl) (by rfl) (by rfl) (fun K hK => ?_)); go_simp; refine hK _ ?_; clear hK K))
                                refine wx_loudU (us := [100]) (by rfl) (by rfl) (fun S wS hC hS hU => ?_) (fun v hv K hK => ?_)
                                · have hB : BlkF g9 30 (pkC ⟨(bt : Int), fa, fb, s, 0, 0, 0, 0, 0, 0, [], 0, 0, [], [], []⟩ none 0 0 none 0 0 none 0 0 none 0 0) S wS := hU 100 (by simp)
                                  obtain ⟨hc, hf⟩ := blkF_cells hB
                                  have hB9 := blk_set hB.2 11 (.int .i64 (q3 : Int))
                                  simp at hB9
                                  exact runs_skip (by go_simp <;> rfl) ⟨trivial, (Kept.refl _ _).setCell (.inl hB.1) _, .inl hB.1, hB9⟩
                                (go_simp; refine hK _ ?_; clear hK K)
                                repeat (first | ((first | refine wx_quietU (by rfl) (by rfl) (by rfl) (fun K hK => ?_) | refine wx_quietG (by rfl) (by rfl) (by rfl) (by rfl) (by rfl) (fun K hK => ?_)); go_big_quiet_op; refine hK _ ?_; clear hK K) | ((first | refine wx_skipG (by rfl) (by rfl) (by rfl) (fun K hK => ?_) | refine wx_skipN (by rfl) (by rfl) (by rfl) (fun K hK => ?_)); go_simp; refine hK _ ?_; clear hK K))
                                refine wx_loudU (us := [9]) (by rfl) (by rfl) (fun S wS hC hS hU => ?_) (fun v hv K hK => ?_)
                                · have hB : BlkF g9 30 (pkC ⟨(bt : Int), fa, fb, s, 0, 0, 0, 0, 0, 0, [], (q3 : Nat), 0, [], [], []⟩ none 0 0 none 0 0 none 0 0 none 0 0) S wS := hU 9 (by simp)
                                  obtain ⟨hc, hf⟩ := blkF_cells hB
                                  have hB9 := blk_set hB.2 12 (.int .u32 (q4 : Int))
                                  simp at hB9
                                  exact runs_skip (by go_simp <;> rfl) ⟨trivial, (Kept.refl _ _).setCell (.inl hB.1) _, .inl hB.1, hB9⟩
                                (go_simp; refine hK _ ?_; clear hK K)
                                repeat (first | ((first | refine wx_quietU (by rfl) (by rfl) (by rfl) (fun K hK => ?_) | refine wx_quietG (by rfl) (by rfl) (by rfl) (by rfl) (by rfl) (fun K hK => ?_)); go_big_quiet_op; refine hK _ ?_; clear hK K) | ((first | refine wx_skipG (by rfl) (by rfl) (by rfl) (fun K hK => ?_) | refine wx_skipN (by rfl) (by rfl) (by rfl) (fun K hK => ?_)); go_simp; refine hK _ ?_; clear hK K))
                                refine wx_nil fun w9 hsat => ?_
                                obtain ⟨S11, _, hF11⟩ := sat_get hsat 11
                                have hB11 := (hF11 : BlkF g9 30 (pkC ⟨(bt : Int), fa, fb, s, 0, 0, 0, 0, 0, 0, [], (q3 : Nat), q4, [], [], []⟩ none 0 0 none 0 0 none 0 0 none 0 0) S11 w9).2
                                have hk9 := hsat.1.wider (S' := fun b' => b' = g9) (fun b' hb => by rcases hb with hb | hb; exact hb.elim; exact hb)
                                have hy9 := sl_kept hy8 hk9 (fun ad had hb => by injection had with had; subst had; exact HYA.out.2 hb)
                                clear hsat hF11 hm48 kp3
                                go_wp2_with fail
                                go_meet
                                all_goals go_light
                                exact ⟨⟨(bt : Int), fa, fb, s, 0, 0, 0, 0, 0, 0, [], (q3 : Nat), q4, [], [], []⟩, some ⟨b, YA, none⟩, ny, cy, 8, l.drop 24, none, 0, 0, none, 0, 0, none, 0, 0, [], rfl, rfl, by omega, by omega, hy9, fun _ ad had => by injection had with had; subst had; exact HYA.out, hB11, isPk_empty w9 _ rfl rfl rfl rfl,
                                  (fun _ h => by cases h), (fun _ h => by cases h), (fun _ h => by cases h), (fun _ h => by cases h), hk9, hsz, HFA.out.1, HFA.out.2.1, HFA.out.2.2⟩
                            by_cases b3 : bt = 3
                            · have t1 : ((bt : Int) == 1) = false := by rw [beq_eq_false_iff_ne]; omega
                              have t2 : ((bt : Int) == 2) = false := by rw [beq_eq_false_iff_ne]; omega
                              have t3 : ((bt : Int) == 3) = true := by rw [b3]; rfl
                              have hfr : Hid (frontP l s = bareP (bt : Int) fa fb s) := by show _ = _; rw [frontP_eq, HBT.out, HF4.out, HF8.out]
                              have B3' := hid b3
                              clear b1 b2 b3
                              as_aux_lemma =>
                                obtain ⟨CK, hCK⟩ : ∃ CK : Value → Array Value, CK = fun x => #[.int .i64 (bt : Int), .int .u32 (fa : Int), .int .u32 (fb : Int), .string s, .int .u32 0, .int .i64 0, .int .i64 0, .int .i64 0, .int .u32 0, .int .u32 0, .slice none 0 0, .int .i64 0, .int .u32 0, .slice none 0 0, x, .slice none 0 0] := ⟨_, rfl⟩
                                have HCK := hid hCK
                                have hg' : w8.heap[g9]? = some (.cells (CK (.slice none 0 0)) 30 (0, 0)) := by rw [hCK]; exact hg9
                                clear hCK
                                go_upto_region 36 with fail
                                clear c0
                                go_loopw [13] (fun i wr => ∃ (k m : Nat) (A : Option Addr) (c : Nat) (dk : List Ky), i = .int .i64 m ∧ m ≤ ny ∧ k ≤ m ∧ LoI w8 g9 30 (CK (.slice A k c)) 74 3 k (.slice A k c) (KY dk) wr ∧ Hid (keysOf (l.drop 24) = dk ++ keysOf ((l.drop 24).drop m))) (fun i _ => ny - (intOf i).toNat)
                                case atStart => exact ⟨0, 0, none, 0, [], rfl, Nat.zero_le _, Nat.le_refl _, ⟨hg', by simpa [KY] using World.ownsRow_nil _ _ _ _, Kept.refl _ _⟩, by show _ = _; simp⟩
                                case round =>
                                  obtain ⟨k, m, A, c, dk, rfl, hmn, hkm, hI, HD0⟩ := hrel
                                  have hsz' := hI.kp.size
                                  have hyr := sl_kept hy8 hI.kp (fun ad had hb => by injection had with had; subst had; exact HYA.out.2 hb)
                                  by_cases hlt : m + 12 ≤ ny
                                  · have hcm : m + 12 ≤ cy := by omega
                                    have hma : Sl wr 1 (.slice (some ⟨b, YA + m, none⟩) 4 (cy - m)) (B8 (((l.drop 24).drop m).take 4)) := by
                                      have := sl_mid hyr m (m + 4) (by omega) (by omega) (by omega)
                                      rwa [Nat.add_sub_cancel_left] at this
                                    have hmb : Sl wr 1 (.slice (some ⟨b, YA + (m + 4), none⟩) 4 (cy - (m + 4))) (B8 (((l.drop 24).drop (m + 4)).take 4)) := by
                                      have := sl_mid hyr (m + 4) (m + 4 + 4) (by omega) (by omega) (by omega)
                                      rwa [Nat.add_sub_cancel_left] at this
                                    have hmc : Sl wr 1 (.slice (some ⟨b, YA + (m + 8), none⟩) 4 (cy - (m + 8))) (B8 (((l.drop 24).drop (m + 8)).take 4)) := by
                                      have := sl_mid hyr (m + 8) (m + 8 + 4) (by omega) (by omega) (by omega)
                                      rwa [Nat.add_sub_cancel_left] at this
                                    have HTK : Hid (keysOf (l.drop 24) = (dk ++ [⟨(nv ((l.drop 24).drop m) 4 : Nat), (nv ((l.drop 24).drop (m + 4)) 4 : Nat), (nv ((l.drop 24).drop (m + 8)) 4 : Nat)⟩]) ++ keysOf ((l.drop 24).drop (m + 12))) := by
                                      show _ = _
                                      rw [HD0.out, keysOf_yes ((l.drop 24).drop m) (by rw [List.length_drop, HLY.out]; omega), List.drop_drop, List.drop_drop, List.drop_drop]
                                      simp [Nat.add_assoc]
                                    have hv0 : nv ((l.drop 24).drop m) 4 < 4294967296 := nv_lt _ 4
                                    have hv1 : nv ((l.drop 24).drop (m + 4)) 4 < 4294967296 := nv_lt _ 4
                                    have hv2 : nv ((l.drop 24).drop (m + 8)) 4 < 4294967296 := nv_lt _ 4
                                    generalize hx0 : nv ((l.drop 24).drop m) 4 = x0 at *
                                    generalize hx1 : nv ((l.drop 24).drop (m + 4)) 4 = x1 at *
                                    generalize hx2 : nv ((l.drop 24).drop (m + 8)) 4 = x2 at *
                                    have HX0 := hid hx0
                                    have HX1 := hid hx1
                                    have HX2 := hid hx2
                                    clear hx0 hx1 hx2 HD0 hyr
                                    as_aux_lemma =>
                                      go_upto_region 38 with fail
                                      have hown := hI.own
                                      have hne1 : ∀ b : Nat, Value.ownBlock (.slice A k c) = some b → w8.heap.size ≤ b := fun b hb => (hown.lt b hb).1
                                      have hd1 : ∀ b, Value.ownBlock (.slice A k c) = some b → (False ∨ b = g9) → False := by
                                        rintro b h1 (h2 | h2)
                                        · exact h2
                                        · have := hne1 b h1; omega
                                      have hS0 : ∀ (o : Nat) (ad : Addr), some (Addr.mk b o none) = some ad → ¬ ((False ∨ ad.block = g9) ∨ Value.ownBlock (.slice A k c) = some ad.block) := fun o ad had hh => by
                                        injection had with had
                                        subst had
                                        rcases hh with (hh | hh) | hh
                                        · exact hh
                                        · exact HYA.out.2 hh
                                        · have h7 : w8.heap.size ≤ b := hne1 _ hh; have h6 : b < w8.heap.size := HYA.out.1; omega
                                      refine wp_region_loud (fun b => (False ∨ b = g9) ∨ Value.ownBlock (.slice A k c) = some b)
                                        [(1, loadL [100] (.slice A k c) (BlkF g9 30 (CK (.slice A k c)))), (7, plainL [] (.int .i64 (x0 : Int))), (14, plainL [] (.int .i64 (x1 : Int))), (22, plainL [] (.int .i64 (x2 : Int))), (24, plainL [] (.agg #[.int .i64 (x0 : Int), .int .u32 (x1 : Int), .int .u32 (x2 : Int)])),
                                         (25, rowL [] w8.heap.size 74 3 1 (KY [⟨x0, x1, x2⟩])), (26, rowL [101, 25] w8.heap.size 74 3 (k + 1) (KY (dk ++ [⟨x0, x1, x2⟩]))),
                                         (28, factL [1, 26] (fun _ => True) (fun _ S w' => ∃ A1 c1, BlkF g9 30 (CK (.slice A1 (k + 1) c1)) S w' ∧ OwnF w8.heap.size 74 3 (k + 1) (KY (dk ++ [⟨x0, x1, x2⟩])) (.slice A1 (k + 1) c1) S w'))]
                                        (addL 101 (OwnF w8.heap.size 74 3 k (KY dk) (.slice A k c)) (addL 100 (BlkF g9 30 (CK (.slice A k c))) (fun _ => Fact.none))) (by kernel_rfl) (by kernel_rfl)
                                        (.cons (loadL_ok _ _ (good_blk _ _ _)) (.cons (plainL_ok _ _) (.cons (plainL_ok _ _) (.cons (plainL_ok _ _) (.cons (plainL_ok _ _) (.cons (rowL_ok _ _ _ _ _ _) (.cons (rowL_ok _ _ _ _ _ _) (.cons (factL_ok ⟨undef, trivial⟩ (fun _ S S' w w' h1 h2 ⟨A', c', h3, h4⟩ => ⟨A', c', good_blk _ _ _ S S' w w' h1 h2 h3, good_own _ _ _ _ _ _ S S' w w' h1 h2 h4⟩)) .nil))))))))
                                        (good_add _ (good_own _ _ _ _ _ _) (good_add _ (good_blk _ _ _) good_nothing))
                                        (sat_add 101 (sat_add 100 sat_none (fun b _ h => h) (fun b (hb : b = g9) => by omega) ⟨rfl, hI.hl⟩) hd1 (ownF_lt hown) (ownF_in hown)) (WX.out ?_)
                                      repeat (first | ((first | refine wx_quietU (by rfl) (by rfl) (by rfl) (fun K hK => ?_) | refine wx_quietG (by rfl) (by rfl) (by rfl) (by rfl) (by rfl) (fun K hK => ?_)); go_big_quiet_op; refine hK _ ?_; clear hK K) | ((first | refine wx_skipG (by rfl) (by rfl) (by rfl) (fun K hK => ?_) | refine wx_skipN (by rfl) (by rfl) (by rfl) (fun K hK => ?_)); go_simp; refine hK _ ?_; clear hK K))
                                      refine wx_loudU (us := [100]) (by rfl) (by rfl) (fun S wS hC hS hU => ?_) (fun v hv K hK => ?_)
                                      · have hB : BlkF g9 30 (CK (.slice A k c)) S wS := hU 100 (by simp)
                                        have hB2 := hB
                                        rw [HCK.out] at hB2
                                        obtain ⟨hc, hf⟩ := blkF_cells hB2
                                        exact load_x (by go_simp) (good_blk _ _ _) hB
                                      obtain rfl := hv; (go_simp; refine hK _ ?_; clear hK K)
                                      repeat (first | ((first | refine wx_quietU (by rfl) (by rfl) (by rfl) (fun K hK => ?_) | refine wx_quietG (by rfl) (by rfl) (by rfl) (by rfl) (by rfl) (fun K hK => ?_)); go_big_quiet_op; refine hK _ ?_; clear hK K) | ((first | refine wx_skipG (by rfl) (by rfl) (by rfl) (fun K hK => ?_) | refine wx_skipN (by rfl) (by rfl) (by rfl) (fun K hK => ?_)); go_simp; refine hK _ ?_; clear hK K))
                                      refine wx_loudU (us := []) (by rfl) (by rfl) (fun S wS hC hS hU => runs_enter (f := 50) (by go_simp <;> rfl) ?_) (fun v hv K hK => ?_)
                                      · refine (refNum_any _ 4 _ (((l.drop 24).drop m).take 4) wS (by exact sl_kept hma hC (hS0 _)) (by omega)).mono ?_
                                        rintro e w' ⟨rfl, rfl⟩
                                        exact ⟨_, rfl, congrArg (fun k : Nat => Value.int .i64 (k : Int)) ((nv_take ((l.drop 24).drop m) 4 4 (by omega)).trans HX0.out), Kept.refl _ _, trivial⟩
                                      obtain rfl := hv; (go_simp; refine hK _ ?_; clear hK K)
                                      repeat (first | ((first | refine wx_quietU (by rfl) (by rfl) (by rfl) (fun K hK => ?_) | refine wx_quietG (by rfl) (by rfl) (by rfl) (by rfl) (by rfl) (fun K hK => ?_)); go_big_quiet_op; refine hK _ ?_; clear hK K) | ((first | refine wx_skipG (by rfl) (by rfl) (by rfl) (fun K hK => ?_) | refine wx_skipN (by rfl) (by rfl) (by rfl) (fun K hK => ?_)); go_simp; refine hK _ ?_; clear hK K))
                                      refine wx_loudU (us := []) (by rfl) (by rfl) (fun S wS hC hS hU => runs_enter (f := 50) (by go_simp <;> rfl) ?_) (fun v hv K hK => ?_)
                                      · refine (refNum_any _ 4 _ (((l.drop 24).drop (m + 4)).take 4) wS (by exact sl_kept hmb hC (hS0 _)) (by omega)).mono ?_
                                        rintro e w' ⟨rfl, rfl⟩
                                        exact ⟨_, rfl, congrArg (fun k : Nat => Value.int .i64 (k : Int)) ((nv_take ((l.drop 24).drop (m + 4)) 4 4 (by omega)).trans HX1.out), Kept.refl _ _, trivial⟩
                                      obtain rfl := hv; (go_simp; refine hK _ ?_; clear hK K)
                                      repeat (first | ((first | refine wx_quietU (by rfl) (by rfl) (by rfl) (fun K hK => ?_) | refine wx_quietG (by rfl) (by rfl) (by rfl) (by rfl) (by rfl) (fun K hK => ?_)); go_big_quiet_op; refine hK _ ?_; clear hK K) | ((first | refine wx_skipG (by rfl) (by rfl) (by rfl) (fun K hK => ?_) | refine wx_skipN (by rfl) (by rfl) (by rfl) (fun K hK => ?_)); go_simp; refine hK _ ?_; clear hK K))
                                      refine wx_loudU (us := []) (by rfl) (by rfl) (fun S wS hC hS hU => runs_enter (f := 50) (by go_simp <;> rfl) ?_) (fun v hv K hK => ?_)
                                      · refine (refNum_any _ 4 _ (((l.drop 24).drop (m + 8)).take 4) wS (by exact sl_kept hmc hC (hS0 _)) (by omega)).mono ?_
                                        rintro e w' ⟨rfl, rfl⟩
                                        exact ⟨_, rfl, congrArg (fun k : Nat => Value.int .i64 (k : Int)) ((nv_take ((l.drop 24).drop (m + 8)) 4 4 (by omega)).trans HX2.out), Kept.refl _ _, trivial⟩
                                      obtain rfl := hv; (go_simp; refine hK _ ?_; clear hK K)
                                      repeat (first | ((first | refine wx_quietU (by rfl) (by rfl) (by rfl) (fun K hK => ?_) | refine wx_quietG (by rfl) (by rfl) (by rfl) (by rfl) (by rfl) (fun K hK => ?_)); go_big_quiet_op; refine hK _ ?_; clear hK K) | ((first | refine wx_skipG (by rfl) (by rfl) (by rfl) (fun K hK => ?_) | refine wx_skipN (by rfl) (by rfl) (by rfl) (fun K hK => ?_)); go_simp; refine hK _ ?_; clear hK K))
                                      refine wx_loudU (us := []) (by rfl) (by rfl) (fun S wS hC hS hU => ?_) (fun v hv K hK => ?_)
                                      · exact runs_buildV 74 [(0, .tmp 186), (1, .tmp 194), (2, .tmp 202)] rfl [(0, .int .i64 (x0 : Int)), (1, .int .u32 (x1 : Int)), (2, .int .u32 (x2 : Int))] rfl _ (key_built3 _ _ _) ⟨rfl, Kept.refl _ _, trivial⟩
                                      obtain rfl := hv; (go_simp; refine hK _ ?_; clear hK K)
                                      repeat (first | ((first | refine wx_quietU (by rfl) (by rfl) (by rfl) (fun K hK => ?_) | refine wx_quietG (by rfl) (by rfl) (by rfl) (by rfl) (by rfl) (fun K hK => ?_)); go_big_quiet_op; refine hK _ ?_; clear hK K) | ((first | refine wx_skipG (by rfl) (by rfl) (by rfl) (fun K hK => ?_) | refine wx_skipN (by rfl) (by rfl) (by rfl) (fun K hK => ?_)); go_simp; refine hK _ ?_; clear hK K))
                                      refine wx_loudU (us := []) (by rfl) (by rfl) (fun S wS hC hS hU => ?_) (fun v hv K hK => ?_)
                                      · refine runs_build1 st_rkys (.tmp 203) rfl #[.int .i64 (x0 : Int), .int .u32 (x1 : Int), .int .u32 (x2 : Int)] rfl rfl (by omega) (by omega) ?_
                                        exact made_x rfl (Nat.le_trans hsz' hC.size) (by rfl) (by rfl) (by omega) (by omega)
                                      obtain ⟨A6, c6, rfl⟩ := hv; (go_simp; refine hK _ ?_; clear hK K)
                                      repeat (first | ((first | refine wx_quietU (by rfl) (by rfl) (by rfl) (fun K hK => ?_) | refine wx_quietG (by rfl) (by rfl) (by rfl) (by rfl) (by rfl) (fun K hK => ?_)); go_big_quiet_op; refine hK _ ?_; clear hK K) | ((first | refine wx_skipG (by rfl) (by rfl) (by rfl) (fun K hK => ?_) | refine wx_skipN (by rfl) (by rfl) (by rfl) (fun K hK => ?_)); go_simp; refine hK _ ?_; clear hK K))
                                      refine wx_loudU (us := [101, 25]) (by rfl) (by rfl) (fun S wS hC hS hU => ?_) (fun v hv K hK => ?_)
                                      · exact appS_x (.tmp 180) (.tmp 204) st_rkys (by rfl) (by rfl) (by rfl) (hU 101 (by simp)) (own_sl (hU 25 (by simp)).2) (KY_one _) (by simp [maxLen]; omega) (by omega) (Nat.le_trans hsz' hC.size) (KY_append _ _)
                                      obtain ⟨A7, c7, rfl⟩ := hv; (go_simp; refine hK _ ?_; clear hK K)
                                      repeat (first | ((first | refine wx_quietU (by rfl) (by rfl) (by rfl) (fun K hK => ?_) | refine wx_quietG (by rfl) (by rfl) (by rfl) (by rfl) (by rfl) (fun K hK => ?_)); go_big_quiet_op; refine hK _ ?_; clear hK K) | ((first | refine wx_skipG (by rfl) (by rfl) (by rfl) (fun K hK => ?_) | refine wx_skipN (by rfl) (by rfl) (by rfl) (fun K hK => ?_)); go_simp; refine hK _ ?_; clear hK K))
                                      refine wx_loudU (us := [1, 26]) (by rfl) (by rfl) (fun S wS hC hS hU => ?_) (fun v hv K hK => ?_)
                                      · have hB : BlkF g9 30 (CK (.slice A k c)) S wS := hU 1 (by simp)
                                        rw [HCK.out] at hB
                                        have hO : OwnF w8.heap.size 74 3 (k + 1) (KY (dk ++ [⟨x0, x1, x2⟩])) (.slice A7 (k + 1) c7) S wS := hU 26 (by simp)
                                        obtain ⟨hc, hf⟩ := blkF_cells hB
                                        have hO9 := ownsRow_kept hO.2 (Kept.setCell (S := fun b => b = g9) (Kept.refl _ wS) (p := ⟨g9, 14, none⟩) (.inl rfl) (.slice A7 (k + 1) c7)) (fun y hy => by have := (hO.2.lt y hy).1; omega)
                                        have hB9 := blk_set hB.2 14 (.slice A7 (k + 1) c7)
                                        simp at hB9
                                        exact runs_skip (by go_simp <;> rfl) ⟨trivial, (Kept.refl _ _).setCell (.inl hB.1) _, A7, c7, ⟨.inl hB.1, by rw [HCK.out]; exact hB9⟩, ⟨fun y hy => .inl (hO.1 y hy), hO9⟩⟩
                                      (go_simp; refine hK _ ?_; clear hK K)
                                      repeat (first | ((first | refine wx_quietU (by rfl) (by rfl) (by rfl) (fun K hK => ?_) | refine wx_quietG (by rfl) (by rfl) (by rfl) (by rfl) (by rfl) (fun K hK => ?_)); go_big_quiet_op; refine hK _ ?_; clear hK K) | ((first | refine wx_skipG (by rfl) (by rfl) (by rfl) (fun K hK => ?_) | refine wx_skipN (by rfl) (by rfl) (by rfl) (fun K hK => ?_)); go_simp; refine hK _ ?_; clear hK K))
                                      refine wx_nil fun w11 hsat => ?_
                                      obtain ⟨S11, hS11, hfin⟩ := sat_get hsat 28
                                      obtain ⟨A9, c9, hb11, ho11⟩ := (hfin : ∃ A1 c1, BlkF g9 30 (CK (.slice A1 (k + 1) c1)) S11 w11 ∧ OwnF w8.heap.size 74 3 (k + 1) (KY (dk ++ [⟨x0, x1, x2⟩])) (.slice A1 (k + 1) c1) S11 w11)
                                      have hkp11 := hI.kp.then hsat.1 (fun b hb h => by
                                        rcases h with (h | h) | h
                                        · exact h.elim
                                        · exact h
                                        · have := hne1 _ h; omega)
                                      clear hsat hS11
                                      go_wp2_with fail
                                      go_light
                                      exact ⟨⟨k + 1, m + 12, A9, c9, dk ++ [⟨x0, x1, x2⟩], by go_num, by omega, by omega, ⟨hb11.2, ho11.2, hkp11⟩, HTK⟩, by simp [intOf]; omega⟩
                                  · as_aux_lemma =>
                                      have hDK : keysOf (l.drop 24) = dk := by
                                        rw [HD0.out, keysOf_no ((l.drop 24).drop m) (by rw [List.length_drop, HLY.out]; omega)]
                                        simp
                                      have hly : (l.drop 24).drop ny = [] := List.drop_of_length_le (by rw [HLY.out]; exact Nat.le_refl _)
                                      have HW : Hid (pq ⟨(bt : Int), fa, fb, s, 0, 0, 0, 0, 0, 0, [], 0, 0, [], dk, []⟩ (l.drop 24) ny = wholeP l s) := by
                                        show _ = _
                                        unfold wholeP pq
                                        rw [hfr.out, tells3 (by show (bt : Int) = 3; rw [B3'.out]; rfl), hly, headsOf_no [] (by decide), hDK]
                                        rfl
                                      have HFA := hid (facts_whole HFE.out (by unfold tellsE; rw [if_neg (by rw [hfr.out]; show (bt : Int) ≠ 4; rw [B3'.out]; decide)]) HW.out)
                                      have hB := hI.hl
                                      rw [HCK.out] at hB
                                      have hk9 := hI.kp
                                      have hrow := own_sl hI.own
                                      have fA : FreshA w8.heap.size A := fun ad had => freshA_own hI.own ad had
                                      clear HW hDK hly hI HD0 B3'
                                      go_wp2_with fail
                                      go_meet
                                      all_goals go_light
                                      exact ⟨⟨(bt : Int), fa, fb, s, 0, 0, 0, 0, 0, 0, [], 0, 0, [], dk, []⟩, some ⟨b, YA, none⟩, ny, cy, ny, l.drop 24, none, 0, 0, A, k, c, none, 0, 0, [], rfl, rfl, by omega, Nat.le_refl _, hyr, fun _ ad had => by injection had with had; subst had; exact HYA.out, hB,
                                        ⟨nilU _, nil7 _, hrow, nil9 _ _, rfl, (fun p hp => by simp at hp)⟩, (fun _ h => by cases h), fA, (fun _ h => by cases h), (fun _ h => by cases h), hk9, hsz, HFA.out.1, HFA.out.2.1, HFA.out.2.2⟩
                            by_cases b4 : bt = 4
                            · have t1 : ((bt : Int) == 1) = false := by rw [beq_eq_false_iff_ne]; omega
                              have t2 : ((bt : Int) == 2) = false := by rw [beq_eq_false_iff_ne]; omega
                              have t3 : ((bt : Int) == 3) = false := by rw [beq_eq_false_iff_ne]; omega
                              have t4 : ((bt : Int) == 4) = true := by rw [b4]; rfl
                              have hfr : Hid (frontP l s = bareP (bt : Int) fa fb s) := by show _ = _; rw [frontP_eq, HBT.out, HF4.out, HF8.out]
                              have B4' := hid b4
                              have HTE : Hid (∀ k : Int, k ≠ 0 → lsasE (l.drop 24) = k → getPE l s = k) := by
                                show ∀ _, _
                                intro k hk he
                                have ht : tellsE (l.drop 24) (frontP l s) = k := by unfold tellsE; rw [if_pos (by rw [hfr.out]; show (bt : Int) = 4; rw [B4'.out]; rfl), he]
                                rw [getPE_tells l s HFE.out (by rw [ht]; exact hk), ht]
                              have HLE : Hid (lsasE (l.drop 24) = if (l.drop 24).length < 4 ∨ 20 < nv (l.drop 24) 4 then 3 else (lsasOf (nv (l.drop 24) 4) ((l.drop 24).drop 4)).1) := rfl
                              clear b1 b2 b3 b4
                              by_cases h4' : ny < 4
                              · have HE : Hid (getPE l s = 3) := by show _ = _; exact HTE.out 3 (by decide) (by rw [HLE.out, if_pos (.inl (by rw [HLY.out]; omega))])
                                as_aux_lemma =>
                                  go_wp2_with (refine wpList_store_whole rfl 30 (.tmp 4) (.tmp 214) rfl zeroC rfl rfl hr8 (by kernel_rfl) rfl zeroC_one ?_)
                                  intro wz hgz hgrz
                                  have hbz := hbb8.trans ((Below.refl w.heap.size w8).grown hgrz hbb8.size (by intro k hk; injection hk with hk; omega))
                                  go_wp2_with fail
                                  exact ret_row2 (fn := Try.f13) (x := .int .i64 3) (cs := zeroC) rfl rfl rfl hgz Try.underlying30 rfl (by kernel_rfl) rfl (getPPost_no HE.out (by omega) hbz)
                              as_aux_lemma =>
                                have hm4 := hy8.take 4 (by omega)
                                have hN : nv (l.drop 24) 4 < 4294967296 := nv_lt _ 4
                                generalize hNe : nv (l.drop 24) 4 = N at *
                                have HN := hid hNe
                                clear hNe
                                go_wp2_with fail
                                refine (refNum_any _ 4 _ ((l.drop 24).take 4) w8 (by exact hm4) (by omega)).mono ?_
                                rintro e wx ⟨rfl, rfl⟩
                                obtain ⟨w8, rfl⟩ : ∃ w8 : World, w8 = wx := ⟨_, rfl⟩
                                rw [show nv ((l.drop 24).take 4) 4 = N from (nv_take (l.drop 24) 4 4 (by omega)).trans HN.out]
                                clear hm4
                                go_upto_region 44 with fail
                                go_cut [10] (fun v wx => ∃ o : Nat, v = .slice (some ⟨b, o, none⟩) (ny - 4) (cy - 4) ∧ Sl w8 1 (.slice (some ⟨b, o, none⟩) (ny - 4) (cy - 4)) (B8 ((l.drop 24).drop 4)) ∧ wx = w8)
                                case first =>
                                  have hd := sl_drop hy8 4 (by omega)
                                  by_cases hc : cy = 4
                                  · subst hc
                                    obtain rfl : ny = 4 := by omega
                                    as_aux_lemma =>
                                      go_wp2_with fail
                                      go_meet
                                      all_goals go_light
                                      exact ⟨YA, rfl, by simpa using hd, rfl⟩
                                  · rw [if_neg hc] at hd
                                    simp only [Option.map_some, addr_add] at hd
                                    as_aux_lemma =>
                                      go_wp2_with fail
                                      go_meet
                                      all_goals go_light
                                      exact ⟨YA + 4, rfl, hd, rfl⟩
                                case rest =>
                                  obtain ⟨o4, rfl, hz8, hw8⟩ := hcut
                                  subst hw8
                                  obtain ⟨w8, rfl⟩ : ∃ w8 : World, w8 = wc := ⟨_, rfl⟩
                                  by_cases h20 : 20 < N
                                  · have HE : Hid (getPE l s = 3) := by show _ = _; exact HTE.out 3 (by decide) (by rw [HLE.out, if_pos (.inr h20)])
                                    as_aux_lemma =>
                                      go_wp2_with (refine wpList_store_whole rfl 30 (.tmp 4) (.tmp 222) rfl zeroC rfl rfl hr8 (by kernel_rfl) rfl zeroC_one ?_)
                                      intro wz hgz hgrz
                                      have hbz := hbb8.trans ((Below.refl w.heap.size w8).grown hgrz hbb8.size (by intro k hk; injection hk with hk; omega))
                                      go_wp2_with fail
                                      exact ret_row2 (fn := Try.f13) (x := .int .i64 3) (cs := zeroC) rfl rfl rfl hgz Try.underlying30 rfl (by kernel_rfl) rfl (getPPost_no HE.out (by omega) hbz)
                                  have HEL : Hid (lsasE (l.drop 24) = (lsasOf N ((l.drop 24).drop 4)).1) := by show _ = _; rw [HLE.out, if_neg (by rw [HLY.out]; omega)]
                                  have HW : Hid (∀ L y off, lsasOf N ((l.drop 24).drop 4) = (0, L) → y.length ≤ off → pq ⟨(bt : Int), fa, fb, s, 0, 0, 0, 0, 0, 0, [], 0, 0, [], [], L⟩ y off = wholeP l s ∧ tellsE (l.drop 24) (frontP l s) = 0) := by
                                    show ∀ _, _
                                    intro L y off h1 h2
                                    have h3 : lsasE (l.drop 24) = 0 := by rw [HEL.out, h1]
                                    refine ⟨?_, by unfold tellsE; rw [h3]; simp⟩
                                    unfold wholeP pq
                                    rw [hfr.out, tells4 (by show (bt : Int) = 4; rw [B4'.out]; rfl), HN.out, h1, List.drop_of_length_le h2, headsOf_no [] (by decide)]
                                    rfl
                                  generalize (l.drop 24).drop 4 = z at *
                                  obtain ⟨CL, hCL⟩ : ∃ CL : Value → Array Value, CL = fun x => #[.int .i64 (bt : Int), .int .u32 (fa : Int), .int .u32 (fb : Int), .string s, .int .u32 0, .int .i64 0, .int .i64 0, .int .i64 0, .int .u32 0, .int .u32 0, .slice none 0 0, .int .i64 0, .int .u32 0, .slice none 0 0, .slice none 0 0, x] := ⟨_, rfl⟩
                                  have HCL := hid hCL
                                  have hg' : w8.heap[g9]? = some (.cells (CL (.slice none 0 0)) 30 (0, 0)) := by rw [hCL]; exact hg9
                                  clear hCL hy8 HLE B4' HLY hfr HN
                                  go_upto_region 48 with fail
                                  clear c0
                                  go_loopw [10, 15] (fun v i wr => ∃ (k o m d : Nat) (A : Option Addr) (c : Nat) (done : List (Lsa × LsR)) (rest : List UInt8), v = .slice (some ⟨b, o, none⟩) m d ∧ i = .int .i64 k ∧ k ≤ N ∧ Sl wr 1 (.slice (some ⟨b, o, none⟩) m d) (B8 rest) ∧ m ≤ 100000 ∧
                                    LoI w8 g9 30 (CL (.slice A k c)) 77 9 k (.slice A k c) (LS done) wr ∧ Hid (lsasOf N z = ((lsasOf (N - k) rest).1, done.map Prod.fst ++ (lsasOf (N - k) rest).2)) ∧
                                    (∀ p ∈ done, IsL wr p ∧ FreshA w8.heap.size p.2.A1 ∧ FreshA w8.heap.size p.2.A2 ∧ Apart (.slice A k c) p)) (fun _ i _ => N - (intOf i).toNat)
                                  case atStart => exact ⟨0, o4, ny - 4, cy - 4, none, 0, [], z, rfl, rfl, Nat.zero_le _, hz8, by omega, ⟨hg', by simpa [LS] using World.ownsRow_nil _ _ _ _, Kept.refl _ _⟩, by show _ = _; simp, fun p hp => by cases hp⟩
                                  case round =>
                                    obtain ⟨k, o, m, d, A, c, done, rest, rfl, rfl, hk, hsl, hm, hI, HD, hea⟩ := hrel
                                    have hzr := hI.kp.size
                                    have hrr := blk_kept hr8 hI.kp (by omega)
                                    have hbr := hbb8.trans (hI.kp.below_of (B := w.heap.size) (by omega) (fun b' hb' => by omega))
                                    obtain ⟨hrl, hmd, _⟩ := hsl.len
                                    have HRL := hid hrl
                                    clear hrl hz8
                                    by_cases hlt : k < N
                                    · obtain ⟨q, hq⟩ : ∃ q, N - k = q + 1 := ⟨N - k - 1, by omega⟩
                                      rw [hq] at HD
                                      have HQ := hid hq
                                      clear hq
                                      by_cases hs1 : m < 20
                                      · have HE : Hid (getPE l s = 3) := by show _ = _; exact HTE.out 3 (by decide) (by rw [HEL.out, HD.out, lsas_stop q rest (.inl (by rw [HRL.out]; exact hs1))])
                                        clear hea hI hsl
                                        as_aux_lemma =>
                                          go_wp2_with (refine wpList_store_whole rfl 30 (.tmp 4) (.tmp 245) rfl zeroC rfl rfl hrr (by kernel_rfl) rfl zeroC_one ?_)
                                          intro wz hgz hgrz
                                          have hbz := hbr.trans ((Below.refl w.heap.size wr).grown hgrz hbr.size (by intro k hk; injection hk with hk; omega))
                                          go_wp2_with fail
                                          exact ret_row2 (fn := Try.f13) (x := .int .i64 3) (cs := zeroC) rfl rfl rfl hgz Try.underlying30 rfl (by kernel_rfl) rfl (getPPost_no HE.out (by omega) hbz)
                                      have hm18 : Sl wr 1 (.slice (some ⟨b, o + 18, none⟩) 2 (d - 18)) (B8 ((rest.drop 18).take 2)) := sl_mid hsl 18 20 (by omega) (by omega) (by omega)
                                      have hf : fld rest 18 2 < 65536 := nv_lt _ 2
                                      have HNUM : Hid (nv ((rest.drop 18).take 2) 2 = fld rest 18 2) := nv_take (rest.drop 18) 2 2 (by omega)
                                      generalize hfe : fld rest 18 2 = f at *
                                      have HF := hid hfe
                                      clear hfe
                                      go_wp2_with fail
                                      refine (refNum_any _ 2 _ ((rest.drop 18).take 2) wr (by exact hm18) (by omega)).mono ?_
                                      rintro e wx ⟨rfl, rfl⟩
                                      obtain ⟨wr, rfl⟩ : ∃ wr : World, wr = wx := ⟨_, rfl⟩
                                      rw [HNUM.out]
                                      by_cases hs2 : f < 20
                                      · have HE : Hid (getPE l s = 3) := by show _ = _; exact HTE.out 3 (by decide) (by rw [HEL.out, HD.out, lsas_stop q rest (.inr (.inl (by rw [HF.out]; exact hs2)))])
                                        clear hea hI hsl hm18
                                        as_aux_lemma =>
                                          go_wp2_with (refine wpList_store_whole rfl 30 (.tmp 4) (.tmp 245) rfl zeroC rfl rfl hrr (by kernel_rfl) rfl zeroC_one ?_)
                                          intro wz hgz hgrz
                                          have hbz := hbr.trans ((Below.refl w.heap.size wr).grown hgrz hbr.size (by intro k hk; injection hk with hk; omega))
                                          go_wp2_with fail
                                          exact ret_row2 (fn := Try.f13) (x := .int .i64 3) (cs := zeroC) rfl rfl rfl hgz Try.underlying30 rfl (by kernel_rfl) rfl (getPPost_no HE.out (by omega) hbz)
                                      go_wp2_with fail
                                      refine (refNum_any _ 2 _ ((rest.drop 18).take 2) wr (by exact hm18) (by omega)).mono ?_
                                      rintro e wx ⟨rfl, rfl⟩
                                      obtain ⟨wr, rfl⟩ : ∃ wr : World, wr = wx := ⟨_, rfl⟩
                                      rw [HNUM.out]
                                      by_cases hs3 : m < f
                                      · have HE : Hid (getPE l s = 3) := by show _ = _; exact HTE.out 3 (by decide) (by rw [HEL.out, HD.out, lsas_stop q rest (.inr (.inr (by rw [HF.out, HRL.out]; exact hs3)))])
                                        clear hea hI hsl hm18
                                        as_aux_lemma =>
                                          go_wp2_with (refine wpList_store_whole rfl 30 (.tmp 4) (.tmp 245) rfl zeroC rfl rfl hrr (by kernel_rfl) rfl zeroC_one ?_)
                                          intro wz hgz hgrz
                                          have hbz := hbr.trans ((Below.refl w.heap.size wr).grown hgrz hbr.size (by intro k hk; injection hk with hk; omega))
                                          go_wp2_with fail
                                          exact ret_row2 (fn := Try.f13) (x := .int .i64 3) (cs := zeroC) rfl rfl rfl hgz Try.underlying30 rfl (by kernel_rfl) rfl (getPPost_no HE.out (by omega) hbz)
                                      go_wp2_with fail
                                      refine (refNum_any _ 2 _ ((rest.drop 18).take 2) wr (by exact hm18) (by omega)).mono ?_
                                      rintro e wx ⟨rfl, rfl⟩
                                      obtain ⟨wr, rfl⟩ : ∃ wr : World, wr = wx := ⟨_, rfl⟩
                                      rw [HNUM.out]
                                      have HNS : Hid (¬ (rest.length < 20 ∨ fld rest 18 2 < 20 ∨ rest.length < fld rest 18 2)) := by show ¬ _; rw [HF.out, HRL.out]; omega
                                      have hct := hsl.take f (by omega)
                                      clear hm18 HNUM
                                      as_aux_lemma =>
                                        go_wp2_with fail
                                        refine (refGet_any _ f d (rest.take f) wr (by exact hct) (by omega)).mono ?_
                                        rintro e w3 ⟨L1, m1, d1, L2, m2, d2, rfl, hI3, hb3, hf1, hf2⟩
                                        have hb3r := blk_below hrr hb3 (blk_lt hrr)
                                        have hbA := (Below.refl w3.heap.size w3).alloc (Nat.le_refl _) (.cells (lsaC (getL (rest.take f)) L1 m1 d1 L2 m2 d2) 77)
                                        have hbr3 := hbr.trans (hb3.mono (by omega))
                                        have hz3 := hb3.size
                                        by_cases hE : getE (rest.take f) = 0
                                        rotate_left
                                        · have HL := hid (lsas_bad q rest HNS.out (by rw [HF.out]; exact hE))
                                          rw [HF.out] at HL
                                          have HE : Hid (getPE l s = getE (rest.take f)) := by show _ = _; exact HTE.out _ hE (by rw [HEL.out, HD.out, HL.out])
                                          have hEb : -9223372036854775808 ≤ getE (rest.take f) ∧ getE (rest.take f) ≤ 9223372036854775807 := by unfold getE; split <;> (try split) <;> (try split) <;> omega
                                          have hr4 := blk_alloc hb3r (.cells (lsaC (getL (rest.take f)) L1 m1 d1 L2 m2 d2) 77)
                                          have hbr4 := hbr3.trans (hbA.mono (by omega))
                                          generalize getE (rest.take f) = er at *
                                          generalize getL (rest.take f) = X at *
                                          have hne : (er != 0) = true := by simpa using hE
                                          clear HL hI hea hsl hct hI3 hb3r
                                          as_aux_lemma =>
                                            go_upto_if 257 with fail
                                            generalize w3.alloc (.cells (lsaC X L1 m1 d1 L2 m2 d2) 77) = w4 at *
                                            go_wp2_with (refine wpList_store_whole rfl 30 (.tmp 4) (.tmp 258) rfl zeroC rfl rfl hr4 (by kernel_rfl) rfl zeroC_one ?_)
                                            intro wz hgz hgrz
                                            have hbz := hbr4.trans ((Below.refl w.heap.size w4).grown hgrz hbr4.size (by intro k hk; injection hk with hk; omega))
                                            go_wp2_with fail
                                            exact ret_row2 (fn := Try.f13) (x := .int .i64 er) (cs := zeroC) rfl rfl rfl hgz Try.underlying30 rfl (by kernel_rfl) rfl (getPPost_no HE.out hE hbz)
                                        have HL := hid (lsas_ok q rest HNS.out (by rw [HF.out]; exact hE))
                                        have hgl3 : getL (rest.take f) = bodyL (rest.take f) := by unfold getL; rw [if_pos hE]
                                        rw [HF.out] at HL
                                        have HD2 : Hid (lsasOf N z = ((lsasOf (N - (k + 1)) (rest.drop f)).1, (done.map Prod.fst ++ [getL (rest.take f)]) ++ (lsasOf (N - (k + 1)) (rest.drop f)).2)) := by
                                          show _ = _
                                          rw [HD.out, HL.out, hgl3, show N - (k + 1) = q by have := HQ.out; omega]
                                          simp
                                        rw [hE]
                                        clear hE hgl3 HL HD HNS HQ hct
                                        generalize getL (rest.take f) = X at *
                                        have hI4 : LoI w8 g9 30 (CL (.slice A k c)) 77 9 k (.slice A k c) (LS done) (w3.alloc (.cells (lsaC X L1 m1 d1 L2 m2 d2) 77)) := ⟨blk_alloc (blk_below hI.hl hb3 (blk_lt hI.hl)) _, (own_below hI.own hb3).alloc _, (hI.kp.then (Kept.of_below (S := fun _ => False) hb3) (fun _ _ h => h.elim)).alloc _⟩
                                        have hownlq := ownF_lt hI.own
                                        have hsl4 := (hsl.below hb3).alloc (.cells (lsaC X L1 m1 d1 L2 m2 d2) 77)
                                        have hIn4 := hI3.below hbA
                                        have hea4 : ∀ p ∈ done, IsL (w3.alloc (.cells (lsaC X L1 m1 d1 L2 m2 d2) 77)) p ∧ FreshA w8.heap.size p.2.A1 ∧ FreshA w8.heap.size p.2.A2 ∧ Apart (.slice A k c) p := fun p hp => ⟨IsLsa.below (IsLsa.below (hea p hp).1 hb3) hbA, (hea p hp).2⟩
                                        have hgx := heap_alloc_new w3 (.cells (lsaC X L1 m1 d1 L2 m2 d2) 77)
                                        have hz4 : (w3.alloc (.cells (lsaC X L1 m1 d1 L2 m2 d2) 77)).heap.size = w3.heap.size + 1 := by simp
                                        clear hI hea hsl hbA hbr3 hb3r hb3 hI3
                                        go_upto_region 56 with fail
                                        generalize w3.alloc (.cells (lsaC X L1 m1 d1 L2 m2 d2) 77) = w4 at *
                                        obtain ⟨gx, hgxe⟩ : ∃ gx : Nat, gx = w3.heap.size := ⟨_, rfl⟩
                                        rw [← hgxe] at hgx hz4 ⊢
                                        have hgx3 : wr.heap.size ≤ gx := by omega
                                        have hgx8 : w8.heap.size ≤ gx := by omega
                                        have hgxlt : gx < w4.heap.size := by omega
                                        have hz34 : w8.heap.size ≤ w4.heap.size := by omega
                                        have hown := hI4.own
                                        have hgx4 : ∀ b, Value.ownBlock (.slice A k c) = some b → b ≠ gx := fun b hb => by have := hownlq b hb; omega
                                        have hne1 : ∀ b : Nat, Value.ownBlock (.slice A k c) = some b → w8.heap.size ≤ b := fun b hb => (hown.lt b hb).1
                                        have hd1 : ∀ b, Value.ownBlock (.slice A k c) = some b → (False ∨ b = g9) → False := by
                                          rintro b h1 (h2 | h2)
                                          · exact h2
                                          · have := hne1 b h1; omega
                                        have hS0 : ¬ ((False ∨ gx = g9) ∨ Value.ownBlock (.slice A k c) = some gx) := fun hh => by
                                          rcases hh with (hh | hh) | hh
                                          · exact hh
                                          · omega
                                          · exact hgx4 _ hh rfl
                                        have kx : ∀ (x : WK (fun b => (False ∨ b = g9) ∨ Value.ownBlock (.slice A k c) = some b) w4) j, (wat x).cell? ⟨gx, j, none⟩ = _ := fun x j => (wat_cell (p := ⟨gx, j, none⟩) hgxlt hS0 x).trans ((blk_cells hgx).1 j)
                                        have kx0 := fun x => kx x 0
                                        have kx1 := fun x => kx x 1
                                        have kx2 := fun x => kx x 2
                                        have kx3 := fun x => kx x 3
                                        have kx4 := fun x => kx x 4
                                        have kx5 := fun x => kx x 5
                                        have kx6 := fun x => kx x 6
                                        have kx7 := fun x => kx x 7
                                        have kx8 := fun x => kx x 8
                                        simp at kx0 kx1 kx2 kx3 kx4 kx5 kx6 kx7 kx8
                                        clear kx hgxe
                                        have hd4 := sl_drop hsl4 f (by omega)
                                        by_cases hc5 : d = f
                                        · have hmf : m = f := by omega
                                          have hd5 : Sl w4 1 (.slice (some ⟨b, o, none⟩) 0 0) (B8 (rest.drop f)) := by
                                            rw [if_pos hc5, hc5, hmf, Nat.sub_self] at hd4
                                            exact hd4
                                          subst hc5
                                          subst hmf
                                          clear hd4
                                          as_aux_lemma =>
                                            refine wp_region_loud (fun b => (False ∨ b = g9) ∨ Value.ownBlock (.slice A k c) = some b)
                                              [(1, loadL [100] (.slice A k c) (BlkF g9 30 (CL (.slice A k c)))), (3, rowL [] w8.heap.size 77 9 1 (LS [(X, ⟨L1, m1, d1, L2, m2, d2⟩)])), (4, rowL [101, 3] w8.heap.size 77 9 (k + 1) (LS (done ++ [(X, ⟨L1, m1, d1, L2, m2, d2⟩)]))),
                                               (9, factL [1, 4] (fun _ => True) (fun _ S w' => ∃ A1 c1, BlkF g9 30 (CL (.slice A1 (k + 1) c1)) S w' ∧ OwnF w8.heap.size 77 9 (k + 1) (LS (done ++ [(X, ⟨L1, m1, d1, L2, m2, d2⟩)])) (.slice A1 (k + 1) c1) S w'))]
                                              (addL 101 (OwnF w8.heap.size 77 9 k (LS done) (.slice A k c)) (addL 100 (BlkF g9 30 (CL (.slice A k c))) (fun _ => Fact.none))) (by kernel_rfl) (by kernel_rfl)
                                              (.cons (loadL_ok _ _ (good_blk _ _ _)) (.cons (rowL_ok _ _ _ _ _ _) (.cons (rowL_ok _ _ _ _ _ _) (.cons (factL_ok ⟨undef, trivial⟩ (fun _ S S' w w' h1 h2 ⟨A', c', h3, h4⟩ => ⟨A', c', good_blk _ _ _ S S' w w' h1 h2 h3, good_own _ _ _ _ _ _ S S' w w' h1 h2 h4⟩)) .nil))))
                                              (good_add _ (good_own _ _ _ _ _ _) (good_add _ (good_blk _ _ _) good_nothing))
                                              (sat_add 101 (sat_add 100 sat_none (fun b _ h => h) (fun b (hb : b = g9) => by omega) ⟨rfl, hI4.hl⟩) hd1 (ownF_lt hown) (ownF_in hown)) (WX.out ?_)
                                            repeat (first | ((first | refine wx_quietU (by rfl) (by rfl) (by rfl) (fun K hK => ?_) | refine wx_quietG (by rfl) (by rfl) (by rfl) (by rfl) (by rfl) (fun K hK => ?_)); go_big_quiet_op; refine hK _ ?_; clear hK K) | ((first | refine wx_skipG (by rfl) (by rfl) (by rfl) (fun K hK => ?_) | refine wx_skipN (by rfl) (by rfl) (by rfl) (fun K hK => ?_)); go_simp; refine hK _ ?_; clear hK K))
                                            refine wx_loudU (us := [100]) (by rfl) (by rfl) (fun S wS hC hS hU => ?_) (fun v hv K hK => ?_)
                                            · have hB : BlkF g9 30 (CL (.slice A k c)) S wS := hU 100 (by simp)
                                              have hB2 := hB
                                              rw [HCL.out] at hB2
                                              obtain ⟨hc, hf⟩ := blkF_cells hB2
                                              exact load_x (by go_simp) (good_blk _ _ _) hB
                                            obtain rfl := hv; (go_simp; refine hK _ ?_; clear hK K)
                                            repeat (first | ((first | refine wx_quietU (by rfl) (by rfl) (by rfl) (fun K hK => ?_) | refine wx_quietG (by rfl) (by rfl) (by rfl) (by rfl) (by rfl) (fun K hK => ?_)); go_big_quiet_op; refine hK _ ?_; clear hK K) | ((first | refine wx_skipG (by rfl) (by rfl) (by rfl) (fun K hK => ?_) | refine wx_skipN (by rfl) (by rfl) (by rfl) (fun K hK => ?_)); go_simp; refine hK _ ?_; clear hK K))
                                            refine wx_loudU (us := []) (by rfl) (by rfl) (fun S wS hC hS hU => ?_) (fun v hv K hK => ?_)
                                            · refine runs_build1 st_rlsas (.tmp 262) rfl (lsaC X L1 m1 d1 L2 m2 d2) rfl rfl (by omega) (by omega) ?_
                                              exact made_x rfl (Nat.le_trans hz34 hC.size) (by rfl) (by rfl) (by omega) (by omega)
                                            obtain ⟨RA3, Rc3, rfl⟩ := hv; (go_simp; refine hK _ ?_; clear hK K)
                                            repeat (first | ((first | refine wx_quietU (by rfl) (by rfl) (by rfl) (fun K hK => ?_) | refine wx_quietG (by rfl) (by rfl) (by rfl) (by rfl) (by rfl) (fun K hK => ?_)); go_big_quiet_op; refine hK _ ?_; clear hK K) | ((first | refine wx_skipG (by rfl) (by rfl) (by rfl) (fun K hK => ?_) | refine wx_skipN (by rfl) (by rfl) (by rfl) (fun K hK => ?_)); go_simp; refine hK _ ?_; clear hK K))
                                            refine wx_loudU (us := [101, 3]) (by rfl) (by rfl) (fun S wS hC hS hU => ?_) (fun v hv K hK => ?_)
                                            · exact appS_x (.tmp 261) (.tmp 263) st_rlsas (by rfl) (by rfl) (by rfl) (hU 101 (by simp)) (own_sl (hU 3 (by simp)).2) (LS_one _) (by simp [maxLen]; omega) (by omega) (Nat.le_trans hz34 hC.size) (LS_append _ _)
                                            obtain ⟨A7, c7, rfl⟩ := hv; (go_simp; refine hK _ ?_; clear hK K)
                                            repeat (first | ((first | refine wx_quietU (by rfl) (by rfl) (by rfl) (fun K hK => ?_) | refine wx_quietG (by rfl) (by rfl) (by rfl) (by rfl) (by rfl) (fun K hK => ?_)); go_big_quiet_op; refine hK _ ?_; clear hK K) | ((first | refine wx_skipG (by rfl) (by rfl) (by rfl) (fun K hK => ?_) | refine wx_skipN (by rfl) (by rfl) (by rfl) (fun K hK => ?_)); go_simp; refine hK _ ?_; clear hK K))
                                            refine wx_loudU (us := [1, 4]) (by rfl) (by rfl) (fun S wS hC hS hU => ?_) (fun v hv K hK => ?_)
                                            · have hB : BlkF g9 30 (CL (.slice A k c)) S wS := hU 1 (by simp)
                                              rw [HCL.out] at hB
                                              have hO : OwnF w8.heap.size 77 9 (k + 1) (LS (done ++ [(X, ⟨L1, m1, d1, L2, m2, d2⟩)])) (.slice A7 (k + 1) c7) S wS := hU 4 (by simp)
                                              obtain ⟨hc, hf⟩ := blkF_cells hB
                                              have hO9 := ownsRow_kept hO.2 (Kept.setCell (S := fun b => b = g9) (Kept.refl _ wS) (p := ⟨g9, 15, none⟩) (.inl rfl) (.slice A7 (k + 1) c7)) (fun y hy => by have := (hO.2.lt y hy).1; omega)
                                              have hB9 := blk_set hB.2 15 (.slice A7 (k + 1) c7)
                                              simp at hB9
                                              exact runs_skip (by go_simp <;> rfl) ⟨trivial, (Kept.refl _ _).setCell (.inl hB.1) _, A7, c7, ⟨.inl hB.1, by rw [HCL.out]; exact hB9⟩, ⟨fun y hy => .inl (hO.1 y hy), hO9⟩⟩
                                            (go_simp; refine hK _ ?_; clear hK K)
                                            repeat (first | ((first | refine wx_quietU (by rfl) (by rfl) (by rfl) (fun K hK => ?_) | refine wx_quietG (by rfl) (by rfl) (by rfl) (by rfl) (by rfl) (fun K hK => ?_)); go_big_quiet_op; refine hK _ ?_; clear hK K) | ((first | refine wx_skipG (by rfl) (by rfl) (by rfl) (fun K hK => ?_) | refine wx_skipN (by rfl) (by rfl) (by rfl) (fun K hK => ?_)); go_simp; refine hK _ ?_; clear hK K))
                                            refine wx_nil fun w11 hsat => ?_
                                            obtain ⟨S11, hS11, hfin⟩ := sat_get hsat 9
                                            obtain ⟨A9, c9, hb11, ho11⟩ := (hfin : ∃ A1 c1, BlkF g9 30 (CL (.slice A1 (k + 1) c1)) S11 w11 ∧ OwnF w8.heap.size 77 9 (k + 1) (LS (done ++ [(X, ⟨L1, m1, d1, L2, m2, d2⟩)])) (.slice A1 (k + 1) c1) S11 w11)
                                            have hK9 := hsat.1
                                            have hkp11 := hI4.kp.then hsat.1 (fun b hb h => by
                                              rcases h with (h | h) | h
                                              · exact h.elim
                                              · exact h
                                              · have := hne1 _ h; omega)
                                            have hfrom : ∀ b, Value.ownBlock (.slice A9 (k + 1) c9) = some b → Value.ownBlock (.slice A k c) = some b ∨ w4.heap.size ≤ b := fun b hb => by
                                              have h1 := (ho11.2.lt b hb).1
                                              rcases (hS11 b (ho11.1 b hb)).1 with ((h2 | h2) | h2) | h2
                                              · exact h2.elim
                                              · omega
                                              · exact .inl h2
                                              · exact .inr h2
                                            have hSw : ∀ b, w8.heap.size ≤ b → ((False ∨ b = g9) ∨ Value.ownBlock (.slice A k c) = some b) → Value.ownBlock (.slice A k c) = some b := fun b hb h2 => by
                                              rcases h2 with (h2 | h2) | h2
                                              · exact h2.elim
                                              · omega
                                              · exact h2
                                            have hap : Apart (.slice A k c) (X, ⟨L1, m1, d1, L2, m2, d2⟩) :=
                                              ⟨fun _ ad had he => by have h1 := hf1 ad had; have h2 := hownlq _ he; omega, fun _ ad had he => by have h1 := hf2 ad had; have h2 := hownlq _ he; omega⟩
                                            have hea9 : ∀ p ∈ done ++ [(X, (⟨L1, m1, d1, L2, m2, d2⟩ : LsR))], IsL w11 p ∧ FreshA w8.heap.size p.2.A1 ∧ FreshA w8.heap.size p.2.A2 ∧ Apart (.slice A9 (k + 1) c9) p := by
                                              intro p hp
                                              rcases List.mem_append.1 hp with hp | hp
                                              · obtain ⟨e1, e2, e3, e4⟩ := hea4 p hp
                                                exact ⟨isL_kept e1 hK9 e2 e3 e4 hSw, e2, e3, apart_from e1 e4 hfrom⟩
                                              · obtain rfl : p = (X, ⟨L1, m1, d1, L2, m2, d2⟩) := by simpa using hp
                                                have e2 : FreshA w8.heap.size L1 := fun ad had => by have := hf1 ad had; omega
                                                have e3 : FreshA w8.heap.size L2 := fun ad had => by have := hf2 ad had; omega
                                                exact ⟨isL_kept (p := (X, ⟨L1, m1, d1, L2, m2, d2⟩)) hIn4 hK9 e2 e3 hap hSw, e2, e3, apart_from (p := (X, ⟨L1, m1, d1, L2, m2, d2⟩)) hIn4 hap hfrom⟩
                                            have hd11 := sl_kept hd5 hK9 (fun ad had hs => by
                                              injection had with had
                                              subst had
                                              rcases hs with (hs | hs) | hs
                                              · exact hs
                                              · exact HYA.out.2 hs
                                              · have h7 : w8.heap.size ≤ b := hne1 _ hs; have h6 : b < w8.heap.size := HYA.out.1; omega)
                                            clear hsat hS11 hK9 hea4 hIn4 hgx kx0 kx1 kx2 kx3 kx4 kx5 kx6 kx7 kx8 hd5 hap hSw hfrom
                                            go_wp2_with fail
                                            go_light
                                            refine ⟨⟨k + 1, o, 0, 0, A9, c9, done ++ [(X, ⟨L1, m1, d1, L2, m2, d2⟩)], _, rfl, by go_num, by omega, hd11, by omega, ⟨hb11.2, ho11.2, hkp11⟩, ?_, hea9⟩, by simp [intOf]; omega⟩
                                            show _ = _
                                            rw [HD2.out]
                                            simp
                                        · rw [if_neg hc5] at hd4
                                          simp only [Option.map_some, addr_add] at hd4
                                          have hd5 := hd4
                                          clear hd4
                                          as_aux_lemma =>
                                            refine wp_region_loud (fun b => (False ∨ b = g9) ∨ Value.ownBlock (.slice A k c) = some b)
                                              [(1, loadL [100] (.slice A k c) (BlkF g9 30 (CL (.slice A k c)))), (3, rowL [] w8.heap.size 77 9 1 (LS [(X, ⟨L1, m1, d1, L2, m2, d2⟩)])), (4, rowL [101, 3] w8.heap.size 77 9 (k + 1) (LS (done ++ [(X, ⟨L1, m1, d1, L2, m2, d2⟩)]))),
                                               (9, factL [1, 4] (fun _ => True) (fun _ S w' => ∃ A1 c1, BlkF g9 30 (CL (.slice A1 (k + 1) c1)) S w' ∧ OwnF w8.heap.size 77 9 (k + 1) (LS (done ++ [(X, ⟨L1, m1, d1, L2, m2, d2⟩)])) (.slice A1 (k + 1) c1) S w'))]
                                              (addL 101 (OwnF w8.heap.size 77 9 k (LS done) (.slice A k c)) (addL 100 (BlkF g9 30 (CL (.slice A k c))) (fun _ => Fact.none))) (by kernel_rfl) (by kernel_rfl)
                                              (.cons (loadL_ok _ _ (good_blk _ _ _)) (.cons (rowL_ok _ _ _ _ _ _) (.cons (rowL_ok _ _ _ _ _ _) (.cons (factL_ok ⟨undef, trivial⟩ (fun _ S S' w w' h1 h2 ⟨A', c', h3, h4⟩ => ⟨A', c', good_blk _ _ _ S S' w w' h1 h2 h3, good_own _ _ _ _ _ _ S S' w w' h1 h2 h4⟩)) .nil))))
                                              (good_add _ (good_own _ _ _ _ _ _) (good_add _ (good_blk _ _ _) good_nothing))
                                              (sat_add 101 (sat_add 100 sat_none (fun b _ h => h) (fun b (hb : b = g9) => by omega) ⟨rfl, hI4.hl⟩) hd1 (ownF_lt hown) (ownF_in hown)) (WX.out ?_)
                                            repeat (first | ((first | refine wx_quietU (by rfl) (by rfl) (by rfl) (fun K hK => ?_) | refine wx_quietG (by rfl) (by rfl) (by rfl) (by rfl) (by rfl) (fun K hK => ?_)); go_big_quiet_op; refine hK _ ?_; clear hK K) | ((first | refine wx_skipG (by rfl) (by rfl) (by rfl) (fun K hK => ?_) | refine wx_skipN (by rfl) (by rfl) (by rfl) (fun K hK => ?_)); go_simp; refine hK _ ?_; clear hK K))
                                            refine wx_loudU (us := [100]) (by rfl) (by rfl) (fun S wS hC hS hU => ?_) (fun v hv K hK => ?_)
                                            · have hB : BlkF g9 30 (CL (.slice A k c)) S wS := hU 100 (by simp)
                                              have hB2 := hB
                                              rw [HCL.out] at hB2
                                              obtain ⟨hc, hf⟩ := blkF_cells hB2
                                              exact load_x (by go_simp) (good_blk _ _ _) hB
                                            obtain rfl := hv; (go_simp; refine hK _ ?_; clear hK K)
                                            repeat (first | ((first | refine wx_quietU (by rfl) (by rfl) (by rfl) (fun K hK => ?_) | refine wx_quietG (by rfl) (by rfl) (by rfl) (by rfl) (by rfl) (fun K hK => ?_)); go_big_quiet_op; refine hK _ ?_; clear hK K) | ((first | refine wx_skipG (by rfl) (by rfl) (by rfl) (fun K hK => ?_) | refine wx_skipN (by rfl) (by rfl) (by rfl) (fun K hK => ?_)); go_simp; refine hK _ ?_; clear hK K))
                                            refine wx_loudU (us := []) (by rfl) (by rfl) (fun S wS hC hS hU => ?_) (fun v hv K hK => ?_)
                                            · refine runs_build1 st_rlsas (.tmp 262) rfl (lsaC X L1 m1 d1 L2 m2 d2) rfl rfl (by omega) (by omega) ?_
                                              exact made_x rfl (Nat.le_trans hz34 hC.size) (by rfl) (by rfl) (by omega) (by omega)
                                            obtain ⟨RA3, Rc3, rfl⟩ := hv; (go_simp; refine hK _ ?_; clear hK K)
                                            repeat (first | ((first | refine wx_quietU (by rfl) (by rfl) (by rfl) (fun K hK => ?_) | refine wx_quietG (by rfl) (by rfl) (by rfl) (by rfl) (by rfl) (fun K hK => ?_)); go_big_quiet_op; refine hK _ ?_; clear hK K) | ((first | refine wx_skipG (by rfl) (by rfl) (by rfl) (fun K hK => ?_) | refine wx_skipN (by rfl) (by rfl) (by rfl) (fun K hK => ?_)); go_simp; refine hK _ ?_; clear hK K))
                                            refine wx_loudU (us := [101, 3]) (by rfl) (by rfl) (fun S wS hC hS hU => ?_) (fun v hv K hK => ?_)
                                            · exact appS_x (.tmp 261) (.tmp 263) st_rlsas (by rfl) (by rfl) (by rfl) (hU 101 (by simp)) (own_sl (hU 3 (by simp)).2) (LS_one _) (by simp [maxLen]; omega) (by omega) (Nat.le_trans hz34 hC.size) (LS_append _ _)
                                            obtain ⟨A7, c7, rfl⟩ := hv; (go_simp; refine hK _ ?_; clear hK K)
                                            repeat (first | ((first | refine wx_quietU (by rfl) (by rfl) (by rfl) (fun K hK => ?_) | refine wx_quietG (by rfl) (by rfl) (by rfl) (by rfl) (by rfl) (fun K hK => ?_)); go_big_quiet_op; refine hK _ ?_; clear hK K) | ((first | refine wx_skipG (by rfl) (by rfl) (by rfl) (fun K hK => ?_) | refine wx_skipN (by rfl) (by rfl) (by rfl) (fun K hK => ?_)); go_simp; refine hK _ ?_; clear hK K))
                                            refine wx_loudU (us := [1, 4]) (by rfl) (by rfl) (fun S wS hC hS hU => ?_) (fun v hv K hK => ?_)
                                            · have hB : BlkF g9 30 (CL (.slice A k c)) S wS := hU 1 (by simp)
                                              rw [HCL.out] at hB
                                              have hO : OwnF w8.heap.size 77 9 (k + 1) (LS (done ++ [(X, ⟨L1, m1, d1, L2, m2, d2⟩)])) (.slice A7 (k + 1) c7) S wS := hU 4 (by simp)
                                              obtain ⟨hc, hf⟩ := blkF_cells hB
                                              have hO9 := ownsRow_kept hO.2 (Kept.setCell (S := fun b => b = g9) (Kept.refl _ wS) (p := ⟨g9, 15, none⟩) (.inl rfl) (.slice A7 (k + 1) c7)) (fun y hy => by have := (hO.2.lt y hy).1; omega)
                                              have hB9 := blk_set hB.2 15 (.slice A7 (k + 1) c7)
                                              simp at hB9
                                              exact runs_skip (by go_simp <;> rfl) ⟨trivial, (Kept.refl _ _).setCell (.inl hB.1) _, A7, c7, ⟨.inl hB.1, by rw [HCL.out]; exact hB9⟩, ⟨fun y hy => .inl (hO.1 y hy), hO9⟩⟩
                                            (go_simp; refine hK _ ?_; clear hK K)
                                            repeat (first | ((first | refine wx_quietU (by rfl) (by rfl) (by rfl) (fun K hK => ?_) | refine wx_quietG (by rfl) (by rfl) (by rfl) (by rfl) (by rfl) (fun K hK => ?_)); go_big_quiet_op; refine hK _ ?_; clear hK K) | ((first | refine wx_skipG (by rfl) (by rfl) (by rfl) (fun K hK => ?_) | refine wx_skipN (by rfl) (by rfl) (by rfl) (fun K hK => ?_)); go_simp; refine hK _ ?_; clear hK K))
                                            refine wx_nil fun w11 hsat => ?_
                                            obtain ⟨S11, hS11, hfin⟩ := sat_get hsat 9
                                            obtain ⟨A9, c9, hb11, ho11⟩ := (hfin : ∃ A1 c1, BlkF g9 30 (CL (.slice A1 (k + 1) c1)) S11 w11 ∧ OwnF w8.heap.size 77 9 (k + 1) (LS (done ++ [(X, ⟨L1, m1, d1, L2, m2, d2⟩)])) (.slice A1 (k + 1) c1) S11 w11)
                                            have hK9 := hsat.1
                                            have hkp11 := hI4.kp.then hsat.1 (fun b hb h => by
                                              rcases h with (h | h) | h
                                              · exact h.elim
                                              · exact h
                                              · have := hne1 _ h; omega)
                                            have hfrom : ∀ b, Value.ownBlock (.slice A9 (k + 1) c9) = some b → Value.ownBlock (.slice A k c) = some b ∨ w4.heap.size ≤ b := fun b hb => by
                                              have h1 := (ho11.2.lt b hb).1
                                              rcases (hS11 b (ho11.1 b hb)).1 with ((h2 | h2) | h2) | h2
                                              · exact h2.elim
                                              · omega
                                              · exact .inl h2
                                              · exact .inr h2
                                            have hSw : ∀ b, w8.heap.size ≤ b → ((False ∨ b = g9) ∨ Value.ownBlock (.slice A k c) = some b) → Value.ownBlock (.slice A k c) = some b := fun b hb h2 => by
                                              rcases h2 with (h2 | h2) | h2
                                              · exact h2.elim
                                              · omega
                                              · exact h2
                                            have hap : Apart (.slice A k c) (X, ⟨L1, m1, d1, L2, m2, d2⟩) :=
                                              ⟨fun _ ad had he => by have h1 := hf1 ad had; have h2 := hownlq _ he; omega, fun _ ad had he => by have h1 := hf2 ad had; have h2 := hownlq _ he; omega⟩
                                            have hea9 : ∀ p ∈ done ++ [(X, (⟨L1, m1, d1, L2, m2, d2⟩ : LsR))], IsL w11 p ∧ FreshA w8.heap.size p.2.A1 ∧ FreshA w8.heap.size p.2.A2 ∧ Apart (.slice A9 (k + 1) c9) p := by
                                              intro p hp
                                              rcases List.mem_append.1 hp with hp | hp
                                              · obtain ⟨e1, e2, e3, e4⟩ := hea4 p hp
                                                exact ⟨isL_kept e1 hK9 e2 e3 e4 hSw, e2, e3, apart_from e1 e4 hfrom⟩
                                              · obtain rfl : p = (X, ⟨L1, m1, d1, L2, m2, d2⟩) := by simpa using hp
                                                have e2 : FreshA w8.heap.size L1 := fun ad had => by have := hf1 ad had; omega
                                                have e3 : FreshA w8.heap.size L2 := fun ad had => by have := hf2 ad had; omega
                                                exact ⟨isL_kept (p := (X, ⟨L1, m1, d1, L2, m2, d2⟩)) hIn4 hK9 e2 e3 hap hSw, e2, e3, apart_from (p := (X, ⟨L1, m1, d1, L2, m2, d2⟩)) hIn4 hap hfrom⟩
                                            have hd11 := sl_kept hd5 hK9 (fun ad had hs => by
                                              injection had with had
                                              subst had
                                              rcases hs with (hs | hs) | hs
                                              · exact hs
                                              · exact HYA.out.2 hs
                                              · have h7 : w8.heap.size ≤ b := hne1 _ hs; have h6 : b < w8.heap.size := HYA.out.1; omega)
                                            clear hsat hS11 hK9 hea4 hIn4 hgx kx0 kx1 kx2 kx3 kx4 kx5 kx6 kx7 kx8 hd5 hap hSw hfrom
                                            go_wp2_with fail
                                            go_light
                                            refine ⟨⟨k + 1, o + f, (m - f), (d - f), A9, c9, done ++ [(X, ⟨L1, m1, d1, L2, m2, d2⟩)], _, rfl, by go_num, by omega, hd11, by omega, ⟨hb11.2, ho11.2, hkp11⟩, ?_, hea9⟩, by simp [intOf]; omega⟩
                                            show _ = _
                                            rw [HD2.out]
                                            simp
                                    · have hkN : k = N := by omega
                                      as_aux_lemma =>
                                        have hD : lsasOf N z = (0, done.map Prod.fst) := by rw [HD.out, hkN, Nat.sub_self]; simp [lsasOf]
                                        have hW := HW.out (done.map Prod.fst) rest m hD (by rw [HRL.out]; exact Nat.le_refl _)
                                        have HFA := hid (facts_whole HFE.out hW.2 hW.1)
                                        have hB := hI.hl
                                        rw [HCL.out] at hB
                                        have hk9 := hI.kp
                                        have hrow := own_sl hI.own
                                        have fA : FreshA w8.heap.size A := fun ad had => freshA_own hI.own ad had
                                        have HEA := hid hea
                                        clear hW hD hI HD hkN hea HW
                                        go_wp2_with fail
                                        go_meet
                                        all_goals go_light
                                        exact ⟨⟨(bt : Int), fa, fb, s, 0, 0, 0, 0, 0, 0, [], 0, 0, [], [], done.map Prod.fst⟩, some ⟨b, o, none⟩, m, d, m, rest, none, 0, 0, none, 0, 0, A, k, c, done.map Prod.snd, rfl, rfl, hm, Nat.le_refl _, hsl, fun _ ad had => by injection had with had; subst had; exact HYA.out, hB,
                                          ⟨nilU _, nil7 _, nil3 _, by rw [zip_done]; exact hrow, by simp, fun p hp => by rw [zip_done] at hp; exact (HEA.out p hp).1⟩, (fun _ h => by cases h), (fun _ h => by cases h), fA, (fun r hr => by obtain ⟨p, hp, rfl⟩ := List.mem_map.1 hr; exact ⟨(HEA.out p hp).2.1, (HEA.out p hp).2.2.1⟩), hk9, hsz, HFA.out.1, HFA.out.2.1, HFA.out.2.2⟩
                            have hfacts : (getPE l s = if rightR (pq (bareP (bt : Int) fa fb s) (l.drop 24) 0) = true ∧ putP (pq (bareP (bt : Int) fa fb s) (l.drop 24) 0) = l then 0 else 3) ∧ (getPE l s = 0 → getP l s = pq (bareP (bt : Int) fa fb s) (l.drop 24) 0) ∧
                                (rightR (pq (bareP (bt : Int) fa fb s) (l.drop 24) 0) = true → WfP (pq (bareP (bt : Int) fa fb s) (l.drop 24) 0)) := by
                              have hfr : frontP l s = bareP (bt : Int) fa fb s := by rw [frontP_eq, HBT.out, HF4.out, HF8.out]
                              by_cases b5 : bt = 5
                              · refine facts_whole HFE.out ?_ ?_
                                · unfold tellsE; rw [if_neg (by rw [hfr]; show (bt : Int) ≠ 4; omega)]
                                · unfold wholeP; rw [hfr, tells5 (by show (bt : Int) = 5; omega)]; rfl
                              · exact facts_odd HFE.out (by rw [HBT.out]; omega) (by rw [HBT.out]; rfl)
                            have HFA := hid hfacts
                            have t1 : ((bt : Int) == 1) = false := by rw [beq_eq_false_iff_ne]; omega
                            have t2 : ((bt : Int) == 2) = false := by rw [beq_eq_false_iff_ne]; omega
                            have t3 : ((bt : Int) == 3) = false := by rw [beq_eq_false_iff_ne]; omega
                            have t4 : ((bt : Int) == 4) = false := by rw [beq_eq_false_iff_ne]; omega
                            clear hfacts b1 b2 b3 b4
                            as_aux_lemma =>
                              go_wp2_with fail
                              go_meet
                              all_goals go_light
                              exact ⟨bareP (bt : Int) fa fb s, some ⟨b, YA, none⟩, ny, cy, 0, l.drop 24, none, 0, 0, none, 0, 0, none, 0, 0, [], rfl, rfl, by omega, by omega, hy8, fun _ ad had => by injection had with had; subst had; exact HYA.out, hg9, isPk_bare _ _ _ _ _,
                                (fun _ h => by cases h), (fun _ h => by cases h), (fun _ h => by cases h), (fun _ h => by cases h), Kept.refl _ _, hsz, HFA.out.1, HFA.out.2.1, HFA.out.2.2⟩
                        case rest =>
                          clear c0 hy8 HLY HYA HFE HBT HF4 HF8 hg9
                          obtain ⟨P, YA2, ny, cy, off2, y, A1, n1, c1, A3, n3, c3, A4, n4, c4, R, rfl, rfl, hny, hoff, hy, hyb, hg, hP, fA1, fA3, fA4, fR, hk, hsa, HGE, HGP, HWF⟩ := hcut
                          as_aux_lemma =>
                            have hl9 := sl_kept h8 hk (fun ad had hb => by injection had with had; subst had; simp at hb; omega)
                            obtain ⟨w9, rfl⟩ : ∃ w9 : World, w9 = wc := ⟨_, rfl⟩
                            have hsz9 := hk.size
                            have hr9 := blk_kept hr8 hk (by omega)
                            have hbb9 := hbb8.trans (hk.below_of (B := w.heap.size) (by omega) (fun b' hb' => by omega))
                            clear hr8 hbb8 hk
                            obtain ⟨ty, router, area, auth, mask, intv, dead, prio, dr, bdr, nbs, flags, seq, heads, keys, lsas⟩ := P
                            obtain ⟨CS, hCS⟩ : ∃ CS : Value → Array Value, CS = fun x => #[.int .i64 ty, .int .u32 (router : Int), .int .u32 (area : Int), .string auth, .int .u32 (mask : Int), .int .i64 intv, .int .i64 dead, .int .i64 prio, .int .u32 (dr : Int), .int .u32 (bdr : Int), .slice A1 n1 c1, .int .i64 flags, .int .u32 (seq : Int), x, .slice A3 n3 c3, .slice A4 n4 c4] := ⟨_, rfl⟩
                            have HCS := hid hCS
                            have hg' : w9.heap[g9]? = some (.cells (CS (.slice none 0 0)) 30 (0, 0)) := by rw [hCS]; exact hg
                            have hg9l' := blk_lt hg
                            have HGY := hid hyb
                            clear hCS hg hyb
                            as_aux_lemma =>
                              go_upto_region 59 with fail
                              go_loopw [19] (fun i wr => ∃ (k m : Nat) (A : Option Addr) (c : Nat) (dk : List Hdr), i = .int .i64 m ∧ m ≤ ny ∧ k ≤ m ∧ LoI w9 g9 30 (CS (.slice A k c)) 105 7 k (.slice A k c) (HD dk) wr ∧ Hid (headsOf (y.drop off2) = dk ++ headsOf (y.drop m))) (fun i _ => ny - (intOf i).toNat)
                              case atStart => exact ⟨0, off2, none, 0, [], rfl, hoff, Nat.zero_le _, ⟨hg', by simpa [HD] using World.ownsRow_nil _ _ _ _, Kept.refl _ _⟩, by show _ = _; simp⟩
                              case round =>
                                obtain ⟨k, m, A, c, dk, rfl, hmn, hkm, hI, HD0⟩ := hrel
                                have hsz := hI.kp.size
                                by_cases hlt : m + 20 ≤ ny
                                · have hyr := sl_kept hy hI.kp (fun ad had hb => by have := (HGY.out (by omega) ad had).2; omega)
                                  obtain ⟨yb, yo, rfl, hyl, _⟩ := hyr.byte (k := 0) (by omega)
                                  have hyb := HGY.out (by omega) _ rfl
                                  simp only at hyb
                                  have hm20 : Sl wr 1 (.slice (some ⟨yb, yo + m, none⟩) 20 (cy - m)) (B8 ((y.drop m).take 20)) := by
                                    have := sl_mid hyr m (m + 20) (by omega) (by omega) (by omega)
                                    rwa [Nat.add_sub_cancel_left] at this
                                  have hyn := hyr.len
                                  have HHC0 := hid (headC_take (y.drop m))
                                  have HTK0 : Hid (headsOf (y.drop off2) = (dk ++ [hdOf (y.drop m)]) ++ headsOf (y.drop (m + 20))) := by
                                    show _ = _
                                    rw [HD0.out, headsOf_yes (y.drop m) (by rw [List.length_drop]; omega), List.drop_drop]
                                    simp
                                  generalize hdOf (y.drop m) = X at *
                                  obtain ⟨xa, xt, xi, xv, xs, xm, xl⟩ := X
                                  have HHC : Hid (headC ((y.drop m).take 20) = #[.int .i64 xa, .int .i64 xt, .int .u32 xi, .int .u32 xv, .int .i64 xs, .int .u16 xm, .int .i64 xl]) := HHC0.out
                                  have HTK := HTK0
                                  have hynn := hyn.2.1
                                  clear HHC0 HTK0 hyn HD0 hyr
                                  as_aux_lemma =>
                                    go_upto_region 61 with fail
                                    have hown := hI.own
                                    have hne1 : ∀ b : Nat, Value.ownBlock (.slice A k c) = some b → w9.heap.size ≤ b := fun b hb => (hown.lt b hb).1
                                    have hd1 : ∀ b, Value.ownBlock (.slice A k c) = some b → (False ∨ b = g9) → False := by
                                      rintro b h1 (h2 | h2)
                                      · exact h2
                                      · have := hne1 b h1; omega
                                    have hS0 : ∀ ad : Addr, some (Addr.mk yb (yo + m) none) = some ad → ¬ ((False ∨ ad.block = g9) ∨ Value.ownBlock (.slice A k c) = some ad.block) := fun ad had hh => by
                                      injection had with had
                                      subst had
                                      rcases hh with (hh | hh) | hh
                                      · exact hh
                                      · exact hyb.2 hh
                                      · have := hne1 _ hh; simp at this; omega
                                    refine wp_region_loud (fun b => (False ∨ b = g9) ∨ Value.ownBlock (.slice A k c) = some b)
                                      [(1, loadL [100] (.slice A k c) (BlkF g9 30 (CS (.slice A k c)))), (7, plainL [] (.agg #[.int .i64 xa, .int .i64 xt, .int .u32 xi, .int .u32 xv, .int .i64 xs, .int .u16 xm, .int .i64 xl])),
                                       (8, rowL [] w9.heap.size 105 7 1 (HD [⟨xa, xt, xi, xv, xs, xm, xl⟩])), (9, rowL [101, 8] w9.heap.size 105 7 (k + 1) (HD (dk ++ [⟨xa, xt, xi, xv, xs, xm, xl⟩]))),
                                       (11, factL [1, 9] (fun _ => True) (fun _ S w' => ∃ A1 c1, BlkF g9 30 (CS (.slice A1 (k + 1) c1)) S w' ∧ OwnF w9.heap.size 105 7 (k + 1) (HD (dk ++ [⟨xa, xt, xi, xv, xs, xm, xl⟩])) (.slice A1 (k + 1) c1) S w'))]
                                      (addL 101 (OwnF w9.heap.size 105 7 k (HD dk) (.slice A k c)) (addL 100 (BlkF g9 30 (CS (.slice A k c))) (fun _ => Fact.none))) (by kernel_rfl) (by kernel_rfl)
                                      (.cons (loadL_ok _ _ (good_blk _ _ _)) (.cons (plainL_ok _ _) (.cons (rowL_ok _ _ _ _ _ _) (.cons (rowL_ok _ _ _ _ _ _) (.cons (factL_ok ⟨undef, trivial⟩ (fun _ S S' w w' h1 h2 ⟨A', c', h3, h4⟩ => ⟨A', c', good_blk _ _ _ S S' w w' h1 h2 h3, good_own _ _ _ _ _ _ S S' w w' h1 h2 h4⟩)) .nil)))))
                                      (good_add _ (good_own _ _ _ _ _ _) (good_add _ (good_blk _ _ _) good_nothing))
                                      (sat_add 101 (sat_add 100 sat_none (fun b _ h => h) (fun b (hb : b = g9) => by omega) ⟨rfl, hI.hl⟩) hd1 (ownF_lt hown) (ownF_in hown)) (WX.out ?_)
                                    repeat (first | ((first | refine wx_quietU (by rfl) (by rfl) (by rfl) (fun K hK => ?_) | refine wx_quietG (by rfl) (by rfl) (by rfl) (by rfl) (by rfl) (fun K hK => ?_)); go_big_quiet_op; refine hK _ ?_; clear hK K) | ((first | refine wx_skipG (by rfl) (by rfl) (by rfl) (fun K hK => ?_) | refine wx_skipN (by rfl) (by rfl) (by rfl) (fun K hK => ?_)); go_simp; refine hK _ ?_; clear hK K))
                                    refine wx_loudU (us := [100]) (by rfl) (by rfl) (fun S wS hC hS hU => ?_) (fun v hv K hK => ?_)
                                    · have hB : BlkF g9 30 (CS (.slice A k c)) S wS := hU 100 (by simp)
                                      have hB2 := hB
                                      rw [HCS.out] at hB2
                                      obtain ⟨hc, hf⟩ := blkF_cells hB2
                                      exact load_x (by go_simp) (good_blk _ _ _) hB
                                    obtain rfl := hv; (go_simp; refine hK _ ?_; clear hK K)
                                    repeat (first | ((first | refine wx_quietU (by rfl) (by rfl) (by rfl) (fun K hK => ?_) | refine wx_quietG (by rfl) (by rfl) (by rfl) (by rfl) (by rfl) (fun K hK => ?_)); go_big_quiet_op; refine hK _ ?_; clear hK K) | ((first | refine wx_skipG (by rfl) (by rfl) (by rfl) (fun K hK => ?_) | refine wx_skipN (by rfl) (by rfl) (by rfl) (fun K hK => ?_)); go_simp; refine hK _ ?_; clear hK K))
                                    refine wx_loudU (us := []) (by rfl) (by rfl) (fun S wS hC hS hU => runs_enter (f := 52) (by go_simp <;> rfl) ?_) (fun v hv K hK => ?_)
                                    · have hmS := sl_kept hm20 hC (fun ad had => hS0 ad had)
                                      refine (refHead_any _ 20 _ ((y.drop m).take 20) wS (by exact hmS) (by omega)).mono ?_
                                      rintro e w' ⟨rfl, hb2⟩
                                      exact ⟨_, rfl, congrArg Value.agg HHC.out, Kept.of_below hb2, trivial⟩
                                    obtain rfl := hv; (go_simp; refine hK _ ?_; clear hK K)
                                    repeat (first | ((first | refine wx_quietU (by rfl) (by rfl) (by rfl) (fun K hK => ?_) | refine wx_quietG (by rfl) (by rfl) (by rfl) (by rfl) (by rfl) (fun K hK => ?_)); go_big_quiet_op; refine hK _ ?_; clear hK K) | ((first | refine wx_skipG (by rfl) (by rfl) (by rfl) (fun K hK => ?_) | refine wx_skipN (by rfl) (by rfl) (by rfl) (fun K hK => ?_)); go_simp; refine hK _ ?_; clear hK K))
                                    refine wx_loudU (us := []) (by rfl) (by rfl) (fun S wS hC hS hU => ?_) (fun v hv K hK => ?_)
                                    · refine runs_build1 st_rhds (.tmp 286) rfl #[.int .i64 xa, .int .i64 xt, .int .u32 xi, .int .u32 xv, .int .i64 xs, .int .u16 xm, .int .i64 xl] rfl rfl (by omega) (by omega) ?_
                                      exact made_x rfl (Nat.le_trans hsz hC.size) (by rfl) (by rfl) (by omega) (by omega)
                                    obtain ⟨A6, c6, rfl⟩ := hv; (go_simp; refine hK _ ?_; clear hK K)
                                    repeat (first | ((first | refine wx_quietU (by rfl) (by rfl) (by rfl) (fun K hK => ?_) | refine wx_quietG (by rfl) (by rfl) (by rfl) (by rfl) (by rfl) (fun K hK => ?_)); go_big_quiet_op; refine hK _ ?_; clear hK K) | ((first | refine wx_skipG (by rfl) (by rfl) (by rfl) (fun K hK => ?_) | refine wx_skipN (by rfl) (by rfl) (by rfl) (fun K hK => ?_)); go_simp; refine hK _ ?_; clear hK K))
                                    refine wx_loudU (us := [101, 8]) (by rfl) (by rfl) (fun S wS hC hS hU => ?_) (fun v hv K hK => ?_)
                                    · exact appS_x (.tmp 280) (.tmp 287) st_rhds (by rfl) (by rfl) (by rfl) (hU 101 (by simp)) (own_sl (hU 8 (by simp)).2) (HD_one _) (by simp [maxLen]; omega) (by omega) (Nat.le_trans hsz hC.size) (HD_append _ _)
                                    obtain ⟨A7, c7, rfl⟩ := hv; (go_simp; refine hK _ ?_; clear hK K)
                                    repeat (first | ((first | refine wx_quietU (by rfl) (by rfl) (by rfl) (fun K hK => ?_) | refine wx_quietG (by rfl) (by rfl) (by rfl) (by rfl) (by rfl) (fun K hK => ?_)); go_big_quiet_op; refine hK _ ?_; clear hK K) | ((first | refine wx_skipG (by rfl) (by rfl) (by rfl) (fun K hK => ?_) | refine wx_skipN (by rfl) (by rfl) (by rfl) (fun K hK => ?_)); go_simp; refine hK _ ?_; clear hK K))
                                    refine wx_loudU (us := [1, 9]) (by rfl) (by rfl) (fun S wS hC hS hU => ?_) (fun v hv K hK => ?_)
                                    · have hB : BlkF g9 30 (CS (.slice A k c)) S wS := hU 1 (by simp)
                                      rw [HCS.out] at hB
                                      have hO : OwnF w9.heap.size 105 7 (k + 1) (HD (dk ++ [⟨xa, xt, xi, xv, xs, xm, xl⟩])) (.slice A7 (k + 1) c7) S wS := hU 9 (by simp)
                                      obtain ⟨hc, hf⟩ := blkF_cells hB
                                      have hO9 := ownsRow_kept hO.2 (Kept.setCell (S := fun b => b = g9) (Kept.refl _ wS) (p := ⟨g9, 13, none⟩) (.inl rfl) (.slice A7 (k + 1) c7)) (fun y hy => by have := (hO.2.lt y hy).1; omega)
                                      have hB9 := blk_set hB.2 13 (.slice A7 (k + 1) c7)
                                      simp at hB9
                                      exact runs_skip (by go_simp <;> rfl) ⟨trivial, (Kept.refl _ _).setCell (.inl hB.1) _, A7, c7, ⟨.inl hB.1, by rw [HCS.out]; exact hB9⟩, ⟨fun y hy => .inl (hO.1 y hy), hO9⟩⟩
                                    (go_simp; refine hK _ ?_; clear hK K)
                                    repeat (first | ((first | refine wx_quietU (by rfl) (by rfl) (by rfl) (fun K hK => ?_) | refine wx_quietG (by rfl) (by rfl) (by rfl) (by rfl) (by rfl) (fun K hK => ?_)); go_big_quiet_op; refine hK _ ?_; clear hK K) | ((first | refine wx_skipG (by rfl) (by rfl) (by rfl) (fun K hK => ?_) | refine wx_skipN (by rfl) (by rfl) (by rfl) (fun K hK => ?_)); go_simp; refine hK _ ?_; clear hK K))
                                    refine wx_nil fun w11 hsat => ?_
                                    obtain ⟨S11, hS11, hfin⟩ := sat_get hsat 11
                                    obtain ⟨A9, c9, hb11, ho11⟩ := (hfin : ∃ A1 c1, BlkF g9 30 (CS (.slice A1 (k + 1) c1)) S11 w11 ∧ OwnF w9.heap.size 105 7 (k + 1) (HD (dk ++ [⟨xa, xt, xi, xv, xs, xm, xl⟩])) (.slice A1 (k + 1) c1) S11 w11)
                                    have hkp11 := hI.kp.then hsat.1 (fun b hb h => by
                                      rcases h with (h | h) | h
                                      · exact h.elim
                                      · exact h
                                      · have := hne1 _ h; omega)
                                    clear hsat hS11
                                    go_wp2_with fail
                                    go_light
                                    exact ⟨⟨k + 1, m + 20, A9, c9, dk ++ [⟨xa, xt, xi, xv, xs, xm, xl⟩], by go_num, by omega, by omega, ⟨hb11.2, ho11.2, hkp11⟩, HTK⟩, by simp [intOf]; omega⟩
                                · have hly := hy.len.1
                                  have hDK : headsOf (y.drop off2) = dk := by
                                    rw [HD0.out, headsOf_no (y.drop m) (by rw [List.length_drop]; omega)]
                                    simp
                                  have HE3 : Hid (getPE l s = if rightR ⟨ty, router, area, auth, mask, intv, dead, prio, dr, bdr, nbs, flags, seq, dk, keys, lsas⟩ = true ∧ putP ⟨ty, router, area, auth, mask, intv, dead, prio, dr, bdr, nbs, flags, seq, dk, keys, lsas⟩ = l then 0 else 3) := by show _ = _; rw [← hDK]; exact HGE.out
                                  have HP3 : Hid (getPE l s = 0 → getP l s = ⟨ty, router, area, auth, mask, intv, dead, prio, dr, bdr, nbs, flags, seq, dk, keys, lsas⟩) := by show _ → _; rw [← hDK]; exact HGP.out
                                  have HW3 : Hid (rightR ⟨ty, router, area, auth, mask, intv, dead, prio, dr, bdr, nbs, flags, seq, dk, keys, lsas⟩ = true → WfP ⟨ty, router, area, auth, mask, intv, dead, prio, dr, bdr, nbs, flags, seq, dk, keys, lsas⟩) := by show _ → _; rw [← hDK]; exact HWF.out
                                  have hr11 := blk_kept hr9 hI.kp (by omega)
                                  have hbb11 := hbb9.trans (hI.kp.below_of (B := w.heap.size) (by omega) (fun b' hb' => by omega))
                                  have hl11 := sl_kept hl9 hI.kp (fun ad had hb => by injection had with had; subst had; simp at hb; omega)
                                  have hP11 : IsPk wr ⟨ty, router, area, auth, mask, intv, dead, prio, dr, bdr, nbs, flags, seq, dk, keys, lsas⟩ A1 n1 c1 A k c A3 n3 c3 A4 n4 c4 R := by
                                    refine ⟨sl_kept hP.nbs hI.kp (fun ad had hb => by have := fA1 ad had; omega), own_sl hI.own, sl_kept hP.keys hI.kp (fun ad had hb => by have := fA3 ad had; omega), sl_kept hP.lsas hI.kp (fun ad had hb => by have := fA4 ad had; omega), hP.rl, fun q hq => ?_⟩
                                    have hq2 : q.2 ∈ R := (List.of_mem_zip (a := q.1) (b := q.2) hq).2
                                    have hi := hP.each q hq
                                    exact ⟨sl_kept hi.links hI.kp (fun ad had hs => by have := (fR _ hq2).1 ad had; omega), sl_kept hi.routers hI.kp (fun ad had hs => by have := (fR _ hq2).2 ad had; omega)⟩
                                  have fA2 : FreshA w8.heap.size A := fun ad had => by have := freshA_own hI.own ad had; omega
                                  have hb11 := hI.hl
                                  rw [HCS.out] at hb11
                                  simp only at hb11
                                  have FR := hid fR
                                  have FA := hid (And.intro fA1 (And.intro fA2 (And.intro fA3 fA4)))
                                  have hw89 : w.heap.size < w8.heap.size := by omega
                                  clear HCS hI hP hDK HGE HGP HWF HD0 hy hl9 hr9 hbb9 fA1 fA2 fA3 fA4 fR hg' hly HGY
                                  have HPN := fun w h => hid (rPut_no ⟨ty, router, area, auth, mask, intv, dead, prio, dr, bdr, nbs, flags, seq, dk, keys, lsas⟩ A1 n1 c1 A k c A3 n3 c3 A4 n4 c4 R w h)
                                  have HPY := fun w h => hid (rPut_yes ⟨ty, router, area, auth, mask, intv, dead, prio, dr, bdr, nbs, flags, seq, dk, keys, lsas⟩ A1 n1 c1 A k c A3 n3 c3 A4 n4 c4 R w h)
                                  as_aux_lemma =>
                                    go_wp2_with (refine wpList_load_row rfl 30 (.tmp 9) rfl g9 rfl 30 (pkC ⟨ty, router, area, auth, mask, intv, dead, prio, dr, bdr, nbs, flags, seq, dk, keys, lsas⟩ A1 n1 c1 A k c A3 n3 c3 A4 n4 c4) (0, 0) _ hb11 Try.underlying30 rfl (by kernel_rfl) ?_)
                                    cases hR : rightR ⟨ty, router, area, auth, mask, intv, dead, prio, dr, bdr, nbs, flags, seq, dk, keys, lsas⟩
                                    · have HRR := hid hR
                                      clear hR
                                      refine ((HPN _ hP11).out HRR.out hsa).mono ?_
                                      rintro e w12 ⟨rfl, hb12⟩
                                      have hr12 := blk_below hr11 hb12 (blk_lt hr11)
                                      have hbb12 := hbb11.trans (hb12.mono hbb11.size)
                                      have hE3 : getPE l s = 3 := by rw [HE3.out, if_neg (by rw [HRR.out]; simp)]
                                      have HE := hid hE3
                                      clear HE3 hE3 hP11 hb11 hr11
                                      as_aux_lemma =>
                                        go_wp2_with (refine wpList_store_whole rfl 30 (.tmp 4) (.tmp 304) rfl zeroC rfl rfl hr12 (by kernel_rfl) rfl zeroC_one ?_)
                                        intro wz hgz hgrz
                                        have hbz := hbb12.trans ((Below.refl w.heap.size w12).grown hgrz hbb12.size (by intro k hk; injection hk with hk; omega))
                                        go_wp2_with fail
                                        exact ret_row2 (fn := Try.f13) (x := .int .i64 3) (cs := zeroC) rfl rfl rfl hgz Try.underlying30 rfl (by kernel_rfl) rfl (getPPost_no HE.out (by omega) hbz)
                                    · have HRR := hid hR
                                      clear hR
                                      refine ((HPY _ hP11).out (HW3.out HRR.out) HRR.out).mono ?_
                                      rintro e w12 ⟨Ab, nb, cb, rfl, hown12, hb12⟩
                                      have hr12 := blk_below hr11 hb12 (blk_lt hr11)
                                      have hb12' := blk_below hb11 hb12 (blk_lt hb11)
                                      have hbb12 := hbb11.trans (hb12.mono hbb11.size)
                                      have hl12 := hl11.below hb12
                                      have hP12 := hP11.below hb12
                                      have z1 := bstr (own_sl hown12)
                                      have z2 := bstr hl12
                                      clear hown12 hP11 hl11 hl12 hr11 hb11 hb12
                                      by_cases hq : putP ⟨ty, router, area, auth, mask, intv, dead, prio, dr, bdr, nbs, flags, seq, dk, keys, lsas⟩ = l
                                      · have hE3 : getPE l s = 0 := by rw [HE3.out, if_pos ⟨HRR.out, hq⟩]
                                        have HE := hid hE3
                                        rw [hq] at z1
                                        have t1 : ((S8 l).toList == (S8 l).toList) = true := by simp
                                        have t2 : ((S8 l).toList != (S8 l).toList) = false := by simp
                                        clear hq HE3 hE3
                                        as_aux_lemma =>
                                          go_wp2_with (first | refine wpList_load_row rfl 30 (.tmp 9) rfl g9 rfl 30 (pkC ⟨ty, router, area, auth, mask, intv, dead, prio, dr, bdr, nbs, flags, seq, dk, keys, lsas⟩ A1 n1 c1 A k c A3 n3 c3 A4 n4 c4) (0, 0) _ hb12' Try.underlying30 rfl (by kernel_rfl) ?_ | refine wpList_store_whole rfl 30 (.tmp 4) (.tmp 305) rfl (pkC ⟨ty, router, area, auth, mask, intv, dead, prio, dr, bdr, nbs, flags, seq, dk, keys, lsas⟩ A1 n1 c1 A k c A3 n3 c3 A4 n4 c4) rfl rfl hr12 (by kernel_rfl) rfl (pkC_one _ _ _ _ _ _ _ _ _ _ _ _ _) ?_)
                                          intro wz hgz hgrz
                                          have hgP := HP3.out HE.out
                                          have hK : Kept (fun b' => b' = w.heap.size) w12 wz := Kept.of_grown hgrz (fun b' hb' => by injection hb' with hb'; exact hb'.symm)
                                          have hbf : Below w.heap.size w wz := hbb12.trans ((Below.refl w.heap.size w12).grown hgrz hbb12.size (by intro k hk; injection hk with hk; omega))
                                          obtain ⟨fA1, fA2, fA3, fA4⟩ := FA.out
                                          have hPf : IsPk wz ⟨ty, router, area, auth, mask, intv, dead, prio, dr, bdr, nbs, flags, seq, dk, keys, lsas⟩ A1 n1 c1 A k c A3 n3 c3 A4 n4 c4 R := by
                                            refine ⟨sl_kept hP12.nbs hK (fun ad had hs => by have := fA1 ad had; omega), sl_kept hP12.heads hK (fun ad had hs => by have := fA2 ad had; omega), sl_kept hP12.keys hK (fun ad had hs => by have := fA3 ad had; omega), sl_kept hP12.lsas hK (fun ad had hs => by have := fA4 ad had; omega), hP12.rl, fun q hq => ?_⟩
                                            have hq2 : q.2 ∈ R := (List.of_mem_zip (a := q.1) (b := q.2) hq).2
                                            have hi := hP12.each q hq
                                            exact ⟨sl_kept hi.links hK (fun ad had hs => by have := (FR.out _ hq2).1 ad had; omega), sl_kept hi.routers hK (fun ad had hs => by have := (FR.out _ hq2).2 ad had; omega)⟩
                                          go_wp2_with fail
                                          refine ret_row2 (fn := Try.f13) (x := .int .i64 0) (cs := pkC ⟨ty, router, area, auth, mask, intv, dead, prio, dr, bdr, nbs, flags, seq, dk, keys, lsas⟩ A1 n1 c1 A k c A3 n3 c3 A4 n4 c4) rfl rfl rfl hgz Try.underlying30 rfl (by kernel_rfl) rfl ?_
                                          have hfin : GetPPost l s w (.returned (.tuple #[.agg (pkC ⟨ty, router, area, auth, mask, intv, dead, prio, dr, bdr, nbs, flags, seq, dk, keys, lsas⟩ A1 n1 c1 A k c A3 n3 c3 A4 n4 c4), .int .i64 0])) wz := by
                                            unfold GetPPost
                                            rw [hgP, HE.out]
                                            exact ⟨A1, n1, c1, A, k, c, A3, n3, c3, A4, n4, c4, R, rfl, hPf, hbf⟩
                                          exact hfin
                                      · have hE3 : getPE l s = 3 := by rw [HE3.out, if_neg (fun hh => hq hh.2)]
                                        have HE := hid hE3
                                        have t1 : ((S8 (putP ⟨ty, router, area, auth, mask, intv, dead, prio, dr, bdr, nbs, flags, seq, dk, keys, lsas⟩)).toList == (S8 l).toList) = false := by simp only [ba_toList, S8]; simpa using hq
                                        have t2 : ((S8 (putP ⟨ty, router, area, auth, mask, intv, dead, prio, dr, bdr, nbs, flags, seq, dk, keys, lsas⟩)).toList != (S8 l).toList) = true := by simp only [ba_toList, S8]; simpa using hq
                                        clear hq HE3 hE3
                                        as_aux_lemma =>
                                          go_wp2_with (refine wpList_store_whole rfl 30 (.tmp 4) (.tmp 304) rfl zeroC rfl rfl hr12 (by kernel_rfl) rfl zeroC_one ?_)
                                          intro wz hgz hgrz
                                          have hbz := hbb12.trans ((Below.refl w.heap.size w12).grown hgrz hbb12.size (by intro k hk; injection hk with hk; omega))
                                          go_wp2_with fail
                                          exact ret_row2 (fn := Try.f13) (x := .int .i64 3) (cs := zeroC) rfl rfl rfl hgz Try.underlying30 rfl (by kernel_rfl) rfl (getPPost_no HE.out (by omega) hbz)
end Go.Proofs.Ytgopkpogakjckaa
