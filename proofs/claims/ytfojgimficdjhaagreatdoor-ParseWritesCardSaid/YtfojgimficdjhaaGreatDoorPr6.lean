/-
  Contract of package parse: Read.
-/
import Derived.Test.YtfojgimficdjhaaGreatDoorPr5
namespace Go.Proofs.YtfojgimficdjhaaGreatDoor
set_option linter.unusedVariables false
set_option linter.unusedSimpArgs false
open Go Go.RowKit

def ReadPost (x : Option Cmd) (e : Ending) : Prop := ∃ c er, e = .returned (.tuple #[.agg (cmV c), .int .i64 er]) ∧ ((x = some c ∧ er = 0) ∨ (x = none ∧ c = cmd0 ∧ er = 3))
/-- a command that is stored whole -/
def storeA (us : List Nat) (T : TypeId) : Loud := argL us (fun _ _ => True) (fun xs _ S w => ∃ g cs, xs = [.pointer (some ⟨g, 0, none⟩), .agg cs] ∧ BlkF g T cs S w)
theorem storeA_ok (us : List Nat) (T : TypeId) : (storeA us T).Ok :=
  argL_ok (fun _ => ⟨undef, trivial⟩) (fun xs _ S S' w w' h1 h2 ⟨g, cs, h3, h4⟩ => ⟨g, cs, h3, good_blk _ _ _ S S' w w' h1 h2 h4⟩)
theorem storeA_get {S : Nat → Prop} {w : World} {g : Nat} {T : TypeId} {cs' : Array Value} (h : ∃ g' cs, [Value.pointer (some ⟨g, 0, none⟩), .agg cs'] = [.pointer (some ⟨g', 0, none⟩), .agg cs] ∧ BlkF g' T cs S w) : BlkF g T cs' S w := by
  obtain ⟨g', cs, h1, h2⟩ := h
  injection h1 with h1 h3
  injection h1 with h1
  injection h1 with h1
  injection h1 with h1
  injection h3 with h3
  injection h3 with h3
  subst h1
  subst h3
  exact h2
def CmdV (x : Option Cmd) (v : Value) : Prop := ∃ c b, v = .tuple #[.agg (cmV c), .bool b] ∧ (if b = true then some c else none) = x
theorem CmdPost.val {x : Option Cmd} {e : Ending} (h : CmdPost x e) : ∃ v, e = .returned v ∧ CmdV x v := by
  obtain ⟨c, b, rfl, h⟩ := h
  exact ⟨_, rfl, c, b, rfl, h⟩
theorem cmdV_any (x : Option Cmd) : ∃ v, CmdV x v := by
  cases x with
  | none => exact ⟨_, cmd0, false, rfl, rfl⟩
  | some c => exact ⟨_, c, true, rfl, rfl⟩
theorem toks31 (s : List UInt8) : ∀ w ∈ (LX.run s 0 []).1, w.length ≤ 31 := fun w hw => by
  rcases LX.run_toks s.length s 0 [] (Nat.le_refl _) (fun w h => by simp at h) w hw with ⟨c, rfl, _⟩ | h
  · simp
  · exact h.2.1
set_option maxRecDepth 100000 in
set_option maxHeartbeats 1600000 in
theorem Read_err (s : ByteArray) (w : World) (hs : s.size ≤ 100000) (L : List (List UInt8)) (k : Nat) (hR : LX.run (bl s) 0 [] = (L, k, 3)) :
    Calls Tryz.prog 8 #[.string s] w fun e w' => ReadPost none e ∧ Below w.heap.size w w' := by
  have hV := words_any s
  have h31 := toks31 (bl s)
  generalize LX.run (bl s) 0 [] = R at *
  subst hR
  simp only at hV h31
  have HV := hid (fun w => hV w hs)
  have H31 := hid h31
  clear hV h31
  obtain ⟨hb0, hx0, hl0⟩ := box1 w (.cells #[.int .i64 0, .int .i64 0, .string ⟨#[]⟩, .string ⟨#[]⟩, .string ⟨#[]⟩, .int .i64 0] 25)
  go_enter Tryz.func8, Tryz.ntmps8
  go_upto_region 1 with fail
  generalize w.alloc (.cells #[.int .i64 0, .int .i64 0, .string ⟨#[]⟩, .string ⟨#[]⟩, .string ⟨#[]⟩, .int .i64 0] 25) = w0 at *
  go_wp2_with fail
  refine (HV.out w0).mono ?_
  rintro e w1 ⟨A, c, rfl, ho, hb1⟩
  replace hx0 := blk_below hx0 hb1 hl0
  replace hb0 := hb0.trans (hb1.mono hb0.size)
  have hsl := own_sl ho
  clear hb1 hl0 HV ho
  go_wp2_with (refine wpList_store_whole rfl 25 (.tmp 2) (.tmp 26) rfl (cmV cmd0) rfl rfl hx0 i6 rfl (cmV_one _) ?_)
  intro wz hgz hgrz
  have hbz := grown1 hb0 hgrz (Nat.le_refl _)
  go_wp2_with fail
  exact ret_row2 (fn := Tryz.f8) (x := .int .i64 3) (cs := cmV cmd0) rfl rfl rfl hgz Tryz.underlying25 rfl i6 rfl ⟨⟨_, _, rfl, .inr ⟨rfl, rfl, rfl⟩⟩, hbz⟩
set_option maxRecDepth 100000 in
set_option maxHeartbeats 1600000 in
theorem Read_nil (s : ByteArray) (w : World) (hs : s.size ≤ 100000) (k : Nat) (hR : LX.run (bl s) 0 [] = ([], k, 0)) :
    Calls Tryz.prog 8 #[.string s] w fun e w' => ReadPost none e ∧ Below w.heap.size w w' := by
  have hV := words_any s
  have h31 := toks31 (bl s)
  generalize LX.run (bl s) 0 [] = R at *
  subst hR
  simp only at hV h31
  have HV := hid (fun w => hV w hs)
  have H31 := hid h31
  clear hV h31
  obtain ⟨hb0, hx0, hl0⟩ := box1 w (.cells #[.int .i64 0, .int .i64 0, .string ⟨#[]⟩, .string ⟨#[]⟩, .string ⟨#[]⟩, .int .i64 0] 25)
  go_enter Tryz.func8, Tryz.ntmps8
  go_upto_region 1 with fail
  generalize w.alloc (.cells #[.int .i64 0, .int .i64 0, .string ⟨#[]⟩, .string ⟨#[]⟩, .string ⟨#[]⟩, .int .i64 0] 25) = w0 at *
  go_wp2_with fail
  refine (HV.out w0).mono ?_
  rintro e w1 ⟨A, c, rfl, ho, hb1⟩
  replace hx0 := blk_below hx0 hb1 hl0
  replace hb0 := hb0.trans (hb1.mono hb0.size)
  have hsl := own_sl ho
  clear hb1 hl0 HV ho
  go_wp2_with (refine wpList_store_whole rfl 25 (.tmp 2) (.tmp 26) rfl (cmV cmd0) rfl rfl hx0 i6 rfl (cmV_one _) ?_)
  intro wz hgz hgrz
  have hbz := grown1 hb0 hgrz (Nat.le_refl _)
  go_wp2_with fail
  exact ret_row2 (fn := Tryz.f8) (x := .int .i64 3) (cs := cmV cmd0) rfl rfl rfl hgz Tryz.underlying25 rfl i6 rfl ⟨⟨_, _, rfl, .inr ⟨rfl, rfl, rfl⟩⟩, hbz⟩
set_option maxRecDepth 100000 in
set_option maxHeartbeats 1600000 in
theorem Read_sgn (s : ByteArray) (w : World) (hs : s.size ≤ 100000) (L : List (List UInt8)) (k : Nat) (hR : LX.run (bl s) 0 [] = (L, k, 0)) (hL0 : L ≠ []) (hG : L.any isSgn = true) :
    Calls Tryz.prog 8 #[.string s] w fun e w' => ReadPost none e ∧ Below w.heap.size w w' := by
  have HG := hid hG
  clear hG
  have hV := words_any s
  have h31 := toks31 (bl s)
  generalize LX.run (bl s) 0 [] = R at *
  subst hR
  simp only at hV h31
  have HV := hid (fun w => hV w hs)
  have H31 := hid h31
  clear hV h31
  obtain ⟨hb0, hx0, hl0⟩ := box1 w (.cells #[.int .i64 0, .int .i64 0, .string ⟨#[]⟩, .string ⟨#[]⟩, .string ⟨#[]⟩, .int .i64 0] 25)
  go_enter Tryz.func8, Tryz.ntmps8
  go_upto_region 1 with fail
  generalize w.alloc (.cells #[.int .i64 0, .int .i64 0, .string ⟨#[]⟩, .string ⟨#[]⟩, .string ⟨#[]⟩, .int .i64 0] 25) = w0 at *
  go_wp2_with fail
  refine (HV.out w0).mono ?_
  rintro e w1 ⟨A, c, rfl, ho, hb1⟩
  replace hx0 := blk_below hx0 hb1 hl0
  replace hb0 := hb0.trans (hb1.mono hb0.size)
  have hsl := own_sl ho
  clear hb1 hl0 HV ho
  have hlen := (sl_lensS hsl).1
  have hne : 0 < L.length := by cases L with
    | nil => exact absurd rfl hL0
    | cons a b => simp
  have t0 : ((L.length : Int) == 0) = false := by rw [beq_eq_false_iff_ne]; omega
  obtain ⟨hcn, hcm⟩ := (sl_lensS hsl).2
  have HSG := hid (fun w' h => signs_any A L.length c L w' h)
  generalize hn : L.length = n at *
  have HN := hid hn
  clear hn hlen
  go_wp2_with fail
  refine (HSG.out w1 hsl).mono ?_
  rintro e w1 ⟨rfl, rfl⟩
  rw [HG.out]
  clear HSG
  go_wp2_with (refine wpList_store_whole rfl 25 (.tmp 2) (.tmp 26) rfl (cmV cmd0) rfl rfl hx0 i6 rfl (cmV_one _) ?_)
  intro wz hgz hgrz
  have hbz := grown1 hb0 hgrz (Nat.le_refl _)
  go_wp2_with fail
  exact ret_row2 (fn := Tryz.f8) (x := .int .i64 3) (cs := cmV cmd0) rfl rfl rfl hgz Tryz.underlying25 rfl i6 rfl ⟨⟨_, _, rfl, .inr ⟨rfl, rfl, rfl⟩⟩, hbz⟩
set_option maxRecDepth 100000 in
set_option maxHeartbeats 3200000 in
theorem Read_yes (s : ByteArray) (w : World) (hs : s.size ≤ 100000) (hen : Env w) (L : List (List UInt8)) (x : List UInt8) (r : List (List UInt8)) (k : Nat) (hR : LX.run (bl s) 0 [] = (L, k, 0)) (hL : L = x :: r) (hG : L.any isSgn = false) :
    Calls Tryz.prog 8 #[.string s] w fun e w' => ReadPost (readL x r) e ∧ Below w.heap.size w w' := by
  have HG := hid hG
  have hL0 : L ≠ [] := by rw [hL]; simp
  have HLL := hid hL
  have HEN := hid hen
  clear hG hL hen
  have hV := words_any s
  have h31 := toks31 (bl s)
  generalize LX.run (bl s) 0 [] = R at *
  subst hR
  simp only at hV h31
  have HV := hid (fun w => hV w hs)
  have H31 := hid h31
  clear hV h31
  obtain ⟨hb0, hx0, hl0⟩ := box1 w (.cells #[.int .i64 0, .int .i64 0, .string ⟨#[]⟩, .string ⟨#[]⟩, .string ⟨#[]⟩, .int .i64 0] 25)
  go_enter Tryz.func8, Tryz.ntmps8
  go_upto_region 1 with fail
  generalize w.alloc (.cells #[.int .i64 0, .int .i64 0, .string ⟨#[]⟩, .string ⟨#[]⟩, .string ⟨#[]⟩, .int .i64 0] 25) = w0 at *
  go_wp2_with fail
  refine (HV.out w0).mono ?_
  rintro e w1 ⟨A, c, rfl, ho, hb1⟩
  replace hx0 := blk_below hx0 hb1 hl0
  replace hb0 := hb0.trans (hb1.mono hb0.size)
  have hsl := own_sl ho
  clear hb1 hl0 HV ho
  have hlen := (sl_lensS hsl).1
  have hne : 0 < L.length := by cases L with
    | nil => exact absurd rfl hL0
    | cons a b => simp
  have t0 : ((L.length : Int) == 0) = false := by rw [beq_eq_false_iff_ne]; omega
  obtain ⟨hcn, hcm⟩ := (sl_lensS hsl).2
  have HSG := hid (fun w' h => signs_any A L.length c L w' h)
  generalize hn : L.length = n at *
  have HN := hid hn
  clear hn hlen
  go_wp2_with fail
  refine (HSG.out w1 hsl).mono ?_
  rintro e w1 ⟨rfl, rfl⟩
  rw [HG.out]
  clear HSG
  have hen1 := HEN.out.below hb0
  obtain ⟨b, off, rfl, hbl, p0⟩ := STR_cell hsl (k := 0) hne
  rw [HLL.out] at p0
  simp only [List.getD_cons_zero, Nat.add_zero] at p0
  have hd1 := sl_dropS hsl 1 (by omega)
  have HD1 : Hid (L.drop 1 = r) := by show _ = _; rw [HLL.out]; rfl
  rw [HD1.out] at hd1
  have hL1 : ∀ y ∈ r, y.length ≤ 100000 := fun y hy => by have := H31.out y (by rw [HLL.out]; exact List.mem_cons_of_mem _ hy); omega
  have hc1 : 1 ≤ c := by omega
  clear hsl HD1 H31 HEN HG hL0
  by_cases hc : c = 1
  · obtain rfl : n = 1 := by omega
    subst hc
    simp only [if_true, Nat.sub_self] at hd1
    have HRD : Hid (∀ wS, Below w1.heap.size w1 wS → Calls Tryz.prog 39 #[.string (S8 x), .slice (some ⟨b, off, none⟩) 0 0] wS fun e w' => CmdPost (readL x r) e ∧ Below wS.heap.size wS w') := fun wS hb => read_any x r _ _ _ wS (hd1.below hb) hL1 (hen1.below hb)
    have z0 := fun (z : WK (fun _ => False) w1) => (wat_cell (p := ⟨b, off, none⟩) hbl (fun e => e) z).trans p0
    clear p0 hd1 hL1 hen1
    go_wp2_with fail
    refine wp_region_loud (fun _ => False) [(5, factL [] (CmdV (readL x r)) (fun _ => Fact.none)), (9, newL 25 #[.int .i64 0, .int .i64 0, .string ⟨#[]⟩, .string ⟨#[]⟩, .string ⟨#[]⟩, .int .i64 0]), (10, storeA [9] 25)] (fun _ => Fact.none) (by kernel_rfl) (by kernel_rfl)
      (.cons (factL_ok (cmdV_any _) (fun _ => Good.none)) (.cons (newL_ok _ _) (.cons (storeA_ok _ _) .nil))) good_nothing sat_none (WX.out ?_)
    repeat (first | (refine wx_quietU (by rfl) (by rfl) (by rfl) (fun K hK => ?_); go_big_quiet_op; refine hK _ ?_; clear hK K) | (refine wx_quietG (by rfl) (by rfl) (by rfl) (by rfl) (by rfl) (fun K hK => ?_); go_big_quiet_op; refine hK _ ?_; clear hK K) | (refine wx_skipG (by rfl) (by rfl) (by rfl) (fun K hK => ?_); go_simp; refine hK _ ?_; clear hK K) | (refine wx_skipN (by rfl) (by rfl) (by rfl) (fun K hK => ?_); go_simp; refine hK _ ?_; clear hK K))
    refine wx_loudU (us := []) (by rfl) (by rfl) (fun S wS hC hS hU => runs_enter (f := 39) (by go_simp <;> rfl) ?_) (fun v hv K hK => ?_)
    · refine (HRD.out wS hC.below).mono ?_
      rintro e w' ⟨hcp, hb⟩
      obtain ⟨v, rfl, hv⟩ := hcp.val
      exact ⟨v, rfl, hv, Kept.of_below hb, trivial⟩
    obtain ⟨cm, cb, rfl, hcb⟩ := hv
    have HCB := hid hcb
    clear hcb
    (go_simp; refine hK _ ?_; clear hK K)
    repeat (first | (refine wx_quietU (by rfl) (by rfl) (by rfl) (fun K hK => ?_); go_big_quiet_op; refine hK _ ?_; clear hK K) | (refine wx_quietG (by rfl) (by rfl) (by rfl) (by rfl) (by rfl) (fun K hK => ?_); go_big_quiet_op; refine hK _ ?_; clear hK K) | (refine wx_skipG (by rfl) (by rfl) (by rfl) (fun K hK => ?_); go_simp; refine hK _ ?_; clear hK K) | (refine wx_skipN (by rfl) (by rfl) (by rfl) (fun K hK => ?_); go_simp; refine hK _ ?_; clear hK K))
    refine wx_loudU (us := []) (by rfl) (by rfl) (fun S wS hC hS hU => ?_) (fun v hv K hK => ?_)
    · exact runs_value (by go_simp <;> rfl) (newB_x rfl)
    obtain ⟨g9, rfl⟩ := hv; (go_simp; refine hK _ ?_; clear hK K)
    repeat (first | (refine wx_quietU (by rfl) (by rfl) (by rfl) (fun K hK => ?_); go_big_quiet_op; refine hK _ ?_; clear hK K) | (refine wx_quietG (by rfl) (by rfl) (by rfl) (by rfl) (by rfl) (fun K hK => ?_); go_big_quiet_op; refine hK _ ?_; clear hK K) | (refine wx_skipG (by rfl) (by rfl) (by rfl) (fun K hK => ?_); go_simp; refine hK _ ?_; clear hK K) | (refine wx_skipN (by rfl) (by rfl) (by rfl) (fun K hK => ?_); go_simp; refine hK _ ?_; clear hK K))
    refine wx_loudU (us := [9]) (by rfl) (by rfl) (fun S wS hC hS hU => ?_) (fun v hv K hK => ?_)
    · have hB := newB_get (g := g9) (T := 25) (cs := #[.int .i64 0, .int .i64 0, .string ⟨#[]⟩, .string ⟨#[]⟩, .string ⟨#[]⟩, .int .i64 0]) (hU 9 (by simp))
      clear hU
      exact runs_store_whole 25 (.tmp 7) (.tmp 34) rfl (cmV cm) rfl rfl hB.2 i6 rfl (cmV_one _) ⟨trivial, kept_setRow wS g9 _ hB.1, g9, cmV cm, rfl, .inl hB.1, setRow_heap _ _ _ _ _ _ hB.2⟩
    (go_simp; refine hK _ ?_; clear hK K)
    repeat (first | (refine wx_quietU (by rfl) (by rfl) (by rfl) (fun K hK => ?_); go_big_quiet_op; refine hK _ ?_; clear hK K) | (refine wx_quietG (by rfl) (by rfl) (by rfl) (by rfl) (by rfl) (fun K hK => ?_); go_big_quiet_op; refine hK _ ?_; clear hK K) | (refine wx_skipG (by rfl) (by rfl) (by rfl) (fun K hK => ?_); go_simp; refine hK _ ?_; clear hK K) | (refine wx_skipN (by rfl) (by rfl) (by rfl) (fun K hK => ?_); go_simp; refine hK _ ?_; clear hK K))
    refine wx_nil fun w2 hsat => ?_
    obtain ⟨S9, hS9, hF9⟩ := sat_get hsat 10
    have hg2 : w2.heap[g9]? = some (.cells (cmV cm) 25 (0, 0)) := (storeA_get (g := g9) hF9).2
    have hb2 := sat_below hsat
    have hx2 := blk_below hx0 hb2 (blk_lt hx0)
    have hbw2 := hb0.trans (hb2.mono hb0.size)
    clear hsat hF9 hS9 z0 hb2 hx0 HRD hb0
    have hx0 := hx2
    have hb0 := hbw2
    clear hx2 hbw2
    cases cb with
    | false =>
      have HQ : Hid (readL x r = none) := HCB.out.symm
      clear HCB
      go_wp2_with (refine wpList_store_whole rfl 25 (.tmp 2) (.tmp 38) rfl (cmV cmd0) rfl rfl hx0 i6 rfl (cmV_one _) ?_)
      intro wz hgz hgrz
      have hbz := grown1 hb0 hgrz (Nat.le_refl _)
      go_wp2_with fail
      exact ret_row2 (fn := Tryz.f8) (x := .int .i64 3) (cs := cmV cmd0) rfl rfl rfl hgz Tryz.underlying25 rfl i6 rfl ⟨⟨_, _, rfl, .inr ⟨HQ.out, rfl, rfl⟩⟩, hbz⟩
    | true =>
      have HQ : Hid (readL x r = some cm) := HCB.out.symm
      clear HCB
      go_wp2_with (first | refine wpList_load_row rfl 25 (.tmp 7) rfl g9 rfl 25 (cmV cm) (0, 0) _ hg2 Tryz.underlying25 rfl i6 ?_ | refine wpList_store_whole rfl 25 (.tmp 2) (.tmp 39) rfl (cmV cm) rfl rfl hx0 i6 rfl (cmV_one _) ?_)
      intro wz hgz hgrz
      have hbz := grown1 hb0 hgrz (Nat.le_refl _)
      go_wp2_with fail
      exact ret_row2 (fn := Tryz.f8) (x := .int .i64 0) (cs := cmV cm) rfl rfl rfl hgz Tryz.underlying25 rfl i6 rfl ⟨⟨_, _, rfl, .inl ⟨HQ.out, rfl⟩⟩, hbz⟩
  · rw [if_neg hc] at hd1
    simp only [Option.map_some, addr_add] at hd1
    have HRD : Hid (∀ wS, Below w1.heap.size w1 wS → Calls Tryz.prog 39 #[.string (S8 x), .slice (some ⟨b, off + 1, none⟩) (n - 1) (c - 1)] wS fun e w' => CmdPost (readL x r) e ∧ Below wS.heap.size wS w') := fun wS hb => read_any x r _ _ _ wS (hd1.below hb) hL1 (hen1.below hb)
    have z0 := fun (z : WK (fun _ => False) w1) => (wat_cell (p := ⟨b, off, none⟩) hbl (fun e => e) z).trans p0
    clear p0 hd1 hL1 hen1
    go_wp2_with fail
    refine wp_region_loud (fun _ => False) [(5, factL [] (CmdV (readL x r)) (fun _ => Fact.none)), (9, newL 25 #[.int .i64 0, .int .i64 0, .string ⟨#[]⟩, .string ⟨#[]⟩, .string ⟨#[]⟩, .int .i64 0]), (10, storeA [9] 25)] (fun _ => Fact.none) (by kernel_rfl) (by kernel_rfl)
      (.cons (factL_ok (cmdV_any _) (fun _ => Good.none)) (.cons (newL_ok _ _) (.cons (storeA_ok _ _) .nil))) good_nothing sat_none (WX.out ?_)
    repeat (first | (refine wx_quietU (by rfl) (by rfl) (by rfl) (fun K hK => ?_); go_big_quiet_op; refine hK _ ?_; clear hK K) | (refine wx_quietG (by rfl) (by rfl) (by rfl) (by rfl) (by rfl) (fun K hK => ?_); go_big_quiet_op; refine hK _ ?_; clear hK K) | (refine wx_skipG (by rfl) (by rfl) (by rfl) (fun K hK => ?_); go_simp; refine hK _ ?_; clear hK K) | (refine wx_skipN (by rfl) (by rfl) (by rfl) (fun K hK => ?_); go_simp; refine hK _ ?_; clear hK K))
    refine wx_loudU (us := []) (by rfl) (by rfl) (fun S wS hC hS hU => runs_enter (f := 39) (by go_simp <;> rfl) ?_) (fun v hv K hK => ?_)
    · refine (HRD.out wS hC.below).mono ?_
      rintro e w' ⟨hcp, hb⟩
      obtain ⟨v, rfl, hv⟩ := hcp.val
      exact ⟨v, rfl, hv, Kept.of_below hb, trivial⟩
    obtain ⟨cm, cb, rfl, hcb⟩ := hv
    have HCB := hid hcb
    clear hcb
    (go_simp; refine hK _ ?_; clear hK K)
    repeat (first | (refine wx_quietU (by rfl) (by rfl) (by rfl) (fun K hK => ?_); go_big_quiet_op; refine hK _ ?_; clear hK K) | (refine wx_quietG (by rfl) (by rfl) (by rfl) (by rfl) (by rfl) (fun K hK => ?_); go_big_quiet_op; refine hK _ ?_; clear hK K) | (refine wx_skipG (by rfl) (by rfl) (by rfl) (fun K hK => ?_); go_simp; refine hK _ ?_; clear hK K) | (refine wx_skipN (by rfl) (by rfl) (by rfl) (fun K hK => ?_); go_simp; refine hK _ ?_; clear hK K))
    refine wx_loudU (us := []) (by rfl) (by rfl) (fun S wS hC hS hU => ?_) (fun v hv K hK => ?_)
    · exact runs_value (by go_simp <;> rfl) (newB_x rfl)
    obtain ⟨g9, rfl⟩ := hv; (go_simp; refine hK _ ?_; clear hK K)
    repeat (first | (refine wx_quietU (by rfl) (by rfl) (by rfl) (fun K hK => ?_); go_big_quiet_op; refine hK _ ?_; clear hK K) | (refine wx_quietG (by rfl) (by rfl) (by rfl) (by rfl) (by rfl) (fun K hK => ?_); go_big_quiet_op; refine hK _ ?_; clear hK K) | (refine wx_skipG (by rfl) (by rfl) (by rfl) (fun K hK => ?_); go_simp; refine hK _ ?_; clear hK K) | (refine wx_skipN (by rfl) (by rfl) (by rfl) (fun K hK => ?_); go_simp; refine hK _ ?_; clear hK K))
    refine wx_loudU (us := [9]) (by rfl) (by rfl) (fun S wS hC hS hU => ?_) (fun v hv K hK => ?_)
    · have hB := newB_get (g := g9) (T := 25) (cs := #[.int .i64 0, .int .i64 0, .string ⟨#[]⟩, .string ⟨#[]⟩, .string ⟨#[]⟩, .int .i64 0]) (hU 9 (by simp))
      clear hU
      exact runs_store_whole 25 (.tmp 7) (.tmp 34) rfl (cmV cm) rfl rfl hB.2 i6 rfl (cmV_one _) ⟨trivial, kept_setRow wS g9 _ hB.1, g9, cmV cm, rfl, .inl hB.1, setRow_heap _ _ _ _ _ _ hB.2⟩
    (go_simp; refine hK _ ?_; clear hK K)
    repeat (first | (refine wx_quietU (by rfl) (by rfl) (by rfl) (fun K hK => ?_); go_big_quiet_op; refine hK _ ?_; clear hK K) | (refine wx_quietG (by rfl) (by rfl) (by rfl) (by rfl) (by rfl) (fun K hK => ?_); go_big_quiet_op; refine hK _ ?_; clear hK K) | (refine wx_skipG (by rfl) (by rfl) (by rfl) (fun K hK => ?_); go_simp; refine hK _ ?_; clear hK K) | (refine wx_skipN (by rfl) (by rfl) (by rfl) (fun K hK => ?_); go_simp; refine hK _ ?_; clear hK K))
    refine wx_nil fun w2 hsat => ?_
    obtain ⟨S9, hS9, hF9⟩ := sat_get hsat 10
    have hg2 : w2.heap[g9]? = some (.cells (cmV cm) 25 (0, 0)) := (storeA_get (g := g9) hF9).2
    have hb2 := sat_below hsat
    have hx2 := blk_below hx0 hb2 (blk_lt hx0)
    have hbw2 := hb0.trans (hb2.mono hb0.size)
    clear hsat hF9 hS9 z0 hb2 hx0 HRD hb0
    have hx0 := hx2
    have hb0 := hbw2
    clear hx2 hbw2
    cases cb with
    | false =>
      have HQ : Hid (readL x r = none) := HCB.out.symm
      clear HCB
      go_wp2_with (refine wpList_store_whole rfl 25 (.tmp 2) (.tmp 38) rfl (cmV cmd0) rfl rfl hx0 i6 rfl (cmV_one _) ?_)
      intro wz hgz hgrz
      have hbz := grown1 hb0 hgrz (Nat.le_refl _)
      go_wp2_with fail
      exact ret_row2 (fn := Tryz.f8) (x := .int .i64 3) (cs := cmV cmd0) rfl rfl rfl hgz Tryz.underlying25 rfl i6 rfl ⟨⟨_, _, rfl, .inr ⟨HQ.out, rfl, rfl⟩⟩, hbz⟩
    | true =>
      have HQ : Hid (readL x r = some cm) := HCB.out.symm
      clear HCB
      go_wp2_with (first | refine wpList_load_row rfl 25 (.tmp 7) rfl g9 rfl 25 (cmV cm) (0, 0) _ hg2 Tryz.underlying25 rfl i6 ?_ | refine wpList_store_whole rfl 25 (.tmp 2) (.tmp 39) rfl (cmV cm) rfl rfl hx0 i6 rfl (cmV_one _) ?_)
      intro wz hgz hgrz
      have hbz := grown1 hb0 hgrz (Nat.le_refl _)
      go_wp2_with fail
      exact ret_row2 (fn := Tryz.f8) (x := .int .i64 0) (cs := cmV cm) rfl rfl rfl hgz Tryz.underlying25 rfl i6 rfl ⟨⟨_, _, rfl, .inl ⟨HQ.out, rfl⟩⟩, hbz⟩
theorem Read_any (s : ByteArray) (w : World) (hs : s.size ≤ 100000) (hen : Env w) : Calls Tryz.prog 8 #[.string s] w fun e w' => ReadPost (readT (bl s)) e ∧ Below w.heap.size w w' := by
  have herr := LX.run_err (bl s).length (bl s) 0 [] (Nat.le_refl _)
  unfold readT
  cases hR : LX.run (bl s) 0 [] with
  | mk L p =>
  obtain ⟨k, er⟩ := p
  rw [hR] at herr
  simp only at herr
  rcases herr with rfl | rfl
  · match L, hR with
    | [], hR => exact Read_nil s w hs k hR
    | x :: r, hR =>
      cases hG : (x :: r).any isSgn with
      | true => simp only [hG, if_true]; exact Read_sgn s w hs (x :: r) k hR (by simp) hG
      | false => simp only [hG]; exact Read_yes s w hs hen (x :: r) x r k hR rfl hG
  · match L, hR with
    | [], hR => exact Read_err s w hs [] k hR
    | x :: r, hR => exact Read_err s w hs (x :: r) k hR
end Go.Proofs.YtfojgimficdjhaaGreatDoor
