/-
  Contract of package parse: named.
-/
import Derived.Test.YtecfkhgocjbocaaGreatDoorPr1
import Derived.Test.YtecfkhgocjbocaaGreatDoorWh
namespace Go.Proofs.YtecfkhgocjbocaaGreatDoor
set_option linter.unusedVariables false
set_option linter.unusedSimpArgs false
open Go Go.RowKit

def lnC (l : Ln) : List Value := [.int .i64 l.head, .string (S8 l.name), .string (S8 l.leaf), .string (S8 l.value)]
abbrev lnV (l : Ln) : Array Value := (lnC l).toArray
theorem lnV_one (l : Ln) : (lnV l).all (·.oneCell') = true := by simp [lnC, Value.oneCell']
/-- what 'named' tells -/
def NamedPost (L : List (List UInt8)) (e : Ending) (w' : World) : Prop := match namedW L with
  | some (l, r) => ∃ A' c', e = .returned (.tuple #[.agg (lnV l), .slice A' r.length c', .bool true]) ∧ Sl w' 1 (.slice A' r.length c') (STR r)
  | none => e = .returned (.tuple #[.agg (lnV ln0), .slice none 0 0, .bool false])
theorem sl_dropS {w : World} {A : Option Addr} {n c : Nat} {l : List (List UInt8)} (h : Sl w 1 (.slice A n c) (STR l)) (k : Nat) (hk : k ≤ n) :
    Sl w 1 (.slice (if c = k then A else A.map (·.add k)) (n - k) (c - k)) (STR (l.drop k)) := by
  obtain ⟨A', n', c', he, hl, hnc, hcm, hr⟩ := h
  injection he with e1 e2 e3
  subst e1; subst e2; subst e3
  rw [STR_length, Nat.mul_one] at hl
  refine ⟨_, _, _, rfl, by rw [STR_length, List.length_drop]; omega, by omega, by simp only [maxLen] at *; omega, fun h0 => ?_⟩
  obtain ⟨b, off, rfl, hlt, hc⟩ := hr (by omega)
  refine ⟨b, off + k, by rw [if_neg (by omega)]; simp [addr_add], hlt, fun i hi => ?_⟩
  rw [Nat.add_assoc, hc (k + i) (by omega)]
  simp only [STR, ← List.map_drop, List.getElem?_map, List.getElem?_drop]
theorem sl_lensS {w : World} {A : Option Addr} {n c : Nat} {l : List (List UInt8)} (h : Sl w 1 (.slice A n c) (STR l)) : l.length = n ∧ n ≤ c ∧ c ≤ 9223372036854775807 := by
  obtain ⟨A', n', c', he, hl, h2, h3, hr⟩ := h
  injection he with h4 h5 h6
  subst h4; subst h5; subst h6
  rw [STR_length, Nat.mul_one] at hl
  exact ⟨hl, h2, by simpa [maxLen] using h3⟩
set_option maxRecDepth 100000 in
set_option maxHeartbeats 1600000 in
theorem pnamed_nil (L : List (List UInt8)) (hL : L = []) (A : Option Addr) (c : Nat) (w : World) (h : Sl w 1 (.slice A 0 c) (STR L)) :
    Calls Tryz.prog 131 #[.slice A 0 c] w fun e w' => NamedPost L e w' ∧ Below w.heap.size w w' := by
  have h0 := fun w' (hb : Below w.heap.size w w') => h.below hb
  have H0 := hid h0
  clear h0 h
  obtain ⟨hb0, hx0, hl0⟩ := box1 w (.cells #[.int .i64 0, .string ⟨#[]⟩, .string ⟨#[]⟩, .string ⟨#[]⟩] 29)
  go_enter Tryz.func131, Tryz.ntmps131
  go_upto_region 1 with fail
  generalize w.alloc (.cells #[.int .i64 0, .string ⟨#[]⟩, .string ⟨#[]⟩, .string ⟨#[]⟩] 29) = w0 at *
  go_wp2_with (refine wpList_store_whole rfl 29 (.tmp 2) (.tmp 15) rfl (lnV ln0) rfl rfl hx0 (by show _ = some 4; kernel_rfl) rfl (lnV_one _) ?_)
  intro wz hgz hgrz
  have hbz := hb0.trans ((Below.refl w.heap.size w0).grown hgrz hb0.size (by intro k hk; injection hk with hk; omega))
  go_wp2_with fail
  refine ret_row3 (fn := Tryz.f131) (x := .slice A 0 c) (y := .bool true) (cs := lnV ln0) rfl rfl rfl rfl hgz Tryz.underlying29 rfl (by show _ = some 4; kernel_rfl) rfl ⟨?_, hbz⟩
  subst hL
  exact ⟨A, c, rfl, H0.out _ hbz⟩
set_option maxRecDepth 100000 in
set_option maxHeartbeats 1600000 in
theorem pnamed_top (L : List (List UInt8)) (x : List UInt8) (r : List (List UInt8)) (hL : L = x :: r) (hx : headW x = 0) (A : Option Addr) (n c : Nat) (w : World) (h : Sl w 1 (.slice A n c) (STR L)) (hn : 0 < n) :
    Calls Tryz.prog 131 #[.slice A n c] w fun e w' => NamedPost L e w' ∧ Below w.heap.size w w' := by
  have HX : Hid (L.getD 0 [] = x) := by show _ = _; rw [hL]; rfl
  have hH := fun w => heads_any (S8 x) w
  simp only [bl_S8, hx] at hH
  have HH := hid hH
  have HL := hid hL
  have HX2 := hid hx
  have HN := hid (sl_lensS h).1
  clear hH hL hx
  obtain ⟨hb0, hx0, hl0⟩ := box1 w (.cells #[.int .i64 0, .string ⟨#[]⟩, .string ⟨#[]⟩, .string ⟨#[]⟩] 29)
  go_enter Tryz.func131, Tryz.ntmps131
  go_upto_region 1 with fail
  generalize w.alloc (.cells #[.int .i64 0, .string ⟨#[]⟩, .string ⟨#[]⟩, .string ⟨#[]⟩] 29) = w0 at *
  have hh0 := h.below hb0
  obtain ⟨b, off, rfl, hbl, p0⟩ := STR_cell hh0 (k := 0) (by omega)
  rw [HX.out, Nat.add_zero] at p0
  have t0 : ((n : Int) == 0) = false := by rw [beq_eq_false_iff_ne]; omega
  go_wp2_with fail
  refine (HH.out w0).mono ?_
  rintro e w0 ⟨rfl, rfl⟩
  go_wp2_with (refine wpList_store_whole rfl 29 (.tmp 2) (.tmp 15) rfl (lnV ln0) rfl rfl hx0 (by show _ = some 4; kernel_rfl) rfl (lnV_one _) ?_)
  intro wz hgz hgrz
  have hbz := hb0.trans ((Below.refl w.heap.size w0).grown hgrz hb0.size (by intro k hk; injection hk with hk; omega))
  go_wp2_with fail
  refine ret_row3 (fn := Tryz.f131) (x := .slice (some ⟨b, off, none⟩) n c) (y := .bool true) (cs := lnV ln0) rfl rfl rfl rfl hgz Tryz.underlying29 rfl (by show _ = some 4; kernel_rfl) rfl ⟨?_, hbz⟩
  have h1 := HL.out
  have h2 := HN.out
  have h3 := HX2.out
  have h4 := h.below hbz
  rw [h1] at h2
  subst h1
  subst h2
  unfold NamedPost namedW
  simp only [h3, if_true]
  exact ⟨_, _, rfl, h4⟩
set_option maxRecDepth 100000 in
set_option maxHeartbeats 1600000 in
theorem pnamed_short (L : List (List UInt8)) (x : List UInt8) (hL : L = [x]) (hx : headW x ≠ 0) (A : Option Addr) (c : Nat) (w : World) (h : Sl w 1 (.slice A 1 c) (STR L)) :
    Calls Tryz.prog 131 #[.slice A 1 c] w fun e w' => NamedPost L e w' ∧ Below w.heap.size w w' := by
  have HX : Hid (L.getD 0 [] = x) := by show _ = _; rw [hL]; rfl
  have hH := fun w => heads_any (S8 x) w
  obtain ⟨h9, hh9⟩ : ∃ h9, headW x = h9 := ⟨_, rfl⟩
  simp only [bl_S8, hh9] at hH
  have HH := hid hH
  have t1 : (h9 == 0) = false := by rw [beq_eq_false_iff_ne, ← hh9]; exact hx
  have HP : Hid (∀ e w', e = .returned (.tuple #[.agg (lnV ln0), .slice none 0 0, .bool false]) → NamedPost L e w') := by
    show ∀ _ _, _
    intro e w' he
    subst hL
    unfold NamedPost namedW
    simp only [if_neg hx]
    exact he
  clear hH hL hx hh9
  obtain ⟨hb0, hx0, hl0⟩ := box1 w (.cells #[.int .i64 0, .string ⟨#[]⟩, .string ⟨#[]⟩, .string ⟨#[]⟩] 29)
  go_enter Tryz.func131, Tryz.ntmps131
  go_upto_region 1 with fail
  generalize w.alloc (.cells #[.int .i64 0, .string ⟨#[]⟩, .string ⟨#[]⟩, .string ⟨#[]⟩] 29) = w0 at *
  have hh0 := h.below hb0
  obtain ⟨b, off, rfl, hbl, p0⟩ := STR_cell hh0 (k := 0) (by omega)
  rw [HX.out, Nat.add_zero] at p0
  go_wp2_with fail
  refine (HH.out w0).mono ?_
  rintro e w0 ⟨rfl, rfl⟩
  go_wp2_with fail
  refine wp_region_loud (fun _ => False) [] (fun _ => Fact.none) (by kernel_rfl) (by kernel_rfl) .nil good_nothing sat_none (WX.out ?_)
  repeat (first | (refine wx_quietU (by rfl) (by rfl) (by rfl) (fun K hK => ?_); go_big_quiet_op; refine hK _ ?_; clear hK K) | (refine wx_quietG (by rfl) (by rfl) (by rfl) (by rfl) (by rfl) (fun K hK => ?_); go_big_quiet_op; refine hK _ ?_; clear hK K) | (refine wx_skipG (by rfl) (by rfl) (by rfl) (fun K hK => ?_); go_simp; refine hK _ ?_; clear hK K) | (refine wx_skipN (by rfl) (by rfl) (by rfl) (fun K hK => ?_); go_simp; refine hK _ ?_; clear hK K))
  refine wx_nil fun w0 hsat => ?_
  have hb1 := sat_below hsat
  replace hx0 := blk_below hx0 hb1 (blk_lt hx0)
  replace hb0 := hb0.trans (hb1.mono hb0.size)
  clear hsat hb1
  go_wp2_with (refine wpList_store_whole rfl 29 (.tmp 2) (.tmp 31) rfl (lnV ln0) rfl rfl hx0 (by show _ = some 4; kernel_rfl) rfl (lnV_one _) ?_)
  intro wz hgz hgrz
  have hbz := hb0.trans ((Below.refl w.heap.size w0).grown hgrz hb0.size (by intro k hk; injection hk with hk; omega))
  go_wp2_with fail
  exact ret_row3 (fn := Tryz.f131) (x := .slice none 0 0) (y := .bool false) (cs := lnV ln0) rfl rfl rfl rfl hgz Tryz.underlying29 rfl (by show _ = some 4; kernel_rfl) rfl ⟨HP.out _ _ rfl, hbz⟩
set_option maxRecDepth 100000 in
set_option maxHeartbeats 1600000 in
theorem pnamed_bad (L : List (List UInt8)) (x nm : List UInt8) (r : List (List UInt8)) (hL : L = x :: nm :: r) (hx : headW x ≠ 0) (hnm : namedR (headW x) nm = false) (hnl : nm.length ≤ 2000000) (A : Option Addr) (n c : Nat) (w : World) (h : Sl w 1 (.slice A n c) (STR L)) (hn : 2 ≤ n) (hen : Env w) :
    Calls Tryz.prog 131 #[.slice A n c] w fun e w' => NamedPost L e w' ∧ Below w.heap.size w w' := by
  have HX : Hid (L.getD 0 [] = x) := by show _ = _; rw [hL]; rfl
  have hH := fun w => heads_any (S8 x) w
  obtain ⟨h9, hh9⟩ : ∃ h9, headW x = h9 := ⟨_, rfl⟩
  simp only [bl_S8, hh9] at hH
  have HH := hid hH
  have t1 : (h9 == 0) = false := by rw [beq_eq_false_iff_ne, ← hh9]; exact hx
  have HX1 : Hid (L.getD 1 [] = nm) := by show _ = _; rw [hL]; rfl
  have HM : Hid (∀ w', Below w.heap.size w w' → Calls Tryz.prog 85 #[.int .i64 h9, .string (S8 nm)] w' fun e w2 => e = .returned (.bool false) ∧ Below w'.heap.size w' w2) := by
    intro w' hb
    have := named_any h9 (S8 nm) w' (by rw [S8_size]; omega) (hen.below hb)
    rw [bl_S8, ← hh9, hnm] at this
    rw [← hh9]
    exact this
  have HP : Hid (∀ e w', e = .returned (.tuple #[.agg (lnV ln0), .slice none 0 0, .bool false]) → NamedPost L e w') := by
    show ∀ _ _, _
    intro e w' he
    subst hL
    unfold NamedPost namedW
    simp only [if_neg hx, hnm]
    exact he
  clear hH hL hx hh9 hnm hen
  obtain ⟨hb0, hx0, hl0⟩ := box1 w (.cells #[.int .i64 0, .string ⟨#[]⟩, .string ⟨#[]⟩, .string ⟨#[]⟩] 29)
  go_enter Tryz.func131, Tryz.ntmps131
  go_upto_region 1 with fail
  generalize w.alloc (.cells #[.int .i64 0, .string ⟨#[]⟩, .string ⟨#[]⟩, .string ⟨#[]⟩] 29) = w0 at *
  have hh0 := h.below hb0
  obtain ⟨b, off, rfl, hbl, p0⟩ := STR_cell hh0 (k := 0) (by omega)
  rw [HX.out, Nat.add_zero] at p0
  obtain ⟨b1, off1, he1, -, p1⟩ := STR_cell hh0 (k := 1) (by omega)
  injection he1 with he1
  injection he1 with he1 he2
  subst he1
  subst he2
  rw [HX1.out] at p1
  have t0 : ((n : Int) == 0) = false := by rw [beq_eq_false_iff_ne]; omega
  have t2 : decide ((n : Int) < 2) = false := by rw [decide_eq_false_iff_not]; omega
  go_wp2_with fail
  refine (HH.out w0).mono ?_
  rintro e w0 ⟨rfl, rfl⟩
  go_wp2_with fail
  have z0 := fun (z : WK (fun _ => False) w0) => (wat_cell (p := ⟨b, off, none⟩) hbl (fun e => e) z).trans p0
  have z1 := fun (z : WK (fun _ => False) w0) => (wat_cell (p := ⟨b, off + 1, none⟩) hbl (fun e => e) z).trans p1
  refine wp_region_loud (fun _ => False) [(7, plainL [] (.int .i64 h9)), (11, plainL [] (.bool false))] (fun _ => Fact.none) (by kernel_rfl) (by kernel_rfl) (.cons (plainL_ok _ _) (.cons (plainL_ok _ _) .nil)) good_nothing sat_none (WX.out ?_)
  repeat (first | (refine wx_quietU (by rfl) (by rfl) (by rfl) (fun K hK => ?_); go_big_quiet_op; refine hK _ ?_; clear hK K) | (refine wx_quietG (by rfl) (by rfl) (by rfl) (by rfl) (by rfl) (fun K hK => ?_); go_big_quiet_op; refine hK _ ?_; clear hK K) | (refine wx_skipG (by rfl) (by rfl) (by rfl) (fun K hK => ?_); go_simp; refine hK _ ?_; clear hK K) | (refine wx_skipN (by rfl) (by rfl) (by rfl) (fun K hK => ?_); go_simp; refine hK _ ?_; clear hK K))
  refine wx_loudG (us := []) (by rfl) (by rfl) (by rfl) (by rfl) (fun S wS hC hS hU => runs_enter (f := 108) (by go_simp <;> rfl) ?_) (fun v hv K hK => ?_)
  · refine (HH.out wS).mono ?_
    rintro e w' ⟨rfl, rfl⟩
    exact ⟨_, rfl, rfl, Kept.refl _ _, trivial⟩
  obtain rfl := hv; (go_simp; refine hK _ ?_; clear hK K)
  repeat (first | (refine wx_quietU (by rfl) (by rfl) (by rfl) (fun K hK => ?_); go_big_quiet_op; refine hK _ ?_; clear hK K) | (refine wx_quietG (by rfl) (by rfl) (by rfl) (by rfl) (by rfl) (fun K hK => ?_); go_big_quiet_op; refine hK _ ?_; clear hK K) | (refine wx_skipG (by rfl) (by rfl) (by rfl) (fun K hK => ?_); go_simp; refine hK _ ?_; clear hK K) | (refine wx_skipN (by rfl) (by rfl) (by rfl) (fun K hK => ?_); go_simp; refine hK _ ?_; clear hK K))
  refine wx_loudG (us := []) (by rfl) (by rfl) (by rfl) (by rfl) (fun S wS hC hS hU => runs_enter (f := 85) (by go_simp <;> rfl) ?_) (fun v hv K hK => ?_)
  · refine (HM.out wS (hb0.trans (hC.below.mono hb0.size))).mono ?_
    rintro e w' ⟨rfl, hb⟩
    exact ⟨_, rfl, rfl, Kept.of_below hb, trivial⟩
  obtain rfl := hv; (go_simp; refine hK _ ?_; clear hK K)
  repeat (first | (refine wx_quietU (by rfl) (by rfl) (by rfl) (fun K hK => ?_); go_big_quiet_op; refine hK _ ?_; clear hK K) | (refine wx_quietG (by rfl) (by rfl) (by rfl) (by rfl) (by rfl) (fun K hK => ?_); go_big_quiet_op; refine hK _ ?_; clear hK K) | (refine wx_skipG (by rfl) (by rfl) (by rfl) (fun K hK => ?_); go_simp; refine hK _ ?_; clear hK K) | (refine wx_skipN (by rfl) (by rfl) (by rfl) (fun K hK => ?_); go_simp; refine hK _ ?_; clear hK K))
  refine wx_nil fun w0 hsat => ?_
  clear z0 z1
  have hb1 := sat_below hsat
  replace hx0 := blk_below hx0 hb1 (blk_lt hx0)
  replace hb0 := hb0.trans (hb1.mono hb0.size)
  clear hsat hb1
  go_wp2_with (refine wpList_store_whole rfl 29 (.tmp 2) (.tmp 31) rfl (lnV ln0) rfl rfl hx0 (by show _ = some 4; kernel_rfl) rfl (lnV_one _) ?_)
  intro wz hgz hgrz
  have hbz := hb0.trans ((Below.refl w.heap.size w0).grown hgrz hb0.size (by intro k hk; injection hk with hk; omega))
  go_wp2_with fail
  exact ret_row3 (fn := Tryz.f131) (x := .slice none 0 0) (y := .bool false) (cs := lnV ln0) rfl rfl rfl rfl hgz Tryz.underlying29 rfl (by show _ = some 4; kernel_rfl) rfl ⟨HP.out _ _ rfl, hbz⟩
set_option maxRecDepth 100000 in
set_option maxHeartbeats 1600000 in
theorem pnamed_ok (L : List (List UInt8)) (x nm : List UInt8) (r : List (List UInt8)) (hL : L = x :: nm :: r) (hx : headW x ≠ 0) (hnm : namedR (headW x) nm = true) (hnl : nm.length ≤ 2000000) (A : Option Addr) (n c : Nat) (w : World) (h : Sl w 1 (.slice A n c) (STR L)) (hn : 2 ≤ n) (hen : Env w) :
    Calls Tryz.prog 131 #[.slice A n c] w fun e w' => NamedPost L e w' ∧ Below w.heap.size w w' := by
  have HX : Hid (L.getD 0 [] = x) := by show _ = _; rw [hL]; rfl
  have hH := fun w => heads_any (S8 x) w
  obtain ⟨h9, hh9⟩ : ∃ h9, headW x = h9 := ⟨_, rfl⟩
  simp only [bl_S8, hh9] at hH
  have HH := hid hH
  have t1 : (h9 == 0) = false := by rw [beq_eq_false_iff_ne, ← hh9]; exact hx
  have HX1 : Hid (L.getD 1 [] = nm) := by show _ = _; rw [hL]; rfl
  have HM : Hid (∀ w', Below w.heap.size w w' → Calls Tryz.prog 85 #[.int .i64 h9, .string (S8 nm)] w' fun e w2 => e = .returned (.bool true) ∧ Below w'.heap.size w' w2) := by
    intro w' hb
    have := named_any h9 (S8 nm) w' (by rw [S8_size]; omega) (hen.below hb)
    rw [bl_S8, ← hh9, hnm] at this
    rw [← hh9]
    exact this
  have HN := hid (sl_lensS h).1
  have hnc := (sl_lensS h).2.1
  have hcm := (sl_lensS h).2.2
  have hd2 := sl_dropS h 2 hn
  have HD := hid hd2
  have HP : Hid (∀ w' A' n' c', L.length = n → n' = n - 2 → Sl w' 1 (.slice A' n' c') (STR (L.drop 2)) → NamedPost L (.returned (.tuple #[.agg (lnV ⟨h9, nm, [], []⟩), .slice A' n' c', .bool true])) w') := by
    show ∀ _ _ _ _, _
    intro w' A' n' c' hl hn' hs
    subst hL
    unfold NamedPost namedW
    simp only [if_neg hx, hnm, if_true]
    simp only [List.length_cons] at hl
    obtain rfl : n' = r.length := by omega
    rw [hh9]
    exact ⟨_, _, rfl, hs⟩
  clear hH hL hx hh9 hnm hen hd2
  obtain ⟨hb0, hx0, hl0⟩ := box1 w (.cells #[.int .i64 0, .string ⟨#[]⟩, .string ⟨#[]⟩, .string ⟨#[]⟩] 29)
  go_enter Tryz.func131, Tryz.ntmps131
  go_upto_region 1 with fail
  generalize w.alloc (.cells #[.int .i64 0, .string ⟨#[]⟩, .string ⟨#[]⟩, .string ⟨#[]⟩] 29) = w0 at *
  have hh0 := h.below hb0
  obtain ⟨b, off, rfl, hbl, p0⟩ := STR_cell hh0 (k := 0) (by omega)
  rw [HX.out, Nat.add_zero] at p0
  obtain ⟨b1, off1, he1, -, p1⟩ := STR_cell hh0 (k := 1) (by omega)
  injection he1 with he1
  injection he1 with he1 he2
  subst he1
  subst he2
  rw [HX1.out] at p1
  have t0 : ((n : Int) == 0) = false := by rw [beq_eq_false_iff_ne]; omega
  have t2 : decide ((n : Int) < 2) = false := by rw [decide_eq_false_iff_not]; omega
  go_wp2_with fail
  refine (HH.out w0).mono ?_
  rintro e w0 ⟨rfl, rfl⟩
  go_wp2_with fail
  have z0 := fun (z : WK (fun _ => False) w0) => (wat_cell (p := ⟨b, off, none⟩) hbl (fun e => e) z).trans p0
  have z1 := fun (z : WK (fun _ => False) w0) => (wat_cell (p := ⟨b, off + 1, none⟩) hbl (fun e => e) z).trans p1
  refine wp_region_loud (fun _ => False) [(7, plainL [] (.int .i64 h9)), (11, plainL [] (.bool true))] (fun _ => Fact.none) (by kernel_rfl) (by kernel_rfl) (.cons (plainL_ok _ _) (.cons (plainL_ok _ _) .nil)) good_nothing sat_none (WX.out ?_)
  repeat (first | (refine wx_quietU (by rfl) (by rfl) (by rfl) (fun K hK => ?_); go_big_quiet_op; refine hK _ ?_; clear hK K) | (refine wx_quietG (by rfl) (by rfl) (by rfl) (by rfl) (by rfl) (fun K hK => ?_); go_big_quiet_op; refine hK _ ?_; clear hK K) | (refine wx_skipG (by rfl) (by rfl) (by rfl) (fun K hK => ?_); go_simp; refine hK _ ?_; clear hK K) | (refine wx_skipN (by rfl) (by rfl) (by rfl) (fun K hK => ?_); go_simp; refine hK _ ?_; clear hK K))
  refine wx_loudG (us := []) (by rfl) (by rfl) (by rfl) (by rfl) (fun S wS hC hS hU => runs_enter (f := 108) (by go_simp <;> rfl) ?_) (fun v hv K hK => ?_)
  · refine (HH.out wS).mono ?_
    rintro e w' ⟨rfl, rfl⟩
    exact ⟨_, rfl, rfl, Kept.refl _ _, trivial⟩
  obtain rfl := hv; (go_simp; refine hK _ ?_; clear hK K)
  repeat (first | (refine wx_quietU (by rfl) (by rfl) (by rfl) (fun K hK => ?_); go_big_quiet_op; refine hK _ ?_; clear hK K) | (refine wx_quietG (by rfl) (by rfl) (by rfl) (by rfl) (by rfl) (fun K hK => ?_); go_big_quiet_op; refine hK _ ?_; clear hK K) | (refine wx_skipG (by rfl) (by rfl) (by rfl) (fun K hK => ?_); go_simp; refine hK _ ?_; clear hK K) | (refine wx_skipN (by rfl) (by rfl) (by rfl) (fun K hK => ?_); go_simp; refine hK _ ?_; clear hK K))
  refine wx_loudG (us := []) (by rfl) (by rfl) (by rfl) (by rfl) (fun S wS hC hS hU => runs_enter (f := 85) (by go_simp <;> rfl) ?_) (fun v hv K hK => ?_)
  · refine (HM.out wS (hb0.trans (hC.below.mono hb0.size))).mono ?_
    rintro e w' ⟨rfl, hb⟩
    exact ⟨_, rfl, rfl, Kept.of_below hb, trivial⟩
  obtain rfl := hv; (go_simp; refine hK _ ?_; clear hK K)
  repeat (first | (refine wx_quietU (by rfl) (by rfl) (by rfl) (fun K hK => ?_); go_big_quiet_op; refine hK _ ?_; clear hK K) | (refine wx_quietG (by rfl) (by rfl) (by rfl) (by rfl) (by rfl) (fun K hK => ?_); go_big_quiet_op; refine hK _ ?_; clear hK K) | (refine wx_skipG (by rfl) (by rfl) (by rfl) (fun K hK => ?_); go_simp; refine hK _ ?_; clear hK K) | (refine wx_skipN (by rfl) (by rfl) (by rfl) (fun K hK => ?_); go_simp; refine hK _ ?_; clear hK K))
  refine wx_nil fun w2 hsat => ?_
  clear z0 z1
  have hb2 := sat_below hsat
  have hx2 := blk_below hx0 hb2 (blk_lt hx0)
  have hbw2 := hb0.trans (hb2.mono hb0.size)
  have q0 := (hb2.cell (p := ⟨b, off, none⟩) hbl).trans p0
  have q1 := (hb2.cell (p := ⟨b, off + 1, none⟩) hbl).trans p1
  have hbl2 := Nat.lt_of_lt_of_le hbl hb2.size
  have hbw : b < w.heap.size := by
    obtain ⟨_, _, e1, hlt, _⟩ := STR_cell h (k := 0) (by omega)
    injection e1 with e1
    injection e1 with e1 _
    rw [e1]; exact hlt
  clear hsat hb2 p0 p1 hbl hx0 hb0 hl0 hh0 t0 t1 t2
  have y0 := fun (z : WK (fun b => b = w.heap.size) w2) => (wat_cell (p := ⟨b, off, none⟩) hbl2 (fun e => by have e2 : b = w.heap.size := e; omega) z).trans q0
  have y1 := fun (z : WK (fun b => b = w.heap.size) w2) => (wat_cell (p := ⟨b, off + 1, none⟩) hbl2 (fun e => by have e2 : b = w.heap.size := e; omega) z).trans q1
  clear q0 q1
  have hnc' : 2 ≤ c := by omega
  have hwl := blk_lt hx2
  by_cases hc : c = 2
  · obtain rfl : n = 2 := by omega
    subst hc
    go_wp2_with fail
    refine wp_region_loud (fun b => b = w.heap.size) [(3, plainL [] (.int .i64 h9)), (10, keepL [100] (BlkF w.heap.size 29 (lnV ⟨h9, nm, [], []⟩)))] (labelled 100 (BlkF w.heap.size 29 #[.int .i64 0, .string ⟨#[]⟩, .string ⟨#[]⟩, .string ⟨#[]⟩])) (by kernel_rfl) (by kernel_rfl)
      (.cons (plainL_ok _ _) (.cons (keepL_ok _ (good_blk _ _ _)) .nil)) (good_one 100 (good_blk _ _ _)) (sat_one 100 _ (fun g hg => by have e2 : g = w.heap.size := hg; omega) ⟨rfl, hx2⟩) (WX.out ?_)
    repeat (first | (refine wx_quietU (by rfl) (by rfl) (by rfl) (fun K hK => ?_); go_big_quiet_op; refine hK _ ?_; clear hK K) | (refine wx_quietG (by rfl) (by rfl) (by rfl) (by rfl) (by rfl) (fun K hK => ?_); go_big_quiet_op; refine hK _ ?_; clear hK K) | (refine wx_skipG (by rfl) (by rfl) (by rfl) (fun K hK => ?_); go_simp; refine hK _ ?_; clear hK K) | (refine wx_skipN (by rfl) (by rfl) (by rfl) (fun K hK => ?_); go_simp; refine hK _ ?_; clear hK K))
    refine wx_loudU (us := []) (by rfl) (by rfl) (fun S wS hC hS hU => runs_enter (f := 108) (by go_simp <;> rfl) ?_) (fun v hv K hK => ?_)
    · refine (HH.out wS).mono ?_
      rintro e w' ⟨rfl, rfl⟩
      exact ⟨_, rfl, rfl, Kept.refl _ _, trivial⟩
    obtain rfl := hv; (go_simp; refine hK _ ?_; clear hK K)
    repeat (first | (refine wx_quietU (by rfl) (by rfl) (by rfl) (fun K hK => ?_); go_big_quiet_op; refine hK _ ?_; clear hK K) | (refine wx_quietG (by rfl) (by rfl) (by rfl) (by rfl) (by rfl) (fun K hK => ?_); go_big_quiet_op; refine hK _ ?_; clear hK K) | (refine wx_skipG (by rfl) (by rfl) (by rfl) (fun K hK => ?_); go_simp; refine hK _ ?_; clear hK K) | (refine wx_skipN (by rfl) (by rfl) (by rfl) (fun K hK => ?_); go_simp; refine hK _ ?_; clear hK K))
    refine wx_loudU (us := [100]) (by rfl) (by rfl) (fun S wS hC hS hU => ?_) (fun v hv K hK => ?_)
    · have hB : BlkF w.heap.size 29 #[.int .i64 0, .string ⟨#[]⟩, .string ⟨#[]⟩, .string ⟨#[]⟩] S wS := hU 100 (by simp)
      exact runs_store_whole 29 (.tmp 2) (.tmp 39) rfl (lnV ⟨h9, nm, [], []⟩) rfl rfl hB.2 (by show _ = some 4; kernel_rfl) rfl (lnV_one _) ⟨trivial, kept_setRow wS w.heap.size _ hB.1, .inl hB.1, setRow_heap _ _ _ _ _ _ hB.2⟩
    (go_simp; refine hK _ ?_; clear hK K)
    repeat (first | (refine wx_quietU (by rfl) (by rfl) (by rfl) (fun K hK => ?_); go_big_quiet_op; refine hK _ ?_; clear hK K) | (refine wx_quietG (by rfl) (by rfl) (by rfl) (by rfl) (by rfl) (fun K hK => ?_); go_big_quiet_op; refine hK _ ?_; clear hK K) | (refine wx_skipG (by rfl) (by rfl) (by rfl) (fun K hK => ?_); go_simp; refine hK _ ?_; clear hK K) | (refine wx_skipN (by rfl) (by rfl) (by rfl) (fun K hK => ?_); go_simp; refine hK _ ?_; clear hK K))
    refine wx_nil fun wz hsat => ?_
    obtain ⟨S9, hS9, hF9⟩ := sat_get hsat 10
    have hgz := (show BlkF w.heap.size 29 (lnV ⟨h9, nm, [], []⟩) S9 wz from hF9).2
    have hbz := hbw2.trans (hsat.1.below_of (B := w.heap.size) (by omega) (fun g hg => by have e2 : g = w.heap.size := hg; omega))
    clear hsat hF9 hS9 y0 y1
    go_wp2_with fail
    refine ret_row3 (fn := Tryz.f131) (x := .slice (some ⟨b, off, none⟩) 0 0) (y := .bool true) (cs := lnV ⟨h9, nm, [], []⟩) rfl rfl rfl rfl hgz Tryz.underlying29 rfl (by show _ = some 4; kernel_rfl) rfl ⟨HP.out _ _ _ _ HN.out (by omega) ?_, hbz⟩
    have hd2 := HD.out.below hbz
    simpa using hd2
  rw [if_neg hc] at HD
  have HC := hid hc
  clear hc
  go_wp2_with fail
  refine wp_region_loud (fun b => b = w.heap.size) [(3, plainL [] (.int .i64 h9)), (10, keepL [100] (BlkF w.heap.size 29 (lnV ⟨h9, nm, [], []⟩)))] (labelled 100 (BlkF w.heap.size 29 #[.int .i64 0, .string ⟨#[]⟩, .string ⟨#[]⟩, .string ⟨#[]⟩])) (by kernel_rfl) (by kernel_rfl)
    (.cons (plainL_ok _ _) (.cons (keepL_ok _ (good_blk _ _ _)) .nil)) (good_one 100 (good_blk _ _ _)) (sat_one 100 _ (fun g hg => by have e2 : g = w.heap.size := hg; omega) ⟨rfl, hx2⟩) (WX.out ?_)
  repeat (first | (refine wx_quietU (by rfl) (by rfl) (by rfl) (fun K hK => ?_); go_big_quiet_op; refine hK _ ?_; clear hK K) | (refine wx_quietG (by rfl) (by rfl) (by rfl) (by rfl) (by rfl) (fun K hK => ?_); go_big_quiet_op; refine hK _ ?_; clear hK K) | (refine wx_skipG (by rfl) (by rfl) (by rfl) (fun K hK => ?_); go_simp; refine hK _ ?_; clear hK K) | (refine wx_skipN (by rfl) (by rfl) (by rfl) (fun K hK => ?_); go_simp; refine hK _ ?_; clear hK K))
  refine wx_loudU (us := []) (by rfl) (by rfl) (fun S wS hC hS hU => runs_enter (f := 108) (by go_simp <;> rfl) ?_) (fun v hv K hK => ?_)
  · refine (HH.out wS).mono ?_
    rintro e w' ⟨rfl, rfl⟩
    exact ⟨_, rfl, rfl, Kept.refl _ _, trivial⟩
  obtain rfl := hv; (go_simp; refine hK _ ?_; clear hK K)
  repeat (first | (refine wx_quietU (by rfl) (by rfl) (by rfl) (fun K hK => ?_); go_big_quiet_op; refine hK _ ?_; clear hK K) | (refine wx_quietG (by rfl) (by rfl) (by rfl) (by rfl) (by rfl) (fun K hK => ?_); go_big_quiet_op; refine hK _ ?_; clear hK K) | (refine wx_skipG (by rfl) (by rfl) (by rfl) (fun K hK => ?_); go_simp; refine hK _ ?_; clear hK K) | (refine wx_skipN (by rfl) (by rfl) (by rfl) (fun K hK => ?_); go_simp; refine hK _ ?_; clear hK K))
  refine wx_loudU (us := [100]) (by rfl) (by rfl) (fun S wS hC hS hU => ?_) (fun v hv K hK => ?_)
  · have hB : BlkF w.heap.size 29 #[.int .i64 0, .string ⟨#[]⟩, .string ⟨#[]⟩, .string ⟨#[]⟩] S wS := hU 100 (by simp)
    exact runs_store_whole 29 (.tmp 2) (.tmp 39) rfl (lnV ⟨h9, nm, [], []⟩) rfl rfl hB.2 (by show _ = some 4; kernel_rfl) rfl (lnV_one _) ⟨trivial, kept_setRow wS w.heap.size _ hB.1, .inl hB.1, setRow_heap _ _ _ _ _ _ hB.2⟩
  (go_simp; refine hK _ ?_; clear hK K)
  repeat (first | (refine wx_quietU (by rfl) (by rfl) (by rfl) (fun K hK => ?_); go_big_quiet_op; refine hK _ ?_; clear hK K) | (refine wx_quietG (by rfl) (by rfl) (by rfl) (by rfl) (by rfl) (fun K hK => ?_); go_big_quiet_op; refine hK _ ?_; clear hK K) | (refine wx_skipG (by rfl) (by rfl) (by rfl) (fun K hK => ?_); go_simp; refine hK _ ?_; clear hK K) | (refine wx_skipN (by rfl) (by rfl) (by rfl) (fun K hK => ?_); go_simp; refine hK _ ?_; clear hK K))
  refine wx_nil fun wz hsat => ?_
  obtain ⟨S9, hS9, hF9⟩ := sat_get hsat 10
  have hgz := (show BlkF w.heap.size 29 (lnV ⟨h9, nm, [], []⟩) S9 wz from hF9).2
  have hbz := hbw2.trans (hsat.1.below_of (B := w.heap.size) (by omega) (fun g hg => by have e2 : g = w.heap.size := hg; omega))
  clear hsat hF9 hS9 y0 y1
  go_wp2_with fail
  refine ret_row3 (fn := Tryz.f131) (x := .slice (some ⟨b, off + 2, none⟩) (n - 2) (c - 2)) (y := .bool true) (cs := lnV ⟨h9, nm, [], []⟩) rfl rfl rfl rfl hgz Tryz.underlying29 rfl (by show _ = some 4; kernel_rfl) rfl ⟨HP.out _ _ _ _ HN.out (by omega) ?_, hbz⟩
  have hd2 := HD.out.below hbz
  simp only [Option.map_some, addr_add] at hd2
  exact hd2
theorem pnamed_any (L : List (List UInt8)) (A : Option Addr) (n c : Nat) (w : World) (h : Sl w 1 (.slice A n c) (STR L)) (hL : ∀ x ∈ L, x.length ≤ 2000000) (hen : Env w) :
    Calls Tryz.prog 131 #[.slice A n c] w fun e w' => NamedPost L e w' ∧ Below w.heap.size w w' := by
  have hl := (sl_lensS h).1
  match L, hl with
  | [], hl => subst hl; exact pnamed_nil [] rfl A c w h
  | x :: r, hl =>
    by_cases hx : headW x = 0
    · exact pnamed_top (x :: r) x r rfl hx A n c w h (by simp at hl; omega)
    match r, hl with
    | [], hl => subst hl; exact pnamed_short [x] x rfl hx A c w h
    | nm :: r, hl =>
      have hn : 2 ≤ n := by simp at hl; omega
      have hnl := hL nm (by simp)
      cases hnm : namedR (headW x) nm with
      | false => exact pnamed_bad _ x nm r rfl hx hnm hnl A n c w h hn hen
      | true => exact pnamed_ok _ x nm r rfl hx hnm hnl A n c w h hn hen
end Go.Proofs.YtecfkhgocjbocaaGreatDoor
