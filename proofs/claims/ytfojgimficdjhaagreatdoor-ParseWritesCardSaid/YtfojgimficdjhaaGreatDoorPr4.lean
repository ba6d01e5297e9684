/-
  Contracts of package parse: counted, read, Read.
-/
import Derived.Test.YtfojgimficdjhaaGreatDoorPr3
import Derived.Test.YtfojgimficdjhaaGreatDoorPw1
import Derived.Test.YtfojgimficdjhaaGreatDoorWb
namespace Go.Proofs.YtfojgimficdjhaaGreatDoor
set_option linter.unusedVariables false
set_option linter.unusedSimpArgs false
open Go Go.RowKit

def cmC (c : Cmd) : List Value := [.int .i64 c.what, .int .i64 c.line.head, .string (S8 c.line.name), .string (S8 c.line.leaf), .string (S8 c.line.value), .int .i64 c.n]
abbrev cmV (c : Cmd) : Array Value := (cmC c).toArray
theorem cmV_one (c : Cmd) : (cmV c).all (·.oneCell') = true := by simp [cmC, Value.oneCell']
theorem i6 : (Tryz.prog.info? 25).map (·.size) = some 6 := by kernel_rfl
/-- a command and whether it can be -/
def CmdPost (x : Option Cmd) (e : Ending) : Prop := ∃ c b, e = .returned (.tuple #[.agg (cmV c), .bool b]) ∧ (if b = true then some c else none) = x
theorem cm_built (k : Int) (l : Ln) : (Tryz.prog).built 25 [(0, .int .i64 k), (1, .agg (lnV l))] = some (cmV ⟨k, l, 0⟩) := by kernel_rfl
set_option maxRecDepth 100000 in
set_option maxHeartbeats 1600000 in
theorem counted_any (what : Int) (x : List UInt8) (lo hi : Nat) (hlo : lo ≤ 65535) (hhi : hi ≤ 65535) (hx : x.length ≤ 100000) (w : World) :
    Calls Tryz.prog 72 #[.int .i64 what, .string (S8 x), .int .i64 lo, .int .i64 hi] w fun e w' => CmdPost (countW what x lo hi) e ∧ Below w.heap.size w w' := by
  have hD := fun w => decimal_any (S8 x) w (by rw [S8_size]; omega)
  rw [bl_S8] at hD
  have HCW : Hid (countW what x lo hi = if SC.decB x = true ∧ lo ≤ SC.decV x ∧ SC.decV x ≤ hi then some ⟨what, ln0, (SC.decV x : Nat)⟩ else none) := rfl
  have hdl := SC.decV_lt x
  generalize SC.decV x = d at *
  generalize SC.decB x = db at *
  have HD := hid hD
  clear hD
  obtain ⟨hb0, hx0, hl0⟩ := box1 w (.cells #[.int .i64 0, .int .i64 0, .string ⟨#[]⟩, .string ⟨#[]⟩, .string ⟨#[]⟩, .int .i64 0] 25)
  go_enter Tryz.func72, Tryz.ntmps72
  go_upto_region 1 with fail
  generalize w.alloc (.cells #[.int .i64 0, .int .i64 0, .string ⟨#[]⟩, .string ⟨#[]⟩, .string ⟨#[]⟩, .int .i64 0] 25) = w0 at *
  go_wp2_with fail
  refine (HD.out w0).mono ?_
  rintro e w1 ⟨rfl, hb1⟩
  replace hx0 := blk_below hx0 hb1 hl0
  replace hb0 := hb0.trans (hb1.mono hb0.size)
  clear hb1 HD hl0
  cases db with
  | false =>
    have HP : Hid (countW what x lo hi = none) := by show _ = _; rw [HCW.out]; simp
    go_wp2_with (refine wpList_store_whole rfl 25 (.tmp 8) (.tmp 19) rfl (cmV ⟨what, ln0, (d : Nat)⟩) rfl rfl hx0 i6 rfl (cmV_one _) ?_)
    intro wz hgz hgrz
    have hbz := grown1 hb0 hgrz (Nat.le_refl _)
    go_wp2_with fail
    exact ret_row2 (fn := Tryz.f72) (x := .bool false) (cs := cmV ⟨what, ln0, (d : Nat)⟩) rfl rfl rfl hgz Tryz.underlying25 rfl i6 rfl ⟨⟨_, _, rfl, HP.out.symm⟩, hbz⟩
  | true =>
    by_cases h1 : lo ≤ d
    · have t1 : decide ((lo : Int) ≤ (d : Int)) = true := by rw [decide_eq_true_iff]; omega
      by_cases h2 : d ≤ hi
      · have t2 : decide ((d : Int) ≤ (hi : Int)) = true := by rw [decide_eq_true_iff]; omega
        have HP : Hid (countW what x lo hi = some ⟨what, ln0, (d : Nat)⟩) := by show _ = _; rw [HCW.out, if_pos ⟨rfl, h1, h2⟩]
        go_wp2_with (refine wpList_store_whole rfl 25 (.tmp 8) (.tmp 19) rfl (cmV ⟨what, ln0, (d : Nat)⟩) rfl rfl hx0 i6 rfl (cmV_one _) ?_)
        intro wz hgz hgrz
        have hbz := grown1 hb0 hgrz (Nat.le_refl _)
        go_wp2_with fail
        exact ret_row2 (fn := Tryz.f72) (x := .bool true) (cs := cmV ⟨what, ln0, (d : Nat)⟩) rfl rfl rfl hgz Tryz.underlying25 rfl i6 rfl ⟨⟨_, _, rfl, HP.out.symm⟩, hbz⟩
      · have t2 : decide ((d : Int) ≤ (hi : Int)) = false := by rw [decide_eq_false_iff_not]; omega
        have HP : Hid (countW what x lo hi = none) := by show _ = _; rw [HCW.out, if_neg (fun h => h2 h.2.2)]
        go_wp2_with (refine wpList_store_whole rfl 25 (.tmp 8) (.tmp 19) rfl (cmV ⟨what, ln0, (d : Nat)⟩) rfl rfl hx0 i6 rfl (cmV_one _) ?_)
        intro wz hgz hgrz
        have hbz := grown1 hb0 hgrz (Nat.le_refl _)
        go_wp2_with fail
        exact ret_row2 (fn := Tryz.f72) (x := .bool false) (cs := cmV ⟨what, ln0, (d : Nat)⟩) rfl rfl rfl hgz Tryz.underlying25 rfl i6 rfl ⟨⟨_, _, rfl, HP.out.symm⟩, hbz⟩
    · have t1 : decide ((lo : Int) ≤ (d : Int)) = false := by rw [decide_eq_false_iff_not]; omega
      have HP : Hid (countW what x lo hi = none) := by show _ = _; rw [HCW.out, if_neg (fun h => h1 h.2.1)]
      go_wp2_with (refine wpList_store_whole rfl 25 (.tmp 8) (.tmp 19) rfl (cmV ⟨what, ln0, (d : Nat)⟩) rfl rfl hx0 i6 rfl (cmV_one _) ?_)
      intro wz hgz hgrz
      have hbz := grown1 hb0 hgrz (Nat.le_refl _)
      go_wp2_with fail
      exact ret_row2 (fn := Tryz.f72) (x := .bool false) (cs := cmV ⟨what, ln0, (d : Nat)⟩) rfl rfl rfl hgz Tryz.underlying25 rfl i6 rfl ⟨⟨_, _, rfl, HP.out.symm⟩, hbz⟩
set_option maxRecDepth 100000 in
set_option maxHeartbeats 1600000 in
theorem read_plain (x : List UInt8) (r : List (List UInt8)) (A : Option Addr) (n c : Nat) (w : World) (h : Sl w 1 (.slice A n c) (STR r)) (hx : plainW x ≠ 0) :
    Calls Tryz.prog 39 #[.string (S8 x), .slice A n c] w fun e w' => CmdPost (readL x r) e ∧ Below w.heap.size w w' := by
  have hP := fun w => plain_any (S8 x) w
  rw [bl_S8] at hP
  have HL := hid (sl_lensS h).1
  obtain ⟨nb, hnb⟩ : ∃ nb, ((n : Int) == 0) = nb := ⟨_, rfl⟩
  have HQ : Hid (readL x r = if nb = true then some ⟨plainW x, ln0, 0⟩ else none) := by
    show _ = _
    unfold readL
    rw [if_pos hx, ← hnb, ← HL.out]
    cases r with
    | nil => rfl
    | cons a b => rw [if_neg (by simp), if_neg (by simp; omega)]
  have HP := hid hP
  have t0 : (plainW x != 0) = true := by rw [bne_iff_ne]; exact hx
  clear hP hx h
  generalize plainW x = pw at *
  obtain ⟨hb0, hx0, hl0⟩ := box1 w (.cells #[.int .i64 0, .int .i64 0, .string ⟨#[]⟩, .string ⟨#[]⟩, .string ⟨#[]⟩, .int .i64 0] 25)
  go_enter Tryz.func39, Tryz.ntmps39
  go_upto_region 1 with fail
  generalize w.alloc (.cells #[.int .i64 0, .int .i64 0, .string ⟨#[]⟩, .string ⟨#[]⟩, .string ⟨#[]⟩, .int .i64 0] 25) = w0 at *
  go_wp2_with fail
  refine (HP.out w0).mono ?_
  rintro e w0 ⟨rfl, rfl⟩
  go_wp2_with fail
  refine (HP.out w0).mono ?_
  rintro e w0 ⟨rfl, rfl⟩
  go_wp2_with (refine wpList_store_whole rfl 25 (.tmp 4) (.tmp 16) rfl (cmV ⟨pw, ln0, 0⟩) rfl rfl hx0 i6 rfl (cmV_one _) ?_)
  clear HP
  have HP := HQ
  intro wz hgz hgrz
  have hbz := grown1 hb0 hgrz (Nat.le_refl _)
  go_wp2_with fail
  exact ret_row2 (fn := Tryz.f39) (x := .bool nb) (cs := cmV ⟨pw, ln0, 0⟩) rfl rfl rfl hgz Tryz.underlying25 rfl i6 rfl ⟨⟨_, _, rfl, HP.out.symm⟩, hbz⟩
set_option maxRecDepth 100000 in
set_option maxHeartbeats 1600000 in
theorem read_odd (x : List UInt8) (r : List (List UInt8)) (A : Option Addr) (n c : Nat) (w : World) (h : Sl w 1 (.slice A n c) (STR r)) (hx : plainW x = 0) (b1 b2 : Bool) (e1 : ((S8 x).toList == wCC) = b1) (e2 : ((S8 x).toList == wRoll) = b2) (e3 : ((S8 x).toList == wSet) = false) (e4 : ((S8 x).toList == wDelete) = false)
    (hb : (b1 || b2) = true → n ≠ 1) (HP : Hid (readL x r = none)) :
    Calls Tryz.prog 39 #[.string (S8 x), .slice A n c] w fun e w' => CmdPost (readL x r) e ∧ Below w.heap.size w w' := by
  have HQ := HP
  clear HP
  simp only [wCC, wRoll, wSet, wDelete] at e1 e2 e3 e4
  cases b1 <;> cases b2
  · clear hb
    have hP := fun w => plain_any (S8 x) w
    rw [bl_S8] at hP
    have HL := hid (sl_lensS h).1
    rw [hx] at hP
    have HP := hid hP
    clear hP hx
    obtain ⟨hb0, hx0, hl0⟩ := box1 w (.cells #[.int .i64 0, .int .i64 0, .string ⟨#[]⟩, .string ⟨#[]⟩, .string ⟨#[]⟩, .int .i64 0] 25)
    go_enter Tryz.func39, Tryz.ntmps39
    go_upto_region 1 with fail
    generalize w.alloc (.cells #[.int .i64 0, .int .i64 0, .string ⟨#[]⟩, .string ⟨#[]⟩, .string ⟨#[]⟩, .int .i64 0] 25) = w0 at *
    go_wp2_with fail
    refine (HP.out w0).mono ?_
    rintro e w0 ⟨rfl, rfl⟩
    clear HP
    have HP := HQ
    go_wp2_with (refine wpList_store_whole rfl 25 (.tmp 4) (.tmp 70) rfl (cmV cmd0) rfl rfl hx0 i6 rfl (cmV_one _) ?_)
    intro wz hgz hgrz
    have hbz := grown1 hb0 hgrz (Nat.le_refl _)
    go_wp2_with fail
    exact ret_row2 (fn := Tryz.f39) (x := .bool false) (cs := cmV cmd0) rfl rfl rfl hgz Tryz.underlying25 rfl i6 rfl ⟨⟨_, _, rfl, HP.out.symm⟩, hbz⟩
  all_goals
    have t1 : ((n : Int) == 1) = false := by rw [beq_eq_false_iff_ne]; have := hb (by simp); omega
    clear hb
    have hP := fun w => plain_any (S8 x) w
    rw [bl_S8] at hP
    have HL := hid (sl_lensS h).1
    rw [hx] at hP
    have HP := hid hP
    clear hP hx
    obtain ⟨hb0, hx0, hl0⟩ := box1 w (.cells #[.int .i64 0, .int .i64 0, .string ⟨#[]⟩, .string ⟨#[]⟩, .string ⟨#[]⟩, .int .i64 0] 25)
    go_enter Tryz.func39, Tryz.ntmps39
    go_upto_region 1 with fail
    generalize w.alloc (.cells #[.int .i64 0, .int .i64 0, .string ⟨#[]⟩, .string ⟨#[]⟩, .string ⟨#[]⟩, .int .i64 0] 25) = w0 at *
    go_wp2_with fail
    refine (HP.out w0).mono ?_
    rintro e w0 ⟨rfl, rfl⟩
    clear HP
    have HP := HQ
    go_wp2_with (refine wpList_store_whole rfl 25 (.tmp 4) (.tmp 70) rfl (cmV cmd0) rfl rfl hx0 i6 rfl (cmV_one _) ?_)
    intro wz hgz hgrz
    have hbz := grown1 hb0 hgrz (Nat.le_refl _)
    go_wp2_with fail
    exact ret_row2 (fn := Tryz.f39) (x := .bool false) (cs := cmV cmd0) rfl rfl rfl hgz Tryz.underlying25 rfl i6 rfl ⟨⟨_, _, rfl, HP.out.symm⟩, hbz⟩
set_option maxRecDepth 100000 in
set_option maxHeartbeats 1600000 in
theorem read_cc (x y : List UInt8) (A : Option Addr) (n c : Nat) (w : World) (h : Sl w 1 (.slice A n c) (STR [y])) (hx : plainW x = 0) (hw : x = wCC) (hy : y.length ≤ 100000)
    (e1 : ((S8 x).toList == wCC) = true) (e2 : ((S8 x).toList == wCC) = true) :
    Calls Tryz.prog 39 #[.string (S8 x), .slice A n c] w fun e w' => CmdPost (readL x [y]) e ∧ Below w.heap.size w w' := by
  have hN1 : n = 1 := by have := (sl_lensS h).1; simp at this; omega
  subst hN1
  have HQ : Hid (readL x [y] = countW 7 y 1 65535) := by
    show _ = _
    unfold readL
    rw [if_neg (by rw [hx]; simp)]
    rw [if_pos hw]
  have hCN : ∀ w, Calls Tryz.prog 72 #[.int .i64 7, .string (S8 y), .int .i64 1, .int .i64 65535] w fun e w' => CmdPost (readL x [y]) e ∧ Below w.heap.size w w' := fun w => by
    rw [HQ.out]
    exact counted_any 7 y 1 65535 (by omega) (by omega) hy w
  have HCN := hid hCN
  clear hCN HQ hw
  simp only [wCC, wRoll, wSet, wDelete] at e1 e2
  have hP := fun w => plain_any (S8 x) w
  rw [bl_S8] at hP
  have HL := hid (sl_lensS h).1
  rw [hx] at hP
  have HP := hid hP
  clear hP hx
  obtain ⟨hb0, hx0, hl0⟩ := box1 w (.cells #[.int .i64 0, .int .i64 0, .string ⟨#[]⟩, .string ⟨#[]⟩, .string ⟨#[]⟩, .int .i64 0] 25)
  go_enter Tryz.func39, Tryz.ntmps39
  go_upto_region 1 with fail
  generalize w.alloc (.cells #[.int .i64 0, .int .i64 0, .string ⟨#[]⟩, .string ⟨#[]⟩, .string ⟨#[]⟩, .int .i64 0] 25) = w0 at *
  go_wp2_with fail
  refine (HP.out w0).mono ?_
  rintro e w0 ⟨rfl, rfl⟩
  clear HP
  have hh0 := h.below hb0
  obtain ⟨b, off, rfl, hbl, p0⟩ := STR_cell hh0 (k := 0) (by omega)
  simp only [List.getD_cons_zero, Nat.add_zero] at p0
  go_wp2_with fail
  refine (HCN.out w0).mono ?_
  rintro e w1 ⟨hcp, hb1⟩
  replace hx0 := blk_below hx0 hb1 hl0
  replace hb0 := hb0.trans (hb1.mono hb0.size)
  clear hb1 HCN p0 hbl hh0 h
  obtain ⟨cm, cb, rfl, hcb⟩ := hcp
  have HP := hid hcb.symm
  clear hcb
  go_wp2_with (refine wpList_store_whole rfl 25 (.tmp 4) (.tmp 32) rfl (cmV cm) rfl rfl hx0 i6 rfl (cmV_one _) ?_)
  intro wz hgz hgrz
  have hbz := grown1 hb0 hgrz (Nat.le_refl _)
  go_wp2_with fail
  exact ret_row2 (fn := Tryz.f39) (x := .bool cb) (cs := cmV cm) rfl rfl rfl hgz Tryz.underlying25 rfl i6 rfl ⟨⟨_, _, rfl, HP.out.symm⟩, hbz⟩
set_option maxRecDepth 100000 in
set_option maxHeartbeats 1600000 in
theorem read_roll (x y : List UInt8) (A : Option Addr) (n c : Nat) (w : World) (h : Sl w 1 (.slice A n c) (STR [y])) (hx : plainW x = 0) (hw : x = wRoll) (hw2 : x ≠ wCC) (hy : y.length ≤ 100000)
    (e1 : ((S8 x).toList == wCC) = false) (e2 : ((S8 x).toList == wRoll) = true) :
    Calls Tryz.prog 39 #[.string (S8 x), .slice A n c] w fun e w' => CmdPost (readL x [y]) e ∧ Below w.heap.size w w' := by
  have hN1 : n = 1 := by have := (sl_lensS h).1; simp at this; omega
  subst hN1
  have HQ : Hid (readL x [y] = countW 9 y 0 5) := by
    show _ = _
    unfold readL
    rw [if_neg (by rw [hx]; simp)]
    rw [if_neg hw2, if_pos hw]
  have hCN : ∀ w, Calls Tryz.prog 72 #[.int .i64 9, .string (S8 y), .int .i64 0, .int .i64 5] w fun e w' => CmdPost (readL x [y]) e ∧ Below w.heap.size w w' := fun w => by
    rw [HQ.out]
    exact counted_any 9 y 0 5 (by omega) (by omega) hy w
  have HCN := hid hCN
  clear hCN HQ hw hw2
  simp only [wCC, wRoll, wSet, wDelete] at e1 e2
  have hP := fun w => plain_any (S8 x) w
  rw [bl_S8] at hP
  have HL := hid (sl_lensS h).1
  rw [hx] at hP
  have HP := hid hP
  clear hP hx
  obtain ⟨hb0, hx0, hl0⟩ := box1 w (.cells #[.int .i64 0, .int .i64 0, .string ⟨#[]⟩, .string ⟨#[]⟩, .string ⟨#[]⟩, .int .i64 0] 25)
  go_enter Tryz.func39, Tryz.ntmps39
  go_upto_region 1 with fail
  generalize w.alloc (.cells #[.int .i64 0, .int .i64 0, .string ⟨#[]⟩, .string ⟨#[]⟩, .string ⟨#[]⟩, .int .i64 0] 25) = w0 at *
  go_wp2_with fail
  refine (HP.out w0).mono ?_
  rintro e w0 ⟨rfl, rfl⟩
  clear HP
  have hh0 := h.below hb0
  obtain ⟨b, off, rfl, hbl, p0⟩ := STR_cell hh0 (k := 0) (by omega)
  simp only [List.getD_cons_zero, Nat.add_zero] at p0
  go_wp2_with fail
  refine (HCN.out w0).mono ?_
  rintro e w1 ⟨hcp, hb1⟩
  replace hx0 := blk_below hx0 hb1 hl0
  replace hb0 := hb0.trans (hb1.mono hb0.size)
  clear hb1 HCN p0 hbl hh0 h
  obtain ⟨cm, cb, rfl, hcb⟩ := hcp
  have HP := hid hcb.symm
  clear hcb
  go_wp2_with (refine wpList_store_whole rfl 25 (.tmp 4) (.tmp 46) rfl (cmV cm) rfl rfl hx0 i6 rfl (cmV_one _) ?_)
  intro wz hgz hgrz
  have hbz := grown1 hb0 hgrz (Nat.le_refl _)
  go_wp2_with fail
  exact ret_row2 (fn := Tryz.f39) (x := .bool cb) (cs := cmV cm) rfl rfl rfl hgz Tryz.underlying25 rfl i6 rfl ⟨⟨_, _, rfl, HP.out.symm⟩, hbz⟩
set_option maxRecDepth 100000 in
set_option maxHeartbeats 1600000 in
theorem read_set (x : List UInt8) (r : List (List UInt8)) (A : Option Addr) (n c : Nat) (w : World) (h : Sl w 1 (.slice A n c) (STR r)) (hL : ∀ x ∈ r, x.length ≤ 100000) (hen : Env w) (hx : plainW x = 0) (hw : x = wSet) (hw1 : x ≠ wCC) (hw2 : x ≠ wRoll)
    (e1 : ((S8 x).toList == wCC) = false) (e2 : ((S8 x).toList == wRoll) = false) (e3 : ((S8 x).toList == wSet) = true) (e4 : ((S8 x).toList == wSet) = true) :
    Calls Tryz.prog 39 #[.string (S8 x), .slice A n c] w fun e w' => CmdPost (readL x r) e ∧ Below w.heap.size w w' := by
  have HQ : Hid (readL x r = (lineW r).map fun l => (⟨1, l, 0⟩ : Cmd)) := by
    show _ = _
    unfold readL
    rw [if_neg (by rw [hx]; simp)]
    rw [if_neg hw1, if_neg hw2, if_pos hw]
  simp only [wCC, wRoll, wSet, wDelete] at e1 e2 e3 e4
  have HCN : Hid (∀ w', Below w.heap.size w w' → Calls Tryz.prog 73 #[.slice A n c] w' fun e w'' => LinePost (lineW r) e ∧ Below w'.heap.size w' w'') := fun w' hb => line_any r A n c w' (h.below hb) hL (hen.below hb)
  clear hL hen hw hw1 hw2
  have hP := fun w => plain_any (S8 x) w
  rw [bl_S8] at hP
  have HL := hid (sl_lensS h).1
  rw [hx] at hP
  have HP := hid hP
  clear hP hx
  obtain ⟨hb0, hx0, hl0⟩ := box1 w (.cells #[.int .i64 0, .int .i64 0, .string ⟨#[]⟩, .string ⟨#[]⟩, .string ⟨#[]⟩, .int .i64 0] 25)
  go_enter Tryz.func39, Tryz.ntmps39
  go_upto_region 1 with fail
  generalize w.alloc (.cells #[.int .i64 0, .int .i64 0, .string ⟨#[]⟩, .string ⟨#[]⟩, .string ⟨#[]⟩, .int .i64 0] 25) = w0 at *
  go_wp2_with fail
  refine (HP.out w0).mono ?_
  rintro e w0 ⟨rfl, rfl⟩
  clear HP
  clear h
  go_wp2_with fail
  refine (HCN.out w0 hb0).mono ?_
  rintro e w1 ⟨hcp, hb1⟩
  replace hx0 := blk_below hx0 hb1 hl0
  replace hb0 := hb0.trans (hb1.mono hb0.size)
  clear hb1 HCN hl0
  obtain ⟨l, cb, rfl, hcb⟩ := hcp
  have HP : Hid (readL x r = if cb = true then some ⟨1, l, 0⟩ else none) := by
    show _ = _
    rw [HQ.out, ← hcb]
    cases cb <;> rfl
  clear hcb HQ
  obtain ⟨hb2, hg2, hl2⟩ := box1 w1 (.cells (lnV l) 23)
  have hlt0 := blk_lt hx0
  have hx2 := blk_below hx0 hb2 hlt0
  have hbw2 := hb0.trans (hb2.mono hb0.size)
  go_upto_region 9 with (refine wpList_store_last rfl 23 (.tmp 6) (.tmp 54) rfl (lnV l) rfl rfl i4 rfl (lnV_one _) ?_)
  generalize w1.alloc (.cells (lnV l) 23) = w2 at *
  clear hb2 hx0 hb0
  have hb0 := hbw2
  clear hbw2
  go_wp2_with (first | refine wpList_load_row rfl 23 (.tmp 6) rfl w1.heap.size rfl 23 (lnV l) (0, 0) _ hg2 Tryz.underlying23 rfl i4 ?_ | refine wpList_buildV rfl 25 [(0, .const (.int .i64 1)), (1, .tmp 56)] rfl (some 57) rfl [(0, .int .i64 1), (1, .agg (lnV l))] rfl _ (cm_built 1 l) ?_ | refine wpList_store_whole rfl 25 (.tmp 4) (.tmp 57) rfl (cmV ⟨1, l, 0⟩) rfl rfl hx2 i6 rfl (cmV_one _) ?_)
  intro wz hgz hgrz
  have hbz := grown1 hb0 hgrz (Nat.le_refl _)
  go_wp2_with fail
  exact ret_row2 (fn := Tryz.f39) (x := .bool cb) (cs := cmV ⟨1, l, 0⟩) rfl rfl rfl hgz Tryz.underlying25 rfl i6 rfl ⟨⟨_, _, rfl, HP.out.symm⟩, hbz⟩
set_option maxRecDepth 100000 in
set_option maxHeartbeats 1600000 in
theorem read_del (x : List UInt8) (r : List (List UInt8)) (A : Option Addr) (n c : Nat) (w : World) (h : Sl w 1 (.slice A n c) (STR r)) (hL : ∀ x ∈ r, x.length ≤ 100000) (hen : Env w) (hx : plainW x = 0) (hw : x = wDelete) (hw1 : x ≠ wCC) (hw2 : x ≠ wRoll) (hw3 : x ≠ wSet)
    (e1 : ((S8 x).toList == wCC) = false) (e2 : ((S8 x).toList == wRoll) = false) (e3 : ((S8 x).toList == wSet) = false) (e4 : ((S8 x).toList == wDelete) = true) :
    Calls Tryz.prog 39 #[.string (S8 x), .slice A n c] w fun e w' => CmdPost (readL x r) e ∧ Below w.heap.size w w' := by
  have HQ : Hid (readL x r = (pathW r).map fun l => (⟨2, l, 0⟩ : Cmd)) := by
    show _ = _
    unfold readL
    rw [if_neg (by rw [hx]; simp)]
    rw [if_neg hw1, if_neg hw2, if_neg hw3, if_pos hw]
  simp only [wCC, wRoll, wSet, wDelete] at e1 e2 e3 e4
  have HCN : Hid (∀ w', Below w.heap.size w w' → Calls Tryz.prog 74 #[.slice A n c] w' fun e w'' => LinePost (pathW r) e ∧ Below w'.heap.size w' w'') := fun w' hb => path_any r A n c w' (h.below hb) hL (hen.below hb)
  clear hL hen hw hw1 hw2 hw3
  have hP := fun w => plain_any (S8 x) w
  rw [bl_S8] at hP
  have HL := hid (sl_lensS h).1
  rw [hx] at hP
  have HP := hid hP
  clear hP hx
  obtain ⟨hb0, hx0, hl0⟩ := box1 w (.cells #[.int .i64 0, .int .i64 0, .string ⟨#[]⟩, .string ⟨#[]⟩, .string ⟨#[]⟩, .int .i64 0] 25)
  go_enter Tryz.func39, Tryz.ntmps39
  go_upto_region 1 with fail
  generalize w.alloc (.cells #[.int .i64 0, .int .i64 0, .string ⟨#[]⟩, .string ⟨#[]⟩, .string ⟨#[]⟩, .int .i64 0] 25) = w0 at *
  go_wp2_with fail
  refine (HP.out w0).mono ?_
  rintro e w0 ⟨rfl, rfl⟩
  clear HP
  clear h
  go_wp2_with fail
  refine (HCN.out w0 hb0).mono ?_
  rintro e w1 ⟨hcp, hb1⟩
  replace hx0 := blk_below hx0 hb1 hl0
  replace hb0 := hb0.trans (hb1.mono hb0.size)
  clear hb1 HCN hl0
  obtain ⟨l, cb, rfl, hcb⟩ := hcp
  have HP : Hid (readL x r = if cb = true then some ⟨2, l, 0⟩ else none) := by
    show _ = _
    rw [HQ.out, ← hcb]
    cases cb <;> rfl
  clear hcb HQ
  obtain ⟨hb2, hg2, hl2⟩ := box1 w1 (.cells (lnV l) 23)
  have hlt0 := blk_lt hx0
  have hx2 := blk_below hx0 hb2 hlt0
  have hbw2 := hb0.trans (hb2.mono hb0.size)
  go_upto_region 12 with (refine wpList_store_last rfl 23 (.tmp 8) (.tmp 65) rfl (lnV l) rfl rfl i4 rfl (lnV_one _) ?_)
  generalize w1.alloc (.cells (lnV l) 23) = w2 at *
  clear hb2 hx0 hb0
  have hb0 := hbw2
  clear hbw2
  go_wp2_with (first | refine wpList_load_row rfl 23 (.tmp 8) rfl w1.heap.size rfl 23 (lnV l) (0, 0) _ hg2 Tryz.underlying23 rfl i4 ?_ | refine wpList_buildV rfl 25 [(0, .const (.int .i64 2)), (1, .tmp 67)] rfl (some 68) rfl [(0, .int .i64 2), (1, .agg (lnV l))] rfl _ (cm_built 2 l) ?_ | refine wpList_store_whole rfl 25 (.tmp 4) (.tmp 68) rfl (cmV ⟨2, l, 0⟩) rfl rfl hx2 i6 rfl (cmV_one _) ?_)
  intro wz hgz hgrz
  have hbz := grown1 hb0 hgrz (Nat.le_refl _)
  go_wp2_with fail
  exact ret_row2 (fn := Tryz.f39) (x := .bool cb) (cs := cmV ⟨2, l, 0⟩) rfl rfl rfl hgz Tryz.underlying25 rfl i6 rfl ⟨⟨_, _, rfl, HP.out.symm⟩, hbz⟩
end Go.Proofs.YtfojgimficdjhaaGreatDoor
