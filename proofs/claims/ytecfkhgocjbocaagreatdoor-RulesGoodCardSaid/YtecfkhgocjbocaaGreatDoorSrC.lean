/-
  Right, in the code and in the reference: by the kinds.
-/
import Derived.Test.YtecfkhgocjbocaaGreatDoorSdA
import Derived.Test.YtecfkhgocjbocaaGreatDoorSx5
namespace Go.Proofs.YtecfkhgocjbocaaGreatDoor
set_option linter.unusedVariables false
set_option linter.unusedSimpArgs false
open Go Go.RowKit

/-- may v be r's? -/
def rightR (r : Rw) (v : List UInt8) : Bool :=
  if r.kind = 0 then SC.addrB v else if r.kind = 1 then SC.netB v
  else if r.kind = 2 then SC.decB v && decide (r.lo ≤ SC.decV v) && decide ((SC.decV v : Int) ≤ r.hi)
  else if r.kind = 3 then r.cho.contains v else LX.isW v && decide ((v.length : Int) ≤ r.hi)
theorem box1 (w : World) (O1 : Obj) : Below w.heap.size w (w.alloc O1) ∧ (w.alloc O1).heap[w.heap.size]? = some O1 ∧ w.heap.size < (w.alloc O1).heap.size :=
  ⟨(Below.refl _ _).alloc (Nat.le_refl _) O1, heap_alloc_new w O1, by simp⟩
theorem right0_eq (r : Rw) (v : List UInt8) (h : r.kind = 0) : rightR r v = SC.addrB v := by unfold rightR; rw [if_pos h]
theorem right1_eq (r : Rw) (v : List UInt8) (h : r.kind = 1) : rightR r v = SC.netB v := by unfold rightR; rw [h]; rfl
theorem right2_eq (r : Rw) (v : List UInt8) (h : r.kind = 2) : rightR r v = (SC.decB v && decide (r.lo ≤ SC.decV v) && decide ((SC.decV v : Int) ≤ r.hi)) := by unfold rightR; rw [h]; rfl
theorem right3_eq (r : Rw) (v : List UInt8) (h : r.kind = 3) : rightR r v = r.cho.contains v := by unfold rightR; rw [h]; rfl
theorem right4_eq (r : Rw) (v : List UInt8) (h : r.kind = 4) : rightR r v = (LX.isW v && decide ((v.length : Int) ≤ r.hi)) := by unfold rightR; rw [h]; rfl
set_option maxRecDepth 100000 in
set_option maxHeartbeats 1600000 in
theorem right0_any (r : Rw) (A : Option Addr) (s : ByteArray) (w : World) (hs : s.size ≤ 2000000) (hen : Env w) (hch : Cho w r A) (hcn : r.cho.length ≤ 1000) (hkd : r.kind = 0) : Calls Tryz.prog 86 #[.agg (rwV r A), .string s] w fun e w' => e = .returned (.bool (rightR r (bl s))) ∧ Below w.heap.size w w' := by
  have HR := hid (right0_eq r (bl s) hkd)
  rw [HR.out]
  clear HR
  obtain ⟨head, name, kind, lo, hi, cho, dft, cls⟩ := r
  simp only at hkd
  subst hkd
  show Calls _ _ #[.agg #[.int .i64 head, .string (S8 name), .int .i64 0, .int .i64 lo, .int .i64 hi, .slice A cho.length cho.length, .string (S8 dft), .int .i64 cls], .string s] _ _
  generalize S8 name = nm at *
  generalize S8 dft = df at *
  obtain ⟨hb0, hx1, hl1⟩ := box1 w (.cells #[.int .i64 head, .string nm, .int .i64 0, .int .i64 lo, .int .i64 hi, .slice A cho.length cho.length, .string df, .int .i64 cls] 93)
  have hen2 := hen.below hb0
  replace hch := Cho.below hch hb0
  unfold Cho at hch
  simp only at hch hcn
  have hb0s := hb0.size
  go_enter Tryz.func86, Tryz.ntmps86
  go_upto_region 1 with fail
  generalize w.alloc (.cells #[.int .i64 head, .string nm, .int .i64 0, .int .i64 lo, .int .i64 hi, .slice A cho.length cho.length, .string df, .int .i64 cls] 93) = w2 at *
  have p0 := blkCell hx1 0
  have p1 := blkCell hx1 1
  have p2 := blkCell hx1 2
  have p3 := blkCell hx1 3
  have p4 := blkCell hx1 4
  have p5 := blkCell hx1 5
  have p6 := blkCell hx1 6
  have p7 := blkCell hx1 7
  rw [Array.getElem?_eq_getElem (by simp)] at p0 p1 p2 p3 p4 p5 p6 p7
  simp only [List.getElem_toArray, List.getElem_cons_zero, List.getElem_cons_succ] at p0 p1 p2 p3 p4 p5 p6 p7
  clear hx1
  go_wp2_with fail
  refine (addr_any s w2 hs hen2).mono ?_
  rintro e w3 ⟨rfl, hb3⟩
  have hbw := hb0.trans (hb3.mono hb0s)
  go_wp2_with fail
  go_ret
  exact ⟨rfl, hbw⟩
set_option maxRecDepth 100000 in
set_option maxHeartbeats 1600000 in
theorem right1_any (r : Rw) (A : Option Addr) (s : ByteArray) (w : World) (hs : s.size ≤ 2000000) (hen : Env w) (hch : Cho w r A) (hcn : r.cho.length ≤ 1000) (hkd : r.kind = 1) : Calls Tryz.prog 86 #[.agg (rwV r A), .string s] w fun e w' => e = .returned (.bool (rightR r (bl s))) ∧ Below w.heap.size w w' := by
  have HR := hid (right1_eq r (bl s) hkd)
  rw [HR.out]
  clear HR
  obtain ⟨head, name, kind, lo, hi, cho, dft, cls⟩ := r
  simp only at hkd
  subst hkd
  show Calls _ _ #[.agg #[.int .i64 head, .string (S8 name), .int .i64 1, .int .i64 lo, .int .i64 hi, .slice A cho.length cho.length, .string (S8 dft), .int .i64 cls], .string s] _ _
  generalize S8 name = nm at *
  generalize S8 dft = df at *
  obtain ⟨hb0, hx1, hl1⟩ := box1 w (.cells #[.int .i64 head, .string nm, .int .i64 1, .int .i64 lo, .int .i64 hi, .slice A cho.length cho.length, .string df, .int .i64 cls] 93)
  have hen2 := hen.below hb0
  replace hch := Cho.below hch hb0
  unfold Cho at hch
  simp only at hch hcn
  have hb0s := hb0.size
  go_enter Tryz.func86, Tryz.ntmps86
  go_upto_region 1 with fail
  generalize w.alloc (.cells #[.int .i64 head, .string nm, .int .i64 1, .int .i64 lo, .int .i64 hi, .slice A cho.length cho.length, .string df, .int .i64 cls] 93) = w2 at *
  have p0 := blkCell hx1 0
  have p1 := blkCell hx1 1
  have p2 := blkCell hx1 2
  have p3 := blkCell hx1 3
  have p4 := blkCell hx1 4
  have p5 := blkCell hx1 5
  have p6 := blkCell hx1 6
  have p7 := blkCell hx1 7
  rw [Array.getElem?_eq_getElem (by simp)] at p0 p1 p2 p3 p4 p5 p6 p7
  simp only [List.getElem_toArray, List.getElem_cons_zero, List.getElem_cons_succ] at p0 p1 p2 p3 p4 p5 p6 p7
  clear hx1
  go_wp2_with fail
  refine (net_any s w2 hs hen2).mono ?_
  rintro e w3 ⟨rfl, hb3⟩
  have hbw := hb0.trans (hb3.mono hb0s)
  go_wp2_with fail
  go_ret
  exact ⟨rfl, hbw⟩
set_option maxRecDepth 100000 in
set_option maxHeartbeats 1600000 in
theorem right2_any (r : Rw) (A : Option Addr) (s : ByteArray) (w : World) (hs : s.size ≤ 2000000) (hen : Env w) (hch : Cho w r A) (hcn : r.cho.length ≤ 1000) (hkd : r.kind = 2) : Calls Tryz.prog 86 #[.agg (rwV r A), .string s] w fun e w' => e = .returned (.bool (rightR r (bl s))) ∧ Below w.heap.size w w' := by
  have HR := hid (right2_eq r (bl s) hkd)
  rw [HR.out]
  clear HR
  obtain ⟨head, name, kind, lo, hi, cho, dft, cls⟩ := r
  simp only at hkd
  subst hkd
  show Calls _ _ #[.agg #[.int .i64 head, .string (S8 name), .int .i64 2, .int .i64 lo, .int .i64 hi, .slice A cho.length cho.length, .string (S8 dft), .int .i64 cls], .string s] _ _
  generalize S8 name = nm at *
  generalize S8 dft = df at *
  obtain ⟨hb0, hx1, hl1⟩ := box1 w (.cells #[.int .i64 head, .string nm, .int .i64 2, .int .i64 lo, .int .i64 hi, .slice A cho.length cho.length, .string df, .int .i64 cls] 93)
  have hen2 := hen.below hb0
  replace hch := Cho.below hch hb0
  unfold Cho at hch
  simp only at hch hcn
  have hb0s := hb0.size
  go_enter Tryz.func86, Tryz.ntmps86
  go_upto_region 1 with fail
  generalize w.alloc (.cells #[.int .i64 head, .string nm, .int .i64 2, .int .i64 lo, .int .i64 hi, .slice A cho.length cho.length, .string df, .int .i64 cls] 93) = w2 at *
  have p0 := blkCell hx1 0
  have p1 := blkCell hx1 1
  have p2 := blkCell hx1 2
  have p3 := blkCell hx1 3
  have p4 := blkCell hx1 4
  have p5 := blkCell hx1 5
  have p6 := blkCell hx1 6
  have p7 := blkCell hx1 7
  rw [Array.getElem?_eq_getElem (by simp)] at p0 p1 p2 p3 p4 p5 p6 p7
  simp only [List.getElem_toArray, List.getElem_cons_zero, List.getElem_cons_succ] at p0 p1 p2 p3 p4 p5 p6 p7
  clear hx1
  go_wp2_with fail
  refine (decimal_any s w2 hs).mono ?_
  rintro e w3 ⟨rfl, hb3⟩
  replace p3 := (hb3.cell (p := ⟨w.heap.size, 3, none⟩) hl1).trans p3
  replace p4 := (hb3.cell (p := ⟨w.heap.size, 4, none⟩) hl1).trans p4
  have hbw := hb0.trans (hb3.mono hb0s)
  cases hd : SC.decB (bl s) with
  | false =>
    go_wp2_with fail
    go_ret
    exact ⟨ret_bool (by simp [hd]), hbw⟩
  | true =>
    obtain ⟨v, hv⟩ : ∃ v, SC.decV (bl s) = v := ⟨_, rfl⟩
    rw [hv]
    have HV := hid hv
    clear hv
    go_wp2_with fail
    all_goals
      go_ret
      refine ⟨ret_bool ?_, hbw⟩
      try rw [hd]
      rw [HV.out, Bool.eq_iff_iff]
      simp
      omega
set_option maxRecDepth 100000 in
set_option maxHeartbeats 1600000 in
theorem right4_any (r : Rw) (A : Option Addr) (s : ByteArray) (w : World) (hs : s.size ≤ 2000000) (hen : Env w) (hch : Cho w r A) (hcn : r.cho.length ≤ 1000) (hkd : r.kind = 4) : Calls Tryz.prog 86 #[.agg (rwV r A), .string s] w fun e w' => e = .returned (.bool (rightR r (bl s))) ∧ Below w.heap.size w w' := by
  have HR := hid (right4_eq r (bl s) hkd)
  rw [HR.out]
  clear HR
  obtain ⟨head, name, kind, lo, hi, cho, dft, cls⟩ := r
  simp only at hkd
  subst hkd
  show Calls _ _ #[.agg #[.int .i64 head, .string (S8 name), .int .i64 4, .int .i64 lo, .int .i64 hi, .slice A cho.length cho.length, .string (S8 dft), .int .i64 cls], .string s] _ _
  generalize S8 name = nm at *
  generalize S8 dft = df at *
  obtain ⟨hb0, hx1, hl1⟩ := box1 w (.cells #[.int .i64 head, .string nm, .int .i64 4, .int .i64 lo, .int .i64 hi, .slice A cho.length cho.length, .string df, .int .i64 cls] 93)
  have hen2 := hen.below hb0
  replace hch := Cho.below hch hb0
  unfold Cho at hch
  simp only at hch hcn
  have hb0s := hb0.size
  go_enter Tryz.func86, Tryz.ntmps86
  go_upto_region 1 with fail
  generalize w.alloc (.cells #[.int .i64 head, .string nm, .int .i64 4, .int .i64 lo, .int .i64 hi, .slice A cho.length cho.length, .string df, .int .i64 cls] 93) = w2 at *
  have p0 := blkCell hx1 0
  have p1 := blkCell hx1 1
  have p2 := blkCell hx1 2
  have p3 := blkCell hx1 3
  have p4 := blkCell hx1 4
  have p5 := blkCell hx1 5
  have p6 := blkCell hx1 6
  have p7 := blkCell hx1 7
  rw [Array.getElem?_eq_getElem (by simp)] at p0 p1 p2 p3 p4 p5 p6 p7
  simp only [List.getElem_toArray, List.getElem_cons_zero, List.getElem_cons_succ] at p0 p1 p2 p3 p4 p5 p6 p7
  clear hx1
  go_wp2_with fail
  refine (isWord_any s w2 (by omega)).mono ?_
  rintro e w3 ⟨rfl, rfl⟩
  have hbw := hb0
  have HL := hid (bl_len s)
  cases hd : LX.isW (bl s) with
  | false =>
    go_wp2_with fail
    go_ret
    exact ⟨ret_bool (by simp [hd]), hbw⟩
  | true =>
    go_wp2_with fail
    go_ret
    exact ⟨ret_bool (by rw [HL.out, hd]; simp), hbw⟩
set_option maxRecDepth 100000 in
set_option maxHeartbeats 1600000 in
theorem refRight0_any (r : Rw) (A : Option Addr) (s : ByteArray) (w : World) (hs : s.size ≤ 2000000) (hen : Env w) (hch : Cho w r A) (hcn : r.cho.length ≤ 1000) (hkd : r.kind = 0) : Calls Tryz.prog 65 #[.agg (rwV r A), .string s] w fun e w' => e = .returned (.bool (rightR r (bl s))) ∧ Below w.heap.size w w' := by
  have HR := hid (right0_eq r (bl s) hkd)
  rw [HR.out]
  clear HR
  obtain ⟨head, name, kind, lo, hi, cho, dft, cls⟩ := r
  simp only at hkd
  subst hkd
  show Calls _ _ #[.agg #[.int .i64 head, .string (S8 name), .int .i64 0, .int .i64 lo, .int .i64 hi, .slice A cho.length cho.length, .string (S8 dft), .int .i64 cls], .string s] _ _
  generalize S8 name = nm at *
  generalize S8 dft = df at *
  obtain ⟨hb0, hx1, hl1⟩ := box1 w (.cells #[.int .i64 head, .string nm, .int .i64 0, .int .i64 lo, .int .i64 hi, .slice A cho.length cho.length, .string df, .int .i64 cls] 102)
  have hen2 := hen.below hb0
  replace hch := Cho.below hch hb0
  unfold Cho at hch
  simp only at hch hcn
  have hb0s := hb0.size
  go_enter Tryz.func65, Tryz.ntmps65
  go_upto_region 1 with fail
  generalize w.alloc (.cells #[.int .i64 head, .string nm, .int .i64 0, .int .i64 lo, .int .i64 hi, .slice A cho.length cho.length, .string df, .int .i64 cls] 102) = w2 at *
  have p0 := blkCell hx1 0
  have p1 := blkCell hx1 1
  have p2 := blkCell hx1 2
  have p3 := blkCell hx1 3
  have p4 := blkCell hx1 4
  have p5 := blkCell hx1 5
  have p6 := blkCell hx1 6
  have p7 := blkCell hx1 7
  rw [Array.getElem?_eq_getElem (by simp)] at p0 p1 p2 p3 p4 p5 p6 p7
  simp only [List.getElem_toArray, List.getElem_cons_zero, List.getElem_cons_succ] at p0 p1 p2 p3 p4 p5 p6 p7
  clear hx1
  go_wp2_with fail
  refine (refAddr_any s w2 hs).mono ?_
  rintro e w3 ⟨rfl, hb3⟩
  have hbw := hb0.trans (hb3.mono hb0s)
  go_wp2_with fail
  go_ret
  exact ⟨rfl, hbw⟩
set_option maxRecDepth 100000 in
set_option maxHeartbeats 1600000 in
theorem refRight1_any (r : Rw) (A : Option Addr) (s : ByteArray) (w : World) (hs : s.size ≤ 2000000) (hen : Env w) (hch : Cho w r A) (hcn : r.cho.length ≤ 1000) (hkd : r.kind = 1) : Calls Tryz.prog 65 #[.agg (rwV r A), .string s] w fun e w' => e = .returned (.bool (rightR r (bl s))) ∧ Below w.heap.size w w' := by
  have HR := hid (right1_eq r (bl s) hkd)
  rw [HR.out]
  clear HR
  obtain ⟨head, name, kind, lo, hi, cho, dft, cls⟩ := r
  simp only at hkd
  subst hkd
  show Calls _ _ #[.agg #[.int .i64 head, .string (S8 name), .int .i64 1, .int .i64 lo, .int .i64 hi, .slice A cho.length cho.length, .string (S8 dft), .int .i64 cls], .string s] _ _
  generalize S8 name = nm at *
  generalize S8 dft = df at *
  obtain ⟨hb0, hx1, hl1⟩ := box1 w (.cells #[.int .i64 head, .string nm, .int .i64 1, .int .i64 lo, .int .i64 hi, .slice A cho.length cho.length, .string df, .int .i64 cls] 102)
  have hen2 := hen.below hb0
  replace hch := Cho.below hch hb0
  unfold Cho at hch
  simp only at hch hcn
  have hb0s := hb0.size
  go_enter Tryz.func65, Tryz.ntmps65
  go_upto_region 1 with fail
  generalize w.alloc (.cells #[.int .i64 head, .string nm, .int .i64 1, .int .i64 lo, .int .i64 hi, .slice A cho.length cho.length, .string df, .int .i64 cls] 102) = w2 at *
  have p0 := blkCell hx1 0
  have p1 := blkCell hx1 1
  have p2 := blkCell hx1 2
  have p3 := blkCell hx1 3
  have p4 := blkCell hx1 4
  have p5 := blkCell hx1 5
  have p6 := blkCell hx1 6
  have p7 := blkCell hx1 7
  rw [Array.getElem?_eq_getElem (by simp)] at p0 p1 p2 p3 p4 p5 p6 p7
  simp only [List.getElem_toArray, List.getElem_cons_zero, List.getElem_cons_succ] at p0 p1 p2 p3 p4 p5 p6 p7
  clear hx1
  go_wp2_with fail
  refine (refNet_any s w2 hs).mono ?_
  rintro e w3 ⟨rfl, hb3⟩
  have hbw := hb0.trans (hb3.mono hb0s)
  go_wp2_with fail
  go_ret
  exact ⟨rfl, hbw⟩
set_option maxRecDepth 100000 in
set_option maxHeartbeats 1600000 in
theorem refRight2_any (r : Rw) (A : Option Addr) (s : ByteArray) (w : World) (hs : s.size ≤ 2000000) (hen : Env w) (hch : Cho w r A) (hcn : r.cho.length ≤ 1000) (hkd : r.kind = 2) : Calls Tryz.prog 65 #[.agg (rwV r A), .string s] w fun e w' => e = .returned (.bool (rightR r (bl s))) ∧ Below w.heap.size w w' := by
  have HR := hid (right2_eq r (bl s) hkd)
  rw [HR.out]
  clear HR
  obtain ⟨head, name, kind, lo, hi, cho, dft, cls⟩ := r
  simp only at hkd
  subst hkd
  show Calls _ _ #[.agg #[.int .i64 head, .string (S8 name), .int .i64 2, .int .i64 lo, .int .i64 hi, .slice A cho.length cho.length, .string (S8 dft), .int .i64 cls], .string s] _ _
  generalize S8 name = nm at *
  generalize S8 dft = df at *
  obtain ⟨hb0, hx1, hl1⟩ := box1 w (.cells #[.int .i64 head, .string nm, .int .i64 2, .int .i64 lo, .int .i64 hi, .slice A cho.length cho.length, .string df, .int .i64 cls] 102)
  have hen2 := hen.below hb0
  replace hch := Cho.below hch hb0
  unfold Cho at hch
  simp only at hch hcn
  have hb0s := hb0.size
  go_enter Tryz.func65, Tryz.ntmps65
  go_upto_region 1 with fail
  generalize w.alloc (.cells #[.int .i64 head, .string nm, .int .i64 2, .int .i64 lo, .int .i64 hi, .slice A cho.length cho.length, .string df, .int .i64 cls] 102) = w2 at *
  have p0 := blkCell hx1 0
  have p1 := blkCell hx1 1
  have p2 := blkCell hx1 2
  have p3 := blkCell hx1 3
  have p4 := blkCell hx1 4
  have p5 := blkCell hx1 5
  have p6 := blkCell hx1 6
  have p7 := blkCell hx1 7
  rw [Array.getElem?_eq_getElem (by simp)] at p0 p1 p2 p3 p4 p5 p6 p7
  simp only [List.getElem_toArray, List.getElem_cons_zero, List.getElem_cons_succ] at p0 p1 p2 p3 p4 p5 p6 p7
  clear hx1
  go_wp2_with fail
  refine (refDecimal_any s w2 (by omega)).mono ?_
  rintro e w3 ⟨rfl, rfl⟩
  have hbw := hb0
  cases hd : SC.decB (bl s) with
  | false =>
    go_wp2_with fail
    go_ret
    exact ⟨ret_bool (by simp [hd]), hbw⟩
  | true =>
    obtain ⟨v, hv⟩ : ∃ v, SC.decV (bl s) = v := ⟨_, rfl⟩
    rw [hv]
    have HV := hid hv
    clear hv
    go_wp2_with fail
    all_goals
      go_ret
      refine ⟨ret_bool ?_, hbw⟩
      try rw [hd]
      rw [HV.out, Bool.eq_iff_iff]
      simp
      omega
set_option maxRecDepth 100000 in
set_option maxHeartbeats 1600000 in
theorem refRight4_any (r : Rw) (A : Option Addr) (s : ByteArray) (w : World) (hs : s.size ≤ 2000000) (hen : Env w) (hch : Cho w r A) (hcn : r.cho.length ≤ 1000) (hkd : r.kind = 4) : Calls Tryz.prog 65 #[.agg (rwV r A), .string s] w fun e w' => e = .returned (.bool (rightR r (bl s))) ∧ Below w.heap.size w w' := by
  have HR := hid (right4_eq r (bl s) hkd)
  rw [HR.out]
  clear HR
  obtain ⟨head, name, kind, lo, hi, cho, dft, cls⟩ := r
  simp only at hkd
  subst hkd
  show Calls _ _ #[.agg #[.int .i64 head, .string (S8 name), .int .i64 4, .int .i64 lo, .int .i64 hi, .slice A cho.length cho.length, .string (S8 dft), .int .i64 cls], .string s] _ _
  generalize S8 name = nm at *
  generalize S8 dft = df at *
  obtain ⟨hb0, hx1, hl1⟩ := box1 w (.cells #[.int .i64 head, .string nm, .int .i64 4, .int .i64 lo, .int .i64 hi, .slice A cho.length cho.length, .string df, .int .i64 cls] 102)
  have hen2 := hen.below hb0
  replace hch := Cho.below hch hb0
  unfold Cho at hch
  simp only at hch hcn
  have hb0s := hb0.size
  go_enter Tryz.func65, Tryz.ntmps65
  go_upto_region 1 with fail
  generalize w.alloc (.cells #[.int .i64 head, .string nm, .int .i64 4, .int .i64 lo, .int .i64 hi, .slice A cho.length cho.length, .string df, .int .i64 cls] 102) = w2 at *
  have p0 := blkCell hx1 0
  have p1 := blkCell hx1 1
  have p2 := blkCell hx1 2
  have p3 := blkCell hx1 3
  have p4 := blkCell hx1 4
  have p5 := blkCell hx1 5
  have p6 := blkCell hx1 6
  have p7 := blkCell hx1 7
  rw [Array.getElem?_eq_getElem (by simp)] at p0 p1 p2 p3 p4 p5 p6 p7
  simp only [List.getElem_toArray, List.getElem_cons_zero, List.getElem_cons_succ] at p0 p1 p2 p3 p4 p5 p6 p7
  clear hx1
  go_wp2_with fail
  refine (refWord_any s w2 hs).mono ?_
  rintro e w3 ⟨rfl, hb3⟩
  replace p3 := (hb3.cell (p := ⟨w.heap.size, 3, none⟩) hl1).trans p3
  replace p4 := (hb3.cell (p := ⟨w.heap.size, 4, none⟩) hl1).trans p4
  have hbw := hb0.trans (hb3.mono hb0s)
  have HL := hid (bl_len s)
  cases hd : LX.isW (bl s) with
  | false =>
    go_wp2_with fail
    go_ret
    exact ⟨ret_bool (by simp [hd]), hbw⟩
  | true =>
    go_wp2_with fail
    go_ret
    exact ⟨ret_bool (by rw [HL.out, hd]; simp), hbw⟩
end Go.Proofs.YtecfkhgocjbocaaGreatDoor
