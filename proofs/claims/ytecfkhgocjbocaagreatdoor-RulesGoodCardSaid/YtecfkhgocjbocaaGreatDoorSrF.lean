/-
  Find, in the code and in the reference.
-/
import Derived.Test.YtecfkhgocjbocaaGreatDoorSrD
namespace Go.Proofs.YtecfkhgocjbocaaGreatDoor
set_option linter.unusedVariables false
set_option linter.unusedSimpArgs false
open Go Go.RowKit

def isR (head : Int) (name : List UInt8) (r : Rw) : Bool := decide (r.head = head) && decide (r.name = name)
/-- what is found -/
def findR (head : Int) (name : List UInt8) : Rw × Bool := match TAB.find? (isR head name) with
  | some r => (r, true)
  | none => (row0, false)
theorem findR_yes (head : Int) (name : List UInt8) (k : Nat) (hk : k < 12) (hn : ∀ j < k, isR head name (tabAt j) = false) (h : isR head name (tabAt k) = true) : findR head name = (tabAt k, true) := by
  have hl : TAB.length = 12 := rfl
  have e : ∀ j, (hj : j < TAB.length) → tabAt j = TAB[j] := fun j hj => by unfold tabAt; rw [List.getD_eq_getElem?_getD, List.getElem?_eq_getElem hj]; rfl
  have : TAB.find? (isR head name) = some (tabAt k) := by
    rw [e k (by omega), List.find?_eq_some_iff_getElem]
    refine ⟨by rw [← e k (by omega)]; exact h, k, by omega, rfl, fun j hj => ?_⟩
    rw [← e j (by omega), hn j hj]
    rfl
  unfold findR
  rw [this]
theorem findR_no (head : Int) (name : List UInt8) (hn : ∀ j < 12, isR head name (tabAt j) = false) : findR head name = (row0, false) := by
  have hl : TAB.length = 12 := rfl
  have e : ∀ j, (hj : j < TAB.length) → tabAt j = TAB[j] := fun j hj => by unfold tabAt; rw [List.getD_eq_getElem?_getD, List.getElem?_eq_getElem hj]; rfl
  have : TAB.find? (isR head name) = none := by
    rw [List.find?_eq_none]
    intro x hx
    obtain ⟨j, hj, rfl⟩ := List.getElem_of_mem hx
    rw [← e j hj, hn j (by omega)]
    decide
  unfold findR
  rw [this]
theorem rwV_one (r : Rw) (A : Option Addr) : (rwV r A).all (·.oneCell') = true := by simp [rwV, rwL, Value.oneCell']
theorem findR_cho (head : Int) (name : List UInt8) : (findR head name).1.cho.length ≤ 3 := by
  unfold findR
  cases hf : TAB.find? (isR head name) with
  | none => decide
  | some r =>
    obtain ⟨j, hj, he⟩ := List.getElem_of_mem (List.mem_of_find?_eq_some hf)
    have := tab_cho j
    unfold tabAt at this
    rw [List.getD_eq_getElem?_getD, List.getElem?_eq_getElem hj, he] at this
    exact this
set_option maxRecDepth 100000 in
set_option maxHeartbeats 3200000 in
theorem refFind_new (head : Int) (s : ByteArray) (w : World) : Calls Tryz.prog 60 #[.int .i64 head, .string s] w fun e w' => ∃ A, e = .returned (.tuple #[.agg (rwV (findR head (bl s)).1 A), .bool (findR head (bl s)).2]) ∧ Below w.heap.size w w' ∧ Cho w' (findR head (bl s)).1 A ∧ ∀ ad, A = some ad → w.heap.size ≤ ad.block := by
  have HF : Hid (∀ k < 12, (∀ j < k, isR head (bl s) (tabAt j) = false) → isR head (bl s) (tabAt k) = true → findR head (bl s) = (tabAt k, true)) := fun k hk h1 h2 => findR_yes head (bl s) k hk h1 h2
  have HN : Hid ((∀ j < 12, isR head (bl s) (tabAt j) = false) → findR head (bl s) = (row0, false)) := findR_no head (bl s)
  generalize findR head (bl s) = FR at *
  have hs8 : s.toList = bl s := Lib.toList_data s
  obtain ⟨hb0, hx0, hl0⟩ := box1 w (.cells #[.int .i64 0, .string ⟨#[]⟩, .int .i64 0, .int .i64 0, .int .i64 0, .slice none 0 0, .string ⟨#[]⟩, .int .i64 0] 102)
  go_enter Tryz.func60, Tryz.ntmps60
  go_upto_region 1 with fail
  generalize w.alloc (.cells #[.int .i64 0, .string ⟨#[]⟩, .int .i64 0, .int .i64 0, .int .i64 0, .slice none 0 0, .string ⟨#[]⟩, .int .i64 0] 102) = w0 at *
  go_wp2_with fail
  refine (refTable_any w0).mono ?_
  rintro e w1 ⟨g, ch, rfl, hb1, hT, hfr⟩
  have hfr2 : ∀ i ad, ch i = some ad → ad.block ≠ w.heap.size := fun i ad h => by have := hfr i ad h; omega
  have hfr3 : ∀ i ad, ch i = some ad → w.heap.size ≤ ad.block := fun i ad h => by have := hfr i ad h; omega
  clear hfr
  have hx1 := (hb1.block _ hl0).trans hx0
  have hbw := hb0.trans (hb1.mono hb0.size)
  have hl1 := Nat.lt_of_lt_of_le hl0 hb1.size
  clear hb0 hb1 hl0 hx0
  go_wp2_with fail
  go_loop [7] (fun i => ∃ k : Nat, k ≤ 12 ∧ i = .int .i64 k ∧ Hid (∀ j < k, isR head (bl s) (tabAt j) = false)) (fun i => 12 - (intOf i).toNat)
  case atStart => exact ⟨0, Nat.zero_le _, rfl, hid (by simp)⟩
  case round =>
    obtain ⟨k, hk, rfl, hn⟩ := hrel
    by_cases hlt : k < 12
    · have hcell := hT.cell k hlt
      have c0 := hcell 0 _ rfl
      have c1 := hcell 1 _ rfl
      have HY := hid (HF.out k hlt hn.out)
      have hcho := hT.cho k
      have hfk := hfr2 k
      have hfk3 := hfr3 k
      have HI : Hid (isR head (bl s) (tabAt k) = (decide ((tabAt k).head = head) && decide ((tabAt k).name = bl s))) := rfl
      have HN2 : Hid (isR head (bl s) (tabAt k) = false → ∀ j < k + 1, isR head (bl s) (tabAt j) = false) := by
        show _ → _
        intro h j hj
        by_cases hjk : j < k
        · exact hn.out j hjk
        · obtain rfl : j = k := by omega
          exact h
      have hx8 : (S8 (tabAt k).name).toList = (tabAt k).name := Lib.toList_data _
      generalize isR head (bl s) (tabAt k) = ir at *
      generalize ch k = Ak at *
      generalize tabAt k = r at *
      rw [Nat.add_zero] at c0
      have hinf : (Tryz.prog.info? 102).map (·.size) = some (rwL r Ak).length := by show _ = some 8; kernel_rfl
      have hinf2 : (Tryz.prog.info? 102).map (·.size) = some (rwV r Ak).size := by show _ = some 8; kernel_rfl
      by_cases h1 : r.head = head
      · have t1 : (r.head == head) = true := by simpa using h1
        by_cases h2 : r.name = bl s
        · have t2 : ((S8 r.name).toList == s.toList) = true := by rw [hx8, hs8, h2]; simp
          have HE := hid (HY.out (by rw [HI.out]; simp [h1, h2]))
          clear h1 h2 HI HY HN2 hx8 hs8 HF HN
          go_wp2_with (first | refine wpList_load_mid rfl 102 (.tmp 33) rfl g (k * 8) rfl (rwL r Ak) _ hcell Tryz.underlying102 rfl hinf ?_ | refine wpList_store_whole rfl 102 (.tmp 4) (.tmp 34) rfl (rwV r Ak) rfl rfl hx1 hinf2 rfl (rwV_one _ _) ?_)
          intro wz hgz hgrz
          have hbz := hbw.trans ((Below.refl w.heap.size w1).grown hgrz hbw.size (by intro k hk; injection hk with hk; omega))
          have hchz : Cho wz r Ak := Sl.grown hcho hgrz (fun ad had h => hfk ad had (by injection h))
          obtain ⟨rfl⟩ := HE.out
          go_wp2_with fail
          exact ret_row2 (fn := Tryz.f60) (x := .bool true) (cs := rwV r Ak) rfl rfl rfl hgz Tryz.underlying102 rfl (by kernel_rfl) rfl ⟨Ak, rfl, hbz, hchz, hfk3⟩
        · have t2 : ((S8 r.name).toList == s.toList) = false := by rw [hx8, hs8]; simpa using h2
          have HE := hid (HN2.out (by rw [HI.out]; simp [h2]))
          clear h1 h2 HI HY HN2 hx8 hs8 HF HN
          go_wp2_with fail
          go_light
          exact ⟨⟨k + 1, by omega, by go_num, HE⟩, by simp [intOf]; omega⟩
      · have t1 : (r.head == head) = false := by simpa using h1
        have HE := hid (HN2.out (by rw [HI.out]; simp [h1]))
        clear h1 HI HY HN2 hx8 hs8 HF HN
        go_wp2_with fail
        go_light
        exact ⟨⟨k + 1, by omega, by go_num, HE⟩, by simp [intOf]; omega⟩
    · obtain rfl : k = 12 := by omega
      have HE := hid (HN.out hn.out)
      have hinf2 : (Tryz.prog.info? 102).map (·.size) = some (rwV row0 none).size := by show _ = some 8; kernel_rfl
      clear HF HN hn hT
      go_wp2_with (refine wpList_store_whole rfl 102 (.tmp 4) (.tmp 35) rfl (rwV row0 none) rfl rfl hx1 hinf2 rfl (rwV_one _ _) ?_)
      intro wz hgz hgrz
      have hbz := hbw.trans ((Below.refl w.heap.size w1).grown hgrz hbw.size (by intro k hk; injection hk with hk; omega))
      obtain ⟨rfl⟩ := HE.out
      go_wp2_with fail
      exact ret_row2 (fn := Tryz.f60) (x := .bool false) (cs := rwV row0 none) rfl rfl rfl hgz Tryz.underlying102 rfl (by kernel_rfl) rfl ⟨none, rfl, hbz, Cho.none _ _ rfl, fun ad h => by cases h⟩
theorem storeNewR {P : Program} {ops : Array Oper} {rest : List Oper} {op : Oper} {a : Act} {w : World} {Q : Exit → Act → World → Prop} (hgd : op.guard = none) (ty : TypeId) (x y : Operand) (ho : op.op = .store ty x y)
    {c : Array Value} (c' : Array Value) (hx : a.eval x = .pointer (some ⟨w.heap.size, 0, none⟩)) (hy : a.eval y = .agg c') (hi : (P.info? ty).map (·.size) = some c'.size) (hs : c.size = c'.size) (h1 : c'.all (·.oneCell') = true)
    (h : wpList P ops Q rest (a.put op.dst undef) (w.alloc (.cells c' ty))) : wpList P ops Q (op :: rest) a (w.alloc (.cells c ty)) :=
  wpList_plain hgd fun _ hK => by
    unfold Oper.wp execOp
    simp only [ho, hx, hy, Sem.run_bind, run_storeAt_new w ty c c' hi hs h1, Result.andThen_ok]
    exact hK _ _ h
set_option maxRecDepth 100000 in
set_option maxHeartbeats 3200000 in
theorem find_new (head : Int) (s : ByteArray) (w : World) : Calls Tryz.prog 55 #[.int .i64 head, .string s] w fun e w' => ∃ A, e = .returned (.tuple #[.agg (rwV (findR head (bl s)).1 A), .bool (findR head (bl s)).2]) ∧ Below w.heap.size w w' ∧ Cho w' (findR head (bl s)).1 A ∧ ∀ ad, A = some ad → w.heap.size ≤ ad.block := by
  have HF : Hid (∀ k < 12, (∀ j < k, isR head (bl s) (tabAt j) = false) → isR head (bl s) (tabAt k) = true → findR head (bl s) = (tabAt k, true)) := fun k hk h1 h2 => findR_yes head (bl s) k hk h1 h2
  have HN : Hid ((∀ j < 12, isR head (bl s) (tabAt j) = false) → findR head (bl s) = (row0, false)) := findR_no head (bl s)
  generalize findR head (bl s) = FR at *
  have hs8 : s.toList = bl s := Lib.toList_data s
  obtain ⟨hb0, hx0, hl0⟩ := box1 w (.cells #[.int .i64 0, .string ⟨#[]⟩, .int .i64 0, .int .i64 0, .int .i64 0, .slice none 0 0, .string ⟨#[]⟩, .int .i64 0] 93)
  go_enter Tryz.func55, Tryz.ntmps55
  go_upto_region 1 with fail
  generalize w.alloc (.cells #[.int .i64 0, .string ⟨#[]⟩, .int .i64 0, .int .i64 0, .int .i64 0, .slice none 0 0, .string ⟨#[]⟩, .int .i64 0] 93) = w0 at *
  go_wp2_with fail
  refine (table_any w0).mono ?_
  rintro e w1 ⟨g, ch, rfl, hb1, hT, hfr⟩
  have hfr2 : ∀ i ad, ch i = some ad → ad.block ≠ w.heap.size := fun i ad h => by have := hfr i ad h; omega
  have hfr3 : ∀ i ad, ch i = some ad → w.heap.size ≤ ad.block := fun i ad h => by have := hfr i ad h; omega
  clear hfr
  have hx1 := (hb1.block _ hl0).trans hx0
  have hbw := hb0.trans (hb1.mono hb0.size)
  have hl1 := Nat.lt_of_lt_of_le hl0 hb1.size
  clear hb0 hb1 hl0 hx0
  go_wp2_with fail
  go_loopw [10] (fun i wr => ∃ k : Nat, k ≤ 12 ∧ i = .int .i64 k ∧ Hid (∀ j < k, isR head (bl s) (tabAt j) = false) ∧ Below w1.heap.size w1 wr) (fun i _ => 12 - (intOf i).toNat)
  case atStart => exact ⟨0, Nat.zero_le _, rfl, hid (by simp), Below.refl _ _⟩
  case round =>
    obtain ⟨k, hk, rfl, hn, hbr⟩ := hrel
    replace hT := hT.below hbr
    replace hx1 := (hbr.block _ hl1).trans hx1
    replace hbw := hbw.trans (hbr.mono hbw.size)
    replace hl1 := Nat.lt_of_lt_of_le hl1 hbr.size
    by_cases hlt : k < 12
    · have hcell := hT.cell k hlt
      have HY := hid (HF.out k hlt hn.out)
      have hcho := hT.cho k
      have hfk := hfr2 k
      have hfk3 := hfr3 k
      have HI : Hid (isR head (bl s) (tabAt k) = (decide ((tabAt k).head = head) && decide ((tabAt k).name = bl s))) := rfl
      have HN2 : Hid (isR head (bl s) (tabAt k) = false → ∀ j < k + 1, isR head (bl s) (tabAt j) = false) := by
        show _ → _
        intro h j hj
        by_cases hjk : j < k
        · exact hn.out j hjk
        · obtain rfl : j = k := by omega
          exact h
      have hx8 : (S8 (tabAt k).name).toList = (tabAt k).name := Lib.toList_data _
      generalize isR head (bl s) (tabAt k) = ir at *
      generalize ch k = Ak at *
      generalize tabAt k = r at *
      have hinf : (Tryz.prog.info? 93).map (·.size) = some (rwL r Ak).length := by show _ = some 8; kernel_rfl
      have hinf2 : (Tryz.prog.info? 93).map (·.size) = some (rwV r Ak).size := by show _ = some 8; kernel_rfl
      have hba := (Below.refl wr.heap.size wr).alloc (Nat.le_refl _) (.cells (rwV r Ak) 93)
      have hga := heap_alloc_new wr (.cells (rwV r Ak) 93)
      have c0 := blkCell hga 0
      have c1 := blkCell hga 1
      rw [Array.getElem?_eq_getElem (by show _ < 8; omega)] at c0 c1
      simp only [rwL, List.getElem_toArray, List.getElem_cons_zero, List.getElem_cons_succ] at c0 c1
      go_upto_region 4 with (first | refine wpList_load_mid rfl 93 (.tmp 12) rfl g (k * 8) rfl (rwL r Ak) _ hcell Tryz.underlying93 rfl hinf ?_ | refine storeNewR rfl 93 (.tmp 7) (.tmp 13) rfl (rwV r Ak) rfl rfl hinf2 rfl (rwV_one _ _) ?_)
      clear hcell
      generalize wr.alloc (.cells (rwV r Ak) 93) = wa at *
      replace hx1 := (hba.block _ hl1).trans hx1
      replace hcho := hcho.below hba
      have hbwa := hbw.trans (hba.mono hbw.size)
      have hbra := hbr.trans (hba.mono hbr.size)
      by_cases h1 : r.head = head
      · have t1 : (r.head == head) = true := by simpa using h1
        by_cases h2 : r.name = bl s
        · have t2 : ((S8 r.name).toList == s.toList) = true := by rw [hx8, hs8, h2]; simp
          have HE := hid (HY.out (by rw [HI.out]; simp [h1, h2]))
          clear h1 h2 HI HY HN2 hx8 hs8 HF HN
          go_wp2_with (first | refine wpList_load_row rfl 93 (.tmp 7) rfl wr.heap.size rfl 93 (rwV r Ak) (0, 0) _ hga Tryz.underlying93 rfl hinf2 ?_ | refine wpList_store_whole rfl 93 (.tmp 4) (.tmp 24) rfl (rwV r Ak) rfl rfl hx1 hinf2 rfl (rwV_one _ _) ?_)
          intro wz hgz hgrz
          have hbz := hbwa.trans ((Below.refl w.heap.size wa).grown hgrz hbwa.size (by intro k hk; injection hk with hk; omega))
          have hchz : Cho wz r Ak := Sl.grown hcho hgrz (fun ad had h => hfk ad had (by injection h))
          obtain ⟨rfl⟩ := HE.out
          go_wp2_with fail
          exact ret_row2 (fn := Tryz.f55) (x := .bool true) (cs := rwV r Ak) rfl rfl rfl hgz Tryz.underlying93 rfl (by kernel_rfl) rfl ⟨Ak, rfl, hbz, hchz, hfk3⟩
        · have t2 : ((S8 r.name).toList == s.toList) = false := by rw [hx8, hs8]; simpa using h2
          have HE := hid (HN2.out (by rw [HI.out]; simp [h2]))
          clear h1 h2 HI HY HN2 hx8 hs8 HF HN
          go_wp2_with fail
          go_light
          exact ⟨⟨k + 1, by omega, by go_num, HE, hbra⟩, by simp [intOf]; omega⟩
      · have t1 : (r.head == head) = false := by simpa using h1
        have HE := hid (HN2.out (by rw [HI.out]; simp [h1]))
        clear h1 HI HY HN2 hx8 hs8 HF HN
        go_wp2_with fail
        go_light
        exact ⟨⟨k + 1, by omega, by go_num, HE, hbra⟩, by simp [intOf]; omega⟩
    · obtain rfl : k = 12 := by omega
      have HE := hid (HN.out hn.out)
      have hinf2 : (Tryz.prog.info? 93).map (·.size) = some (rwV row0 none).size := by show _ = some 8; kernel_rfl
      clear HF HN hn hT
      go_wp2_with (refine wpList_store_whole rfl 93 (.tmp 4) (.tmp 26) rfl (rwV row0 none) rfl rfl hx1 hinf2 rfl (rwV_one _ _) ?_)
      intro wz hgz hgrz
      have hbz := hbw.trans ((Below.refl w.heap.size wr).grown hgrz hbw.size (by intro k hk; injection hk with hk; omega))
      obtain ⟨rfl⟩ := HE.out
      go_wp2_with fail
      exact ret_row2 (fn := Tryz.f55) (x := .bool false) (cs := rwV row0 none) rfl rfl rfl hgz Tryz.underlying93 rfl (by kernel_rfl) rfl ⟨none, rfl, hbz, Cho.none _ _ rfl, fun ad h => by cases h⟩
theorem refFind_any (head : Int) (s : ByteArray) (w : World) : Calls Tryz.prog 60 #[.int .i64 head, .string s] w fun e w' => ∃ A, e = .returned (.tuple #[.agg (rwV (findR head (bl s)).1 A), .bool (findR head (bl s)).2]) ∧ Below w.heap.size w w' ∧ Cho w' (findR head (bl s)).1 A :=
  (refFind_new head s w).mono fun e w' ⟨A, h1, h2, h3, _⟩ => ⟨A, h1, h2, h3⟩
theorem find_any (head : Int) (s : ByteArray) (w : World) : Calls Tryz.prog 55 #[.int .i64 head, .string s] w fun e w' => ∃ A, e = .returned (.tuple #[.agg (rwV (findR head (bl s)).1 A), .bool (findR head (bl s)).2]) ∧ Below w.heap.size w w' ∧ Cho w' (findR head (bl s)).1 A :=
  (find_new head s w).mono fun e w' ⟨A, h1, h2, h3, _⟩ => ⟨A, h1, h2, h3⟩
end Go.Proofs.YtecfkhgocjbocaaGreatDoor
