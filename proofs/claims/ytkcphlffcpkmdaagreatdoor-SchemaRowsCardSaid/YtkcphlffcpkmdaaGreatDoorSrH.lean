/-
  The walk of SchemaRows.
-/
import Derived.Test.YtkcphlffcpkmdaaGreatDoorSrG
namespace Go.Proofs.YtkcphlffcpkmdaaGreatDoor
set_option linter.unusedVariables false
set_option linter.unusedSimpArgs false
open Go Go.RowKit

theorem cut_minR (s : ByteArray) (k : Nat) : ∃ m : Nat, m ≤ k ∧ m ≤ s.size ∧ min (s.size : Int) (k : Int) = (m : Int) := ⟨min s.size k, by omega, by omega, by omega⟩
theorem ext_sizeR (s : ByteArray) (m : Nat) (h : m ≤ s.size) : (s.extract 0 m).size = m := by
  rw [← bl_len, bl_ext, List.length_take, List.drop_zero, bl_len]
  omega
theorem range_below {w w' : World} {b o : Nat} {cs : List Value} (h : w.rangeAt b o cs) (hlt : b < w.heap.size) (hb : Below w.heap.size w w') : w'.rangeAt b o cs := fun j v hv => (hb.cell (p := ⟨b, o + j, none⟩) hlt).trans (h j v hv)
theorem runs_load_midR {P : Program} {o : Oper} {a : Act} {w : World} {R : Value → World → Prop} (ty : TypeId) (x : Operand) (ho : o.op = .load ty x) (b off : Nat) (hx : a.eval x = .pointer (some ⟨b, off, none⟩)) (cs : List Value) (d : TypeDesc)
    (hc : w.rangeAt b off cs) (hu : P.underlying ty = some d) (hd : d.isRow = true) (hi : (P.info? ty).map (·.size) = some cs.length) (h : R (.agg cs.toArray) w) : runs P o a w R := by
  unfold runs execOp
  simp only [ho, hx, Sem.run_bind, run_loadAt_mid w b off ty cs d hc hu hd hi, Result.andThen_ok, Sem.run_pure]
  exact h
theorem wpList_load_rowG {P : Program} {ops : Array Oper} {rest : List Oper} {o : Oper} {a : Act} {w : World} {Q : Exit → Act → World → Prop} (hw : Region.wanted o (yielded ops a.tmps) = true) (ty : TypeId) (x : Operand) (ho : o.op = .load ty x)
    (g : Nat) (hx : a.eval x = .pointer (some ⟨g, 0, none⟩)) (t : TypeId) (cs : Array Value) (fr : Nat × Nat) (d : TypeDesc) (hg : w.heap[g]? = some (.cells cs t fr))
    (hu : P.underlying ty = some d) (hd : (match d with | .struct _ | .array _ _ => true | _ => false) = true) (hi : (P.info? ty).map (·.size) = some cs.size)
    (h : wpList P ops Q rest (a.put o.dst (.agg cs)) w) : wpList P ops Q (o :: rest) a w :=
  wpList_step fun K hK => by
    simp only [hw, if_true]
    exact wp_load_row ty x ho g hx t cs fr d hg hu hd hi (hK _ _ h)
set_option maxRecDepth 100000 in
set_option maxHeartbeats 3200000 in
theorem schemaRows_walk (head : Int) (a0 b0 : ByteArray) (w : World) (ha0 : a0.size ≤ 9223372036854775807) (hb0 : b0.size ≤ 9223372036854775807) (hen0 : Env w) : Calls Tryz.prog 3 #[.int .i64 head, .string a0, .string b0] w fun e w' => e = .returned (.bool true) ∧ Below w.heap.size w w' := by
  obtain ⟨m, hm1, hm2, hm⟩ := cut_minR a0 60
  have hsz := ext_sizeR a0 m hm2
  obtain ⟨n, hn1, hn2, hn⟩ := cut_minR b0 60
  have hsz2 := ext_sizeR b0 n hn2
  rw [show ((60 : Nat) : Int) = 60 from rfl] at hm hn
  go_enter Tryz.func3, Tryz.ntmps3
  go_upto_region 2 with fail
  refine wp_region_loud (fun _ => False) [(3, plainL [] (.int .i64 m)), (8, plainL [] (.int .i64 n))] (fun _ => Fact.none) (by kernel_rfl) (by kernel_rfl) (.cons (plainL_ok _ _) (.cons (plainL_ok _ _) .nil)) good_nothing sat_none (WX.out ?_)
  repeat (first | (refine wx_quietU (by rfl) (by rfl) (by rfl) (fun K hK => ?_); go_big_quiet_op; refine hK _ ?_; clear hK K) | (refine wx_quietG (by rfl) (by rfl) (by rfl) (by rfl) (by rfl) (fun K hK => ?_); go_big_quiet_op; refine hK _ ?_; clear hK K) | (refine wx_skipG (by rfl) (by rfl) (by rfl) (fun K hK => ?_); go_simp; refine hK _ ?_; clear hK K) | (refine wx_skipN (by rfl) (by rfl) (by rfl) (fun K hK => ?_); go_simp; refine hK _ ?_; clear hK K))
  refine wx_loudU (us := []) (by rfl) (by rfl) (fun S wS hC hS hU => ?_) (fun v hv K hK => ?_)
  · exact runs_value (by go_simp <;> rfl) ⟨by rw [← hm]; rfl, Kept.refl _ _, trivial⟩
  obtain rfl := hv; (go_simp; refine hK _ ?_; clear hK K)
  repeat (first | (refine wx_quietU (by rfl) (by rfl) (by rfl) (fun K hK => ?_); go_big_quiet_op; refine hK _ ?_; clear hK K) | (refine wx_quietG (by rfl) (by rfl) (by rfl) (by rfl) (by rfl) (fun K hK => ?_); go_big_quiet_op; refine hK _ ?_; clear hK K) | (refine wx_skipG (by rfl) (by rfl) (by rfl) (fun K hK => ?_); go_simp; refine hK _ ?_; clear hK K) | (refine wx_skipN (by rfl) (by rfl) (by rfl) (fun K hK => ?_); go_simp; refine hK _ ?_; clear hK K))
  refine wx_loudU (us := []) (by rfl) (by rfl) (fun S wS hC hS hU => ?_) (fun v hv K hK => ?_)
  · exact runs_value (by go_simp <;> rfl) ⟨by rw [← hn]; rfl, Kept.refl _ _, trivial⟩
  obtain rfl := hv; (go_simp; refine hK _ ?_; clear hK K)
  repeat (first | (refine wx_quietU (by rfl) (by rfl) (by rfl) (fun K hK => ?_); go_big_quiet_op; refine hK _ ?_; clear hK K) | (refine wx_quietG (by rfl) (by rfl) (by rfl) (by rfl) (by rfl) (fun K hK => ?_); go_big_quiet_op; refine hK _ ?_; clear hK K) | (refine wx_skipG (by rfl) (by rfl) (by rfl) (fun K hK => ?_); go_simp; refine hK _ ?_; clear hK K) | (refine wx_skipN (by rfl) (by rfl) (by rfl) (fun K hK => ?_); go_simp; refine hK _ ?_; clear hK K))
  refine wx_nil fun w1 hsat => ?_
  have hb1 := sat_below hsat
  clear hsat
  have hen1 := hen0.below hb1
  have hs : (a0.extract 0 m).size ≤ 100000 := by omega
  have hvs : (b0.extract 0 n).size ≤ 100000 := by omega
  generalize a0.extract 0 m = s at *
  generalize b0.extract 0 n = v at *
  clear hm hn hsz hsz2 hm2 hn2 ha0 hb0
  go_wp2_with fail
  refine (table_any w1).mono ?_
  rintro e w2 ⟨g, ch, rfl, hb2, hT, -⟩
  have hen2 := hen1.below hb2
  have hbw2 := hb1.trans (hb2.mono hb1.size)
  clear hb1 hb2 hen1 hen0
  go_wp2_with fail
  refine (refTable_any w2).mono ?_
  rintro e w3 ⟨g2, ch2, rfl, hb3, hT2, -⟩
  have hen3 := hen2.below hb3
  have hbw3 := hbw2.trans (hb3.mono hbw2.size)
  replace hT := hT.below hb3
  clear hbw2 hb3 hen2
  go_wp2_with fail
  refine (reads_any w3 hen3).mono ?_
  rintro e w4 ⟨rfl, hb4⟩
  have hen4 := hen3.below hb4
  have hbw4 := hbw3.trans (hb4.mono hbw3.size)
  replace hT := hT.below hb4
  replace hT2 := hT2.below hb4
  clear hbw3 hb4 hen3
  go_wp2_with fail
  go_loopw [9] (fun i wr => ∃ k : Nat, k ≤ 12 ∧ i = .int .i64 k ∧ Below w4.heap.size w4 wr) (fun i _ => 12 - (intOf i).toNat)
  case atStart => exact ⟨0, Nat.zero_le _, rfl, Below.refl _ _⟩
  case round =>
    obtain ⟨k, hk, rfl, hbr⟩ := hrel
    have hen := hen4.below hbr
    replace hT := hT.below hbr
    replace hT2 := hT2.below hbr
    have hbw := hbw4.trans (hbr.mono hbw4.size)
    clear hen4
    by_cases hlt : k < 12
    · have ca := hT.cell k hlt
      have cb := hT2.cell k hlt
      have ka := hT.cho k
      have kb := hT2.cho k
      have hkd := tab_kind k
      have hcn := tab_cho k
      have hga := hT.lt
      have hgb := hT2.lt
      clear hT hT2
      generalize ch k = A at *
      generalize ch2 k = B at *
      generalize tabAt k = r at *
      have hia : (Tryz.prog.info? 30).map (·.size) = some (rwL r A).length := by show _ = some 8; kernel_rfl
      have hib : (Tryz.prog.info? 31).map (·.size) = some (rwL r B).length := by show _ = some 8; kernel_rfl
      obtain ⟨V, hV⟩ : ∃ V, rightR r (bl v) = V := ⟨_, rfl⟩
      have HA1 : Hid (∀ w', Below wr.heap.size wr w' → Calls Tryz.prog 8 #[.agg (rwV r A), .string v] w' fun e w2 => e = .returned (.bool V) ∧ Below w'.heap.size w' w2) := fun w' h => by rw [← hV]; exact right_any r A v w' hvs (hen.below h) (ka.below h) (by omega) hkd
      have HB1 : Hid (∀ w', Below wr.heap.size wr w' → Calls Tryz.prog 9 #[.agg (rwV r B), .string v] w' fun e w2 => e = .returned (.bool V) ∧ Below w'.heap.size w' w2) := fun w' h => by rw [← hV]; exact refRight_any r B v w' hvs (hen.below h) (kb.below h) (by omega) hkd
      have HL1 : Hid (∀ w', Below wr.heap.size wr w' → Calls Tryz.prog 7 #[.agg (rwV r A), .agg (rwV r B)] w' fun e w2 => e = .returned (.bool true) ∧ Below w'.heap.size w' w2) := fun w' h => alike_any r A B w' (ka.below h) (kb.below h) (by omega)
      clear hV hkd hcn ka kb hen
      go_wp2_with fail
      refine wp_region_loud (fun _ => False) [(3, plainL [] (.agg (rwV r A))), (7, plainL [] (.agg (rwV r B))), (8, plainL [] (.bool true)), (14, plainL [] (.agg (rwV r A))), (16, plainL [] (.bool V)), (20, plainL [] (.agg (rwV r B))), (22, plainL [] (.bool V))] (fun _ => Fact.none) (by kernel_rfl) (by kernel_rfl)
        (.cons (plainL_ok _ _) (.cons (plainL_ok _ _) (.cons (plainL_ok _ _) (.cons (plainL_ok _ _) (.cons (plainL_ok _ _) (.cons (plainL_ok _ _) (.cons (plainL_ok _ _) .nil))))))) good_nothing sat_none (WX.out ?_)
      repeat (first | (refine wx_quietU (by rfl) (by rfl) (by rfl) (fun K hK => ?_); go_big_quiet_op; refine hK _ ?_; clear hK K) | (refine wx_quietG (by rfl) (by rfl) (by rfl) (by rfl) (by rfl) (fun K hK => ?_); go_big_quiet_op; refine hK _ ?_; clear hK K) | (refine wx_skipG (by rfl) (by rfl) (by rfl) (fun K hK => ?_); go_simp; refine hK _ ?_; clear hK K) | (refine wx_skipN (by rfl) (by rfl) (by rfl) (fun K hK => ?_); go_simp; refine hK _ ?_; clear hK K))
      refine wx_loudU (us := []) (by rfl) (by rfl) (fun S wS hC hS hU => ?_) (fun v hv K hK => ?_)
      · exact runs_load_midR 30 (.tmp 43) rfl g (k * 8) rfl (rwL r A) _ (range_below ca hga hC.below) Tryz.underlying30 rfl hia ⟨rfl, Kept.refl _ _, trivial⟩
      obtain rfl := hv; (go_simp; refine hK _ ?_; clear hK K)
      repeat (first | (refine wx_quietU (by rfl) (by rfl) (by rfl) (fun K hK => ?_); go_big_quiet_op; refine hK _ ?_; clear hK K) | (refine wx_quietG (by rfl) (by rfl) (by rfl) (by rfl) (by rfl) (fun K hK => ?_); go_big_quiet_op; refine hK _ ?_; clear hK K) | (refine wx_skipG (by rfl) (by rfl) (by rfl) (fun K hK => ?_); go_simp; refine hK _ ?_; clear hK K) | (refine wx_skipN (by rfl) (by rfl) (by rfl) (fun K hK => ?_); go_simp; refine hK _ ?_; clear hK K))
      refine wx_loudU (us := []) (by rfl) (by rfl) (fun S wS hC hS hU => ?_) (fun v hv K hK => ?_)
      · exact runs_load_midR 31 (.tmp 47) rfl g2 (k * 8) rfl (rwL r B) _ (range_below cb hgb hC.below) Tryz.underlying31 rfl hib ⟨rfl, Kept.refl _ _, trivial⟩
      obtain rfl := hv; (go_simp; refine hK _ ?_; clear hK K)
      repeat (first | (refine wx_quietU (by rfl) (by rfl) (by rfl) (fun K hK => ?_); go_big_quiet_op; refine hK _ ?_; clear hK K) | (refine wx_quietG (by rfl) (by rfl) (by rfl) (by rfl) (by rfl) (fun K hK => ?_); go_big_quiet_op; refine hK _ ?_; clear hK K) | (refine wx_skipG (by rfl) (by rfl) (by rfl) (fun K hK => ?_); go_simp; refine hK _ ?_; clear hK K) | (refine wx_skipN (by rfl) (by rfl) (by rfl) (fun K hK => ?_); go_simp; refine hK _ ?_; clear hK K))
      refine wx_loudU (us := []) (by rfl) (by rfl) (fun S wS hC hS hU => runs_enter (f := 7) (by go_simp <;> rfl) ?_) (fun v hv K hK => ?_)
      · refine (HL1.out wS hC.below).mono ?_
        rintro e w' ⟨rfl, hb⟩
        exact ⟨_, rfl, rfl, Kept.of_below hb, trivial⟩
      obtain rfl := hv; (go_simp; refine hK _ ?_; clear hK K)
      repeat (first | (refine wx_quietU (by rfl) (by rfl) (by rfl) (fun K hK => ?_); go_big_quiet_op; refine hK _ ?_; clear hK K) | (refine wx_quietG (by rfl) (by rfl) (by rfl) (by rfl) (by rfl) (fun K hK => ?_); go_big_quiet_op; refine hK _ ?_; clear hK K) | (refine wx_skipG (by rfl) (by rfl) (by rfl) (fun K hK => ?_); go_simp; refine hK _ ?_; clear hK K) | (refine wx_skipN (by rfl) (by rfl) (by rfl) (fun K hK => ?_); go_simp; refine hK _ ?_; clear hK K))
      refine wx_loudG (us := []) (by rfl) (by rfl) (by rfl) (by rfl) (fun S wS hC hS hU => ?_) (fun v hv K hK => ?_)
      · exact runs_load_midR 30 (.tmp 54) rfl g (k * 8) rfl (rwL r A) _ (range_below ca hga hC.below) Tryz.underlying30 rfl hia ⟨rfl, Kept.refl _ _, trivial⟩
      obtain rfl := hv; (go_simp; refine hK _ ?_; clear hK K)
      repeat (first | (refine wx_quietU (by rfl) (by rfl) (by rfl) (fun K hK => ?_); go_big_quiet_op; refine hK _ ?_; clear hK K) | (refine wx_quietG (by rfl) (by rfl) (by rfl) (by rfl) (by rfl) (fun K hK => ?_); go_big_quiet_op; refine hK _ ?_; clear hK K) | (refine wx_skipG (by rfl) (by rfl) (by rfl) (fun K hK => ?_); go_simp; refine hK _ ?_; clear hK K) | (refine wx_skipN (by rfl) (by rfl) (by rfl) (fun K hK => ?_); go_simp; refine hK _ ?_; clear hK K))
      refine wx_loudG (us := []) (by rfl) (by rfl) (by rfl) (by rfl) (fun S wS hC hS hU => runs_enter (f := 8) (by go_simp <;> rfl) ?_) (fun v hv K hK => ?_)
      · refine (HA1.out wS hC.below).mono ?_
        rintro e w' ⟨rfl, hb⟩
        exact ⟨_, rfl, rfl, Kept.of_below hb, trivial⟩
      obtain rfl := hv; (go_simp; refine hK _ ?_; clear hK K)
      repeat (first | (refine wx_quietU (by rfl) (by rfl) (by rfl) (fun K hK => ?_); go_big_quiet_op; refine hK _ ?_; clear hK K) | (refine wx_quietG (by rfl) (by rfl) (by rfl) (by rfl) (by rfl) (fun K hK => ?_); go_big_quiet_op; refine hK _ ?_; clear hK K) | (refine wx_skipG (by rfl) (by rfl) (by rfl) (fun K hK => ?_); go_simp; refine hK _ ?_; clear hK K) | (refine wx_skipN (by rfl) (by rfl) (by rfl) (fun K hK => ?_); go_simp; refine hK _ ?_; clear hK K))
      refine wx_loudG (us := []) (by rfl) (by rfl) (by rfl) (by rfl) (fun S wS hC hS hU => ?_) (fun v hv K hK => ?_)
      · exact runs_load_midR 31 (.tmp 60) rfl g2 (k * 8) rfl (rwL r B) _ (range_below cb hgb hC.below) Tryz.underlying31 rfl hib ⟨rfl, Kept.refl _ _, trivial⟩
      obtain rfl := hv; (go_simp; refine hK _ ?_; clear hK K)
      repeat (first | (refine wx_quietU (by rfl) (by rfl) (by rfl) (fun K hK => ?_); go_big_quiet_op; refine hK _ ?_; clear hK K) | (refine wx_quietG (by rfl) (by rfl) (by rfl) (by rfl) (by rfl) (fun K hK => ?_); go_big_quiet_op; refine hK _ ?_; clear hK K) | (refine wx_skipG (by rfl) (by rfl) (by rfl) (fun K hK => ?_); go_simp; refine hK _ ?_; clear hK K) | (refine wx_skipN (by rfl) (by rfl) (by rfl) (fun K hK => ?_); go_simp; refine hK _ ?_; clear hK K))
      refine wx_loudG (us := []) (by rfl) (by rfl) (by rfl) (by rfl) (fun S wS hC hS hU => runs_enter (f := 9) (by go_simp <;> rfl) ?_) (fun v hv K hK => ?_)
      · refine (HB1.out wS hC.below).mono ?_
        rintro e w' ⟨rfl, hb⟩
        exact ⟨_, rfl, rfl, Kept.of_below hb, trivial⟩
      obtain rfl := hv; (go_simp; refine hK _ ?_; clear hK K)
      repeat (first | (refine wx_quietU (by rfl) (by rfl) (by rfl) (fun K hK => ?_); go_big_quiet_op; refine hK _ ?_; clear hK K) | (refine wx_quietG (by rfl) (by rfl) (by rfl) (by rfl) (by rfl) (fun K hK => ?_); go_big_quiet_op; refine hK _ ?_; clear hK K) | (refine wx_skipG (by rfl) (by rfl) (by rfl) (fun K hK => ?_); go_simp; refine hK _ ?_; clear hK K) | (refine wx_skipN (by rfl) (by rfl) (by rfl) (fun K hK => ?_); go_simp; refine hK _ ?_; clear hK K))
      refine wx_nil fun w5 hsat => ?_
      have hb5 := sat_below hsat
      clear hsat HA1 HB1 HL1 ca cb
      go_wp2_with fail
      go_light
      exact ⟨⟨k + 1, by omega, by go_num, hbr.trans (hb5.mono hbr.size)⟩, by simp [intOf]; omega⟩
    · obtain rfl : k = 12 := by omega
      clear hT hT2 hbr
      have HN1 : Hid (∀ w', Below wr.heap.size wr w' → Calls Tryz.prog 12 #[.int .i64 head, .string s] w' fun e w2 => e = .returned (.bool (namedR head (bl s))) ∧ Below w'.heap.size w' w2) := fun w' h => named_any head s w' hs (hen.below h)
      have HN2 : Hid (∀ w', Calls Tryz.prog 13 #[.int .i64 head, .string s] w' fun e w2 => e = .returned (.bool (namedR head (bl s))) ∧ Below w'.heap.size w' w2) := fun w' => refNamed_any head s w' hs
      have HF1 : Hid (∀ w', Calls Tryz.prog 10 #[.int .i64 head, .string s] w' fun e w'' => ∃ A, e = .returned (.tuple #[.agg (rwV (findR head (bl s)).1 A), .bool (findR head (bl s)).2]) ∧ Below w'.heap.size w' w'' ∧ Cho w'' (findR head (bl s)).1 A) := find_any head s
      have HF2 : Hid (∀ w', Calls Tryz.prog 11 #[.int .i64 head, .string s] w' fun e w'' => ∃ A, e = .returned (.tuple #[.agg (rwV (findR head (bl s)).1 A), .bool (findR head (bl s)).2]) ∧ Below w'.heap.size w' w'' ∧ Cho w'' (findR head (bl s)).1 A) := refFind_any head s
      have hcn := findR_cho head (bl s)
      generalize findR head (bl s) = FR at *
      obtain ⟨r, ok⟩ := FR
      simp only at hcn HF1 HF2
      generalize namedR head (bl s) = nr at *
      go_wp2_with fail
      refine (HF1.out wr).mono ?_
      rintro e w5 ⟨A, rfl, hb5, hcA⟩
      have hiA : (Tryz.prog.info? 30).map (·.size) = some (rwV r A).size := by show _ = some 8; kernel_rfl
      have hbw5 := hbw.trans (hb5.mono hbw.size)
      have hbr5 := hb5
      clear hb5 hbw
      have hba := (Below.refl w5.heap.size w5).alloc (Nat.le_refl _) (.cells (rwV r A) 30)
      have hga := heap_alloc_new w5 (.cells (rwV r A) 30)
      have hla : w5.heap.size < (w5.alloc (.cells (rwV r A) 30)).heap.size := by simp
      go_upto_region 12 with (refine storeNewR rfl 30 (.tmp 10) (.tmp 70) rfl (rwV r A) rfl rfl hiA rfl (rwV_one _ _) ?_)
      generalize w5.alloc (.cells (rwV r A) 30) = w6 at *
      replace hcA := hcA.below hba
      have hbw6 := hbw5.trans (hba.mono hbw5.size)
      have hbr6 := hbr5.trans (hba.mono hbr5.size)
      clear hba hbw5 hbr5
      go_wp2_with fail
      refine (HF2.out w6).mono ?_
      rintro e w7 ⟨B, rfl, hb7, hcB⟩
      have hiB : (Tryz.prog.info? 31).map (·.size) = some (rwV r B).size := by show _ = some 8; kernel_rfl
      have hbw7 := hbw6.trans (hb7.mono hbw6.size)
      have hbr7 := hbr6.trans (hb7.mono hbr6.size)
      replace hcA := hcA.below hb7
      replace hga := (hb7.block _ hla).trans hga
      replace hla := Nat.lt_of_lt_of_le hla hb7.size
      clear hb7 hbw6 hbr6
      have hba := (Below.refl w7.heap.size w7).alloc (Nat.le_refl _) (.cells (rwV r B) 31)
      have hgb := heap_alloc_new w7 (.cells (rwV r B) 31)
      go_upto_region 13 with (refine storeNewR rfl 31 (.tmp 12) (.tmp 76) rfl (rwV r B) rfl rfl hiB rfl (rwV_one _ _) ?_)
      generalize w7.alloc (.cells (rwV r B) 31) = w8 at *
      replace hcA := hcA.below hba
      replace hcB := hcB.below hba
      replace hga := (hba.block _ hla).trans hga
      have hbw8 := hbw7.trans (hba.mono hbw7.size)
      have hbr8 := hbr7.trans (hba.mono hbr7.size)
      clear hba hbw7 hbr7 hla HF1 HF2
      go_wp2_with (first | refine wpList_load_rowG (by rfl) 30 (.tmp 10) rfl w5.heap.size rfl 30 (rwV r A) (0, 0) _ hga Tryz.underlying30 rfl hiA ?_ | refine wpList_load_rowG (by rfl) 31 (.tmp 12) rfl w7.heap.size rfl 31 (rwV r B) (0, 0) _ hgb Tryz.underlying31 rfl hiB ?_)
      refine (alike_any r A B w8 hcA hcB (by omega)).mono ?_
      rintro e w9 ⟨rfl, hb9⟩
      have hbw9 := hbw8.trans (hb9.mono hbw8.size)
      have hbr9 := hbr8.trans (hb9.mono hbr8.size)
      clear hcA hcB hga hgb hb9 hbw8 hbr8 hiA hiB hcn
      go_wp2_with fail
      refine (HN1.out w9 hbr9).mono ?_
      rintro e wA ⟨rfl, hbA⟩
      have hbwA := hbw9.trans (hbA.mono hbw9.size)
      clear hbA hbw9 hbr9
      go_wp2_with fail
      refine (HN2.out wA).mono ?_
      rintro e wB ⟨rfl, hbB⟩
      have hbwB := hbwA.trans (hbB.mono hbwA.size)
      clear hbB hbwA
      go_wp2_with fail
      go_ret
      exact ⟨rfl, hbwB⟩
end Go.Proofs.YtkcphlffcpkmdaaGreatDoor
