/-
  Contract of layer 5's reference: Delete.
  Contract of layer 5's reference: Value.
  Layer 5 (plain): the reference's text of a configuration is the program's.
  Contracts: the reference's Same of texts (layer 3), its Names (layer 5).
  Contract of layer 5's reference: Text.
  An argument that is a list of ints, as the frame of a row hands it over (for layer 5).
  The walk of ConfSets.
-/
import Derived.Test.YtecfkhgocjbocaaGreatDoorCzC
import Derived.Deep.Slices
import Derived.ChangeSlices
import Derived.Deep.RegionWith
namespace Go.Proofs.YtecfkhgocjbocaaGreatDoor
set_option linter.unusedVariables false
set_option linter.unusedSimpArgs false
open Go Go.RowKit

namespace CF
set_option maxRecDepth 100000 in
set_option maxHeartbeats 800000 in
theorem refDelete_any (C : List Ln) (h : Int) (nm lf : List UInt8) (A : Option Addr) (n c : Nat) (w : World) (hsl : Sl w 4 (.slice A n c) (LNS C)) (hC : ∀ l ∈ C, LnOk l) (hen : Env w) :
    Calls Tryz.prog 25 #[.slice A n c, .int .i64 h, .string (S8 nm), .string (S8 lf)] w fun e w' => ConfPost (delC C h nm lf) (delE C h nm lf) e w' ∧ Below w.heap.size w w' := by
  have hl1 := (sl_lns hsl).1
  have HRC := hid (refRight_all C A n c w hsl hC hen)
  have HSL := hid hsl
  have HE0 : Hid (RightC C = false → ConfPost (delC C h nm lf) (delE C h nm lf) = ConfPost [] 1) := fun hr => by
    have : delE C h nm lf = 1 := by unfold delE; rw [hr]; rfl
    unfold delC; rw [this]; rfl
  have HE1 : Hid (RightC C = true → (delL C h nm lf).length = n → ConfPost (delC C h nm lf) (delE C h nm lf) = ConfPost [] 6) := fun hr hl => by
    have : delE C h nm lf = 6 := by unfold delE; rw [hr, if_pos rfl, if_pos (by omega)]
    unfold delC; rw [this]; rfl
  have HE2 : Hid (RightC C = true → ¬ (delL C h nm lf).length = n → ConfPost (delC C h nm lf) (delE C h nm lf) = ConfPost (delL C h nm lf) 0) := fun hr hl => by
    have : delE C h nm lf = 0 := by unfold delE; rw [hr, if_pos rfl, if_neg (by omega)]
    unfold delC; rw [this]; rfl
  have HN : Hid (RightC C = true → n ≤ 64) := fun hr => by have := ((RightC_iff C).1 hr).2.2; omega
  have HT : Hid (∀ k < n, delL (C.take (k + 1)) h nm lf = delL (C.take k) h nm lf ++ (if hits h nm lf (lnAt C k) = true then [] else [lnAt C k])) := fun k hk => delL_take C h nm lf k (by omega)
  have HDn : Hid (delL (C.take n) h nm lf = delL C h nm lf) := by show _ = _; rw [List.take_of_length_le (by omega)]
  have HDL : Hid (∀ k ≤ n, (delL (C.take k) h nm lf).length ≤ n) := fun k hk => by
    have q1 : (delL (C.take k) h nm lf).length ≤ (C.take k).length := List.length_filter_le _ _
    rw [List.length_take] at q1
    omega
  clear hsl hC hen hl1
  go_enter Tryz.func25, Tryz.ntmps25
  go_wp2_with fail
  refine HRC.out.mono ?_
  rintro e w1 ⟨rfl, hb1⟩
  clear HRC
  cases b1 : RightC C with
  | false =>
    have HP := hid (HE0.out b1)
    clear HE0 HE1 HE2 HN b1 HT HDn HDL
    go_wp2_with fail
    go_ret2
    exact ⟨by rw [HP.out]; exact conf_nil _ _, hb1⟩
  | true =>
    have hn64 := HN.out b1
    have HP1 := hid (HE1.out b1)
    have HP2 := hid (HE2.out b1)
    clear HE0 HE1 HE2 HN b1
    go_wp2_with fail
    go_loopw [10, 11] (fun v i wr => ∃ (k : Nat) (A1 : Option Addr) (c1 : Nat), k ≤ n ∧ i = .int .i64 k ∧ v = .slice A1 (delL (C.take k) h nm lf).length c1 ∧ wr.ownsRow w.heap.size 48 4 (.slice A1 (delL (C.take k) h nm lf).length c1) (delL (C.take k) h nm lf).length (LNS (delL (C.take k) h nm lf)) ∧ Below w.heap.size w wr) (fun _ i _ => n - (intOf i).toNat)
    case atStart => exact ⟨0, none, 0, Nat.zero_le _, rfl, rfl, own_nilE _ _ _ _, hb1⟩
    case round =>
      clear hb1
      obtain ⟨k, A1, c1, hk, rfl, rfl, ho, hbr⟩ := hrel
      by_cases hlt : k < n
      · obtain ⟨b, off, rfl, hbl, hcl⟩ := sl_ln (HSL.out.below hbr) hlt
        have HT1 := hid (HT.out k hlt)
        have hh := hits_and h nm lf (lnAt C k)
        have t1 := tl_eq (lnAt C k).name nm
        have t2 := tl_emp lf
        have t3 := tl_eq (lnAt C k).leaf lf
        clear HT HDn HP1 HP2
        generalize lnAt C k = l at *
        have hx0 : wr.cell? ⟨b, off + k * 4, none⟩ = some (.int .i64 l.head) := hcl 0 _ rfl
        have hx1 : wr.cell? ⟨b, off + k * 4 + 1, none⟩ = some (.string (S8 l.name)) := hcl 1 _ rfl
        have hx2 : wr.cell? ⟨b, off + k * 4 + 2, none⟩ = some (.string (S8 l.leaf)) := hcl 2 _ rfl
        generalize decide (l.name = nm) = b1 at *
        generalize decide (lf = []) = b2 at *
        generalize decide (l.leaf = lf) = b3 at *
        by_cases q0 : l.head = h
        · have e0 : (l.head == h) = true := by simpa using q0
          rw [decide_eq_true q0] at hh
          cases b1
          · have HH : Hid (hits h nm lf l = false) := hh
            clear hh
            have HTT : Hid (delL (C.take (k + 1)) h nm lf = delL (C.take k) h nm lf ++ [l]) := by show _ = _; rw [HT1.out, HH.out]; simp
            have hdl := HDL.out k hk
            clear HT1 HH HDL
            generalize delL (C.take k) h nm lf = P at *
            as_aux_lemma =>
              have hba := (Below.refl wr.heap.size wr).alloc (Nat.le_refl _) (.cells (lnV l) 48)
              have hsa := sl_blkT (heap_alloc_new wr (.cells (lnV l) 48))
              have hoa := own_below ho hba
              have hbb2 := hbr.trans (hba.mono hbr.size)
              clear hba
              go_wp2_with (first | refine wpList_load_mid rfl 48 (.tmp 53) rfl b (off + k * 4) rfl (lnC l) _ hcl Tryz.underlying48 rfl k4 ?_ | refine wpList_build1 rfl st_rls (.tmp 54) rfl (lnV l) rfl rfl (by omega) (by omega) ?_ | (at_builtin; refine wpList_app rfl (.tmp 50) (.tmp 55) st_rls rfl w.heap.size rfl hoa rfl hsa (LNS_one _) (by simp [maxLen]; omega) (by omega) hbb2.size ?_))
              intro A9 c9 w9 ho9 hg9 _
              have hb9 := hbb2.trans ((grown_below hoa hg9 hbb2.size).mono (Nat.le_refl _))
              rw [← LNS_append, ← HTT.out] at ho9
              have HCL : Hid (P.length + 1 = (delL (C.take (k + 1)) h nm lf).length) := by show _ = _; rw [HTT.out]; simp
              rw [HCL.out] at ho9
              have HO9 := hid ho9
              clear hsa hoa hbb2 hg9 ho9 hcl
              go_wp2_with fail
              go_light
              exact ⟨⟨k + 1, A9, c9, by omega, by go_num, by rw [← HCL.out], HO9.out, hb9⟩, by simp [intOf]; omega⟩
          · cases b2
            · cases b3
              · have HH : Hid (hits h nm lf l = false) := hh
                clear hh
                have HTT : Hid (delL (C.take (k + 1)) h nm lf = delL (C.take k) h nm lf ++ [l]) := by show _ = _; rw [HT1.out, HH.out]; simp
                have hdl := HDL.out k hk
                clear HT1 HH HDL
                generalize delL (C.take k) h nm lf = P at *
                as_aux_lemma =>
                  have hba := (Below.refl wr.heap.size wr).alloc (Nat.le_refl _) (.cells (lnV l) 48)
                  have hsa := sl_blkT (heap_alloc_new wr (.cells (lnV l) 48))
                  have hoa := own_below ho hba
                  have hbb2 := hbr.trans (hba.mono hbr.size)
                  clear hba
                  go_wp2_with (first | refine wpList_load_mid rfl 48 (.tmp 53) rfl b (off + k * 4) rfl (lnC l) _ hcl Tryz.underlying48 rfl k4 ?_ | refine wpList_build1 rfl st_rls (.tmp 54) rfl (lnV l) rfl rfl (by omega) (by omega) ?_ | (at_builtin; refine wpList_app rfl (.tmp 50) (.tmp 55) st_rls rfl w.heap.size rfl hoa rfl hsa (LNS_one _) (by simp [maxLen]; omega) (by omega) hbb2.size ?_))
                  intro A9 c9 w9 ho9 hg9 _
                  have hb9 := hbb2.trans ((grown_below hoa hg9 hbb2.size).mono (Nat.le_refl _))
                  rw [← LNS_append, ← HTT.out] at ho9
                  have HCL : Hid (P.length + 1 = (delL (C.take (k + 1)) h nm lf).length) := by show _ = _; rw [HTT.out]; simp
                  rw [HCL.out] at ho9
                  have HO9 := hid ho9
                  clear hsa hoa hbb2 hg9 ho9 hcl
                  go_wp2_with fail
                  go_light
                  exact ⟨⟨k + 1, A9, c9, by omega, by go_num, by rw [← HCL.out], HO9.out, hb9⟩, by simp [intOf]; omega⟩
              · have HH : Hid (hits h nm lf l = true) := hh
                clear hh
                have HTT : Hid (delL (C.take (k + 1)) h nm lf = delL (C.take k) h nm lf) := by show _ = _; rw [HT1.out, HH.out]; simp
                clear HT1 HH
                as_aux_lemma =>
                  go_wp2_with fail
                  go_light
                  exact ⟨⟨k + 1, A1, c1, by omega, by go_num, by rw [HTT.out], by rw [HTT.out]; exact ho, hbr⟩, by simp [intOf]; omega⟩
            · have HH : Hid (hits h nm lf l = true) := hh
              clear hh
              have HTT : Hid (delL (C.take (k + 1)) h nm lf = delL (C.take k) h nm lf) := by show _ = _; rw [HT1.out, HH.out]; simp
              clear HT1 HH
              as_aux_lemma =>
                go_wp2_with fail
                go_light
                exact ⟨⟨k + 1, A1, c1, by omega, by go_num, by rw [HTT.out], by rw [HTT.out]; exact ho, hbr⟩, by simp [intOf]; omega⟩
        · have e0 : (l.head == h) = false := by simpa using q0
          rw [decide_eq_false q0] at hh
          have HH : Hid (hits h nm lf l = false) := hh
          clear hh
          have HTT : Hid (delL (C.take (k + 1)) h nm lf = delL (C.take k) h nm lf ++ [l]) := by show _ = _; rw [HT1.out, HH.out]; simp
          have hdl := HDL.out k hk
          clear HT1 HH HDL
          generalize delL (C.take k) h nm lf = P at *
          as_aux_lemma =>
            have hba := (Below.refl wr.heap.size wr).alloc (Nat.le_refl _) (.cells (lnV l) 48)
            have hsa := sl_blkT (heap_alloc_new wr (.cells (lnV l) 48))
            have hoa := own_below ho hba
            have hbb2 := hbr.trans (hba.mono hbr.size)
            clear hba
            go_wp2_with (first | refine wpList_load_mid rfl 48 (.tmp 53) rfl b (off + k * 4) rfl (lnC l) _ hcl Tryz.underlying48 rfl k4 ?_ | refine wpList_build1 rfl st_rls (.tmp 54) rfl (lnV l) rfl rfl (by omega) (by omega) ?_ | (at_builtin; refine wpList_app rfl (.tmp 50) (.tmp 55) st_rls rfl w.heap.size rfl hoa rfl hsa (LNS_one _) (by simp [maxLen]; omega) (by omega) hbb2.size ?_))
            intro A9 c9 w9 ho9 hg9 _
            have hb9 := hbb2.trans ((grown_below hoa hg9 hbb2.size).mono (Nat.le_refl _))
            rw [← LNS_append, ← HTT.out] at ho9
            have HCL : Hid (P.length + 1 = (delL (C.take (k + 1)) h nm lf).length) := by show _ = _; rw [HTT.out]; simp
            rw [HCL.out] at ho9
            have HO9 := hid ho9
            clear hsa hoa hbb2 hg9 ho9 hcl
            go_wp2_with fail
            go_light
            exact ⟨⟨k + 1, A9, c9, by omega, by go_num, by rw [← HCL.out], HO9.out, hb9⟩, by simp [intOf]; omega⟩
      · obtain rfl : k = n := by omega
        rw [HDn.out] at ho ⊢
        have HS := hid (own_sl ho)
        clear HT HDn HDL ho
        generalize delL C h nm lf = D at *
        by_cases hd : D.length = k
        · have HP := hid (HP1.out hd)
          clear HP1 HP2
          have hd' : ((D.length : Int) == (k : Int)) = true := by simp; omega
          go_wp2_with fail
          all_goals go_ret2
          all_goals exact ⟨by rw [HP.out]; exact conf_nil _ _, hbr⟩
        · have HP := hid (HP2.out hd)
          clear HP1 HP2
          have hd' : ((D.length : Int) == (k : Int)) = false := by simp; omega
          go_wp2_with fail
          all_goals go_ret2
          all_goals exact ⟨by rw [HP.out]; exact ⟨A1, c1, rfl, HS.out⟩, hbr⟩
end CF
end Go.Proofs.YtecfkhgocjbocaaGreatDoor
namespace Go.Proofs.YtecfkhgocjbocaaGreatDoor
set_option linter.unusedVariables false
set_option linter.unusedSimpArgs false
open Go Go.RowKit

namespace CF
theorem val_none {C : List Ln} (hr : RightC C = true) (h : Int) (nm lf : List UInt8) (hno : ∀ j < C.length, ¬ ((lnAt C j).head = h ∧ (lnAt C j).name = nm ∧ (lnAt C j).leaf = lf)) : valC C h nm lf = (findR h lf).1.dft := by
  unfold valC
  rw [if_pos hr]
  have : C.find? (fun x => decide (ordL x ⟨h, nm, lf, []⟩ = 0)) = none := by
    rw [List.find?_eq_none]
    intro x hx
    obtain ⟨j, hj, rfl⟩ := List.getElem_of_mem hx
    have := hno j hj
    rw [lnAt_get C j hj] at this
    rw [decide_eq_true_iff, ordL_zero]
    exact this
  rw [this]
set_option maxRecDepth 100000 in
set_option maxHeartbeats 1600000 in
theorem refValue_any (C : List Ln) (h : Int) (nm lf : List UInt8) (A : Option Addr) (n c : Nat) (w : World) (hsl : Sl w 4 (.slice A n c) (LNS C)) (hC : ∀ l ∈ C, LnOk l) (hen : Env w) :
    Calls Tryz.prog 28 #[.slice A n c, .int .i64 h, .string (S8 nm), .string (S8 lf)] w fun e w' => e = .returned (.string (S8 (valC C h nm lf))) ∧ Below w.heap.size w w' := by
  have hl1 := (sl_lns hsl).1
  have HRC := hid (refRight_all C A n c w hsl hC hen)
  have HSL := hid hsl
  have HV0 : Hid (RightC C = false → valC C h nm lf = []) := fun h => by unfold valC; rw [h]; rfl
  have HV1 : Hid (RightC C = true → ∀ k < n, (lnAt C k).head = h → (lnAt C k).name = nm → (lnAt C k).leaf = lf → valC C h nm lf = (lnAt C k).value) := fun hr k hk e1 e2 e3 => by
    have hm : lnAt C k ∈ C := by rw [lnAt_get C k (by omega)]; exact List.getElem_mem _
    have := val_mem hr _ hm
    rwa [e1, e2, e3] at this
  have HV2 : Hid (RightC C = true → (∀ j < n, ¬ ((lnAt C j).head = h ∧ (lnAt C j).name = nm ∧ (lnAt C j).leaf = lf)) → valC C h nm lf = (findR h lf).1.dft) := fun hr hno => val_none hr h nm lf (fun j hj => hno j (by omega))
  have HF : Hid (∀ w', Calls Tryz.prog 60 #[.int .i64 h, .string (S8 lf)] w' fun e w'' => ∃ A, e = .returned (.tuple #[.agg (rwV (findR h lf).1 A), .bool (findR h lf).2]) ∧ Below w'.heap.size w' w'') :=
    fun w' => (refFind_new h (S8 lf) w').mono fun e w'' ⟨A, h1, h2, h3, _⟩ => ⟨A, h1, h2⟩
  have HN : Hid (RightC C = true → n ≤ 64) := fun hr => by have := ((RightC_iff C).1 hr).2.2; omega
  clear hsl hC hen hl1
  generalize valC C h nm lf = V at *
  generalize findR h lf = FR at *
  go_enter Tryz.func28, Tryz.ntmps28
  go_wp2_with fail
  refine HRC.out.mono ?_
  rintro e w1 ⟨rfl, hb1⟩
  clear HRC
  cases b1 : RightC C with
  | false =>
    have HE := hid (HV0.out b1)
    clear HV0 HV1 HV2 b1
    go_wp2_with fail
    go_ret
    exact ⟨by rw [HE.out]; rfl, hb1⟩
  | true =>
    have hn64 := HN.out b1
    clear HN
    have HW1 := hid (HV1.out b1)
    have HW2 := hid (HV2.out b1)
    clear HV0 HV1 HV2 b1
    go_wp2_with fail
    go_loopw [9] (fun i wr => ∃ k : Nat, k ≤ n ∧ i = .int .i64 k ∧ Hid (∀ j < k, ¬ ((lnAt C j).head = h ∧ (lnAt C j).name = nm ∧ (lnAt C j).leaf = lf)) ∧ Below w.heap.size w wr) (fun i _ => n - (intOf i).toNat)
    case atStart => exact ⟨0, Nat.zero_le _, rfl, hid (by simp), hb1⟩
    case round =>
      clear hb1
      obtain ⟨k, hk, rfl, HJ, hbr⟩ := hrel
      by_cases hlt : k < n
      · obtain ⟨b, off, rfl, hbl, hcl⟩ := sl_ln (HSL.out.below hbr) hlt
        have HV1 := hid (HW1.out k hlt)
        have HNO : Hid (¬ ((lnAt C k).head = h ∧ (lnAt C k).name = nm ∧ (lnAt C k).leaf = lf) → ∀ j < k + 1, ¬ ((lnAt C j).head = h ∧ (lnAt C j).name = nm ∧ (lnAt C j).leaf = lf)) := fun hh j hj => by
          by_cases e : j = k
          · rw [e]; exact hh
          · exact HJ.out j (by omega)
        have hx0 : wr.cell? ⟨b, off + k * 4, none⟩ = some (.int .i64 (lnAt C k).head) := hcl 0 _ rfl
        have hx1 : wr.cell? ⟨b, off + k * 4 + 1, none⟩ = some (.string (S8 (lnAt C k).name)) := hcl 1 _ rfl
        have hx2 : wr.cell? ⟨b, off + k * 4 + 2, none⟩ = some (.string (S8 (lnAt C k).leaf)) := hcl 2 _ rfl
        have hx3 : wr.cell? ⟨b, off + k * 4 + 3, none⟩ = some (.string (S8 (lnAt C k).value)) := hcl 3 _ rfl
        have t1 := tl_eq (lnAt C k).name nm
        have t3 := tl_eq (lnAt C k).leaf lf
        clear HJ HW1 HW2 hcl HF
        obtain ⟨l, hll⟩ : ∃ l, l = lnAt C k := ⟨_, rfl⟩
        rw [← hll] at HV1 HNO hx0 hx1 hx2 hx3 t1 t3
        clear hll
        by_cases q0 : l.head = h
        · have e0 : (l.head == h) = true := by simpa using q0
          by_cases q1 : l.name = nm
          · rw [decide_eq_true q1] at t1
            by_cases q2 : l.leaf = lf
            · rw [decide_eq_true q2] at t3
              have HE := hid (HV1.out q0 q1 q2)
              clear HV1 HNO q1 q2
              as_aux_lemma =>
                go_wp2_with fail
                go_ret
                exact ⟨by rw [HE.out]; rfl, hbr⟩
            · rw [decide_eq_false q2] at t3
              have HNE : Hid (¬ (l.head = h ∧ l.name = nm ∧ l.leaf = lf)) := fun hh => q2 hh.2.2
              clear q1 q2
              as_aux_lemma =>
                have HN1 := hid (HNO.out HNE.out)
                clear HNO HNE HV1
                go_wp2_with fail
                go_light
                exact ⟨⟨k + 1, by omega, by go_num, HN1, hbr⟩, by simp [intOf]; omega⟩
          · rw [decide_eq_false q1] at t1
            have HNE : Hid (¬ (l.head = h ∧ l.name = nm ∧ l.leaf = lf)) := fun hh => q1 hh.2.1
            clear q1
            as_aux_lemma =>
              have HN1 := hid (HNO.out HNE.out)
              clear HNO HNE HV1
              go_wp2_with fail
              go_light
              exact ⟨⟨k + 1, by omega, by go_num, HN1, hbr⟩, by simp [intOf]; omega⟩
        · have e0 : (l.head == h) = false := by simpa using q0
          have HNE : Hid (¬ (l.head = h ∧ l.name = nm ∧ l.leaf = lf)) := fun hh => q0 hh.1
          as_aux_lemma =>
            have HN1 := hid (HNO.out HNE.out)
            clear HNO HNE HV1
            go_wp2_with fail
            go_light
            exact ⟨⟨k + 1, by omega, by go_num, HN1, hbr⟩, by simp [intOf]; omega⟩
      · obtain rfl : k = n := by omega
        have HV := hid (HW2.out HJ.out)
        clear HW1 HW2 HJ
        obtain ⟨r, ok⟩ := FR
        simp only at HV HF
        go_wp2_with fail
        refine (HF.out wr).mono ?_
        rintro e w3 ⟨A3, rfl, hb3⟩
        have hbw3 := hbr.trans (hb3.mono hbr.size)
        obtain ⟨hb4, hg4, hl4⟩ := box1 w3 (.cells (rwV r A3) 102)
        go_upto_region 9 with (refine wpList_store_last rfl 102 (.tmp 10) (.tmp 55) rfl (rwV r A3) rfl rfl k8 rfl (rwV_one _ _) ?_)
        generalize w3.alloc (.cells (rwV r A3) 102) = w4 at *
        have hbw4 := hbw3.trans (hb4.mono hbw3.size)
        have q6 : w4.cell? ⟨w3.heap.size, 6, none⟩ = some (.string (S8 r.dft)) := by rw [blkCell hg4 6]; rfl
        clear hg4 hb4 hb3 HF
        have HD : Hid (S8 V = S8 r.dft) := by show _ = _; rw [HV.out]
        clear HV
        generalize S8 r.dft = d at *
        go_wp2_with fail
        go_ret
        exact ⟨by rw [HD.out]; rfl, hbw4⟩
end CF
end Go.Proofs.YtecfkhgocjbocaaGreatDoor
namespace Go.Proofs.YtecfkhgocjbocaaGreatDoor
set_option linter.unusedVariables false
set_option linter.unusedSimpArgs false
open Go

namespace CF
def compN (zs : List (List UInt8)) : List (List UInt8) := zs.foldl stepN []
theorem stepN_cons (a o : List UInt8) (out : List (List UInt8)) (z : List UInt8) : stepN (a :: o :: out) z = a :: stepN (o :: out) z := by
  have h1 : (a :: o :: out).getLastD [] = (o :: out).getLastD [] := rfl
  unfold stepN
  rw [h1]
  by_cases e : (o :: out).getLastD [] = z
  · rw [if_neg (fun h => h.elim (by simp) (fun k => k e)), if_neg (fun h => h.elim (by simp) (fun k => k e))]
  · rw [if_pos (.inr e), if_pos (.inr e)]; rfl
theorem foldN_cons (zs : List (List UInt8)) (a o : List UInt8) (out : List (List UInt8)) : zs.foldl stepN (a :: o :: out) = a :: zs.foldl stepN (o :: out) := by
  induction zs generalizing o out with
  | nil => rfl
  | cons z zs ih =>
    rw [List.foldl_cons, List.foldl_cons, stepN_cons]
    have : ∃ p q, stepN (o :: out) z = p :: q := by
      unfold stepN
      split
      · exact ⟨_, _, rfl⟩
      · exact ⟨_, _, rfl⟩
    obtain ⟨p, q, e⟩ := this
    rw [e]
    exact ih p q
theorem compN_one (x : List UInt8) : compN [x] = [x] := rfl
theorem compN_cons (x y : List UInt8) (zs : List (List UInt8)) : compN (x :: y :: zs) = if x = y then compN (y :: zs) else x :: compN (y :: zs) := by
  have e1 : ∀ (a : List UInt8) zs, compN (a :: zs) = zs.foldl stepN [a] := fun a zs => by
    unfold compN
    rw [List.foldl_cons, stepN_new _ _ (.inl rfl)]
    rfl
  rw [e1, List.foldl_cons]
  by_cases e : x = y
  · subst e
    rw [if_pos rfl, show stepN [x] x = [x] from stepN_old [x] x (by simp) rfl, e1]
  · rw [if_neg e, show stepN [x] y = [x, y] from stepN_new [x] y (.inr e), e1]
    exact foldN_cons zs x y []
theorem compN_mem (zs : List (List UInt8)) (x : List UInt8) (h : x ∈ compN zs) : x ∈ zs := by
  induction zs with
  | nil => cases h
  | cons y zs ih =>
    cases zs with
    | nil => exact h
    | cons z zs =>
      rw [compN_cons] at h
      split at h
      · exact List.mem_cons_of_mem _ (ih h)
      · rcases List.mem_cons.1 h with h | h
        · rw [h]; exact List.mem_cons_self
        · exact List.mem_cons_of_mem _ (ih h)
theorem compN_ex (y : List UInt8) (zs : List (List UInt8)) : ∃ R, compN (y :: zs) = y :: R := by
  induction zs with
  | nil => exact ⟨[], rfl⟩
  | cons z zs ih =>
    rw [compN_cons]
    by_cases e : y = z
    · subst e
      rw [if_pos rfl]
      obtain ⟨R, hR⟩ := ih
      cases zs with
      | nil => exact ⟨[], rfl⟩
      | cons t zs =>
        rw [compN_cons] at hR ⊢
        split at hR
        · rename_i e2
          rw [if_pos e2]
          exact ⟨R, hR⟩
        · rename_i e2
          rw [if_neg e2]
          exact ⟨_, rfl⟩
    · rw [if_neg e]
      exact ⟨_, rfl⟩
def leT (a b : List UInt8) : Prop := cmpT a b < 0 ∨ a = b
theorem compN_lt (zs : List (List UInt8)) (h : zs.Pairwise leT) : (compN zs).Pairwise fun a b => cmpT a b < 0 := by
  induction zs with
  | nil => exact List.Pairwise.nil
  | cons y zs ih =>
    cases zs with
    | nil => exact List.pairwise_singleton _ _
    | cons z zs =>
      rw [List.pairwise_cons] at h
      rw [compN_cons]
      split
      · exact ih h.2
      · rename_i e
        rw [List.pairwise_cons]
        refine ⟨fun x hx => ?_, ih h.2⟩
        have hx := compN_mem _ _ hx
        have h1 : cmpT y z < 0 := (h.1 z List.mem_cons_self).resolve_right e
        rcases List.mem_cons.1 hx with hx | hx
        · rw [hx]; exact h1
        · rw [List.pairwise_cons] at h
          rcases h.2.1 x hx with h2 | h2
          · exact cmpT_trans _ _ _ h1 h2
          · rw [← h2]; exact h1
        done
theorem raw_cons (l : Ln) (r : List Ln) (h : Int) : namRaw (l :: r) h = (if l.head = h then [l.name] else []) ++ namRaw r h := by
  unfold namRaw
  by_cases e : l.head = h
  · rw [if_pos e, List.filter_cons_of_pos (by simpa using e)]; rfl
  · rw [if_neg e, List.filter_cons_of_neg (by simpa using e)]; rfl
theorem raw_mem (C : List Ln) (h : Int) (x : List UInt8) : x ∈ namRaw C h ↔ ∃ l ∈ C, l.head = h ∧ l.name = x := by
  unfold namRaw
  simp only [List.mem_map, List.mem_filter, decide_eq_true_eq]
  constructor
  · rintro ⟨l, ⟨h1, h2⟩, h3⟩; exact ⟨l, h1, h2, h3⟩
  · rintro ⟨l, h1, h2, h3⟩; exact ⟨l, ⟨h1, h2⟩, h3⟩
theorem raw_srt (C : List Ln) (h : Int) (hs : Srt C) : (namRaw C h).Pairwise leT := by
  induction C with
  | nil => exact List.Pairwise.nil
  | cons l r ih =>
    rw [srt_cons] at hs
    rw [raw_cons]
    split
    · rename_i e
      rw [List.singleton_append, List.pairwise_cons]
      refine ⟨fun x hx => ?_, ih hs.2⟩
      obtain ⟨y, hy, e2, e3⟩ := (raw_mem _ _ _).1 hx
      have := hs.1 y hy
      rw [ordL_lt] at this
      rcases this with h1 | ⟨_, h1 | ⟨h1, _⟩⟩
      · omega
      · rw [← e3]; exact .inl h1
      · rw [← e3]; exact .inr h1
    · exact ih hs.2
/-- the blocks of a head -/
def flT (C : List Ln) (h : Int) : List UInt8 := (compN (namRaw C h)).flatMap (blockT C h)
def TT (C : List Ln) : List UInt8 := topT C ++ (flT C 1 ++ flT C 2)
theorem textC_TT (C : List Ln) (hr : RightC C = true) : textC C = TT C := by
  unfold textC TT flT compN
  rw [if_pos hr]
  unfold namC
  rw [if_pos ⟨hr, by decide⟩, if_pos ⟨hr, by decide⟩, fold_raw, fold_raw]
theorem body_cons (l : Ln) (r : List Ln) (h : Int) (nm : List UInt8) : bodyB (l :: r) h nm = (if l.head = h ∧ l.name = nm then lineB l else []) ++ bodyB r h nm := by
  unfold bodyB
  rw [List.flatMap_cons]
theorem body_none (r : List Ln) (h : Int) (nm : List UInt8) (hn : ∀ y ∈ r, ¬ (y.head = h ∧ y.name = nm)) : bodyB r h nm = [] := by
  induction r with
  | nil => rfl
  | cons l r ih =>
    rw [body_cons, if_neg (hn l List.mem_cons_self), ih fun y hy => hn y (List.mem_cons_of_mem _ hy)]
    rfl
theorem flat_eq {α β : Type} (C : List β) (f g : β → List α) (h : ∀ x ∈ C, f x = g x) : C.flatMap f = C.flatMap g := by
  induction C with
  | nil => rfl
  | cons x r ih => rw [List.flatMap_cons, List.flatMap_cons, h x List.mem_cons_self, ih fun y hy => h y (List.mem_cons_of_mem _ hy)]
theorem block_off (l : Ln) (r : List Ln) (h : Int) (nm : List UInt8) (hn : ¬ (l.head = h ∧ l.name = nm)) : blockT (l :: r) h nm = blockT r h nm := by
  unfold blockT
  rw [body_cons, if_neg hn]
  rfl
theorem fl_off (l : Ln) (r : List Ln) (h : Int) (hn : l.head ≠ h) : flT (l :: r) h = flT r h := by
  unfold flT
  rw [raw_cons, if_neg hn]
  exact flat_eq _ _ _ fun x _ => block_off l r h x (fun k => hn k.1)
theorem fl_new (l : Ln) (r : List Ln) (h : Int) (e : l.head = h) (hn : ∀ y ∈ r, ¬ (y.head = h ∧ y.name = l.name)) : flT (l :: r) h = headB h l.name ++ lineB l ++ [125, 10] ++ flT r h := by
  have h1 : compN (l.name :: namRaw r h) = l.name :: compN (namRaw r h) := by
    cases hz : namRaw r h with
    | nil => rfl
    | cons z zs =>
      rw [compN_cons, if_neg]
      intro e2
      obtain ⟨y, hy, e3, e4⟩ := (raw_mem r h z).1 (by rw [hz]; exact List.mem_cons_self)
      exact hn y hy ⟨e3, by rw [e4, e2]⟩
  unfold flT
  rw [raw_cons, if_pos e, List.singleton_append, h1, List.flatMap_cons]
  congr 1
  · unfold blockT
    rw [body_cons, if_pos ⟨e, rfl⟩, body_none r h l.name hn, List.append_nil]
  · refine flat_eq _ _ _ fun x hx => block_off l r h x fun k => ?_
    obtain ⟨y, hy, e3, e4⟩ := (raw_mem r h x).1 (compN_mem _ _ hx)
    exact hn y hy ⟨e3, by rw [e4, k.2]⟩
theorem fl_more (l y : Ln) (s : List Ln) (h : Int) (e : l.head = h) (e2 : y.head = h) (e3 : y.name = l.name) (hs : Srt (y :: s)) :
    ∃ Y, flT (y :: s) h = headB h l.name ++ Y ∧ flT (l :: y :: s) h = headB h l.name ++ (lineB l ++ Y) := by
  have hr : namRaw (y :: s) h = l.name :: namRaw s h := by rw [raw_cons, if_pos e2, e3]; rfl
  have hl : namRaw (l :: y :: s) h = l.name :: l.name :: namRaw s h := by rw [raw_cons, if_pos e, hr]; rfl
  obtain ⟨R, hR⟩ := compN_ex l.name (namRaw s h)
  have hp := compN_lt _ (raw_srt (y :: s) h hs)
  rw [hr, hR, List.pairwise_cons] at hp
  unfold flT
  rw [hl, hr, compN_cons, if_pos rfl, hR, List.flatMap_cons, List.flatMap_cons]
  have hf : R.flatMap (blockT (l :: y :: s) h) = R.flatMap (blockT (y :: s) h) := flat_eq _ _ _ fun x hx => block_off _ _ _ _ fun k => by
    have := hp.1 x hx
    rw [k.2, (cmpT_zero x x).2 rfl] at this
    omega
  rw [hf]
  refine ⟨bodyB (y :: s) h l.name ++ [125, 10] ++ R.flatMap (blockT (y :: s) h), ?_, ?_⟩
  · unfold blockT
    simp only [List.append_assoc]
  · unfold blockT
    rw [body_cons l, if_pos ⟨e, rfl⟩]
    simp only [List.append_assoc]
theorem top_none (r : List Ln) (h : ∀ y ∈ r, y.head ≠ 0) : topT r = [] := by
  induction r with
  | nil => rfl
  | cons l r ih =>
    unfold topT at *
    rw [List.flatMap_cons, if_neg (h l List.mem_cons_self), ih fun y hy => h y (List.mem_cons_of_mem _ hy)]
    rfl
theorem fl_none (r : List Ln) (h : Int) (hn : ∀ y ∈ r, y.head ≠ h) : flT r h = [] := by
  unfold flT
  have : namRaw r h = [] := by
    cases hz : namRaw r h with
    | nil => rfl
    | cons z zs =>
      obtain ⟨y, hy, e3, e4⟩ := (raw_mem r h z).1 (by rw [hz]; exact List.mem_cons_self)
      exact absurd e3 (hn y hy)
  rw [this]
  rfl
/-- do two stand in one block? -/
def sameH (a b : Ln) : Bool := decide (a.head = b.head) && decide (a.name = b.name)
def refG : Bool → List Ln → List UInt8
  | _, [] => []
  | o, l :: r => if l.head = 0 then lineX l ++ refG true r else
    (if o = true then headB l.head l.name else []) ++ (lineB l ++ (match r with
      | [] => [125, 10]
      | y :: _ => if sameH l y = true then [] else [125, 10])) ++ refG (match r with
      | [] => true
      | y :: _ => !sameH l y) r
theorem srt_head {l : Ln} {r : List Ln} (h : Srt (l :: r)) : ∀ y ∈ r, l.head ≤ y.head := fun y hy => by
  have := (srt_cons l r).1 h |>.1 y hy
  rw [ordL_lt] at this
  omega
theorem srt_apart {l y : Ln} {s : List Ln} (h : Srt (l :: y :: s)) (hn : sameH l y = false) : ∀ x ∈ y :: s, ¬ (x.head = l.head ∧ x.name = l.name) := by
  have h1 := (srt_cons l _).1 h
  have h2 := (srt_cons y _).1 h1.2
  have h3 := h1.1 y List.mem_cons_self
  unfold sameH at hn
  rw [Bool.and_eq_false_iff, decide_eq_false_iff_not, decide_eq_false_iff_not] at hn
  rintro x hx ⟨e1, e2⟩
  rcases List.mem_cons.1 hx with hx | hx
  · rw [hx] at e1 e2
    exact hn.elim (fun k => k e1.symm) (fun k => k e2.symm)
  · have h4 := h2.1 x hx
    rw [ordL_lt] at h3 h4
    rcases h3 with h3 | ⟨f1, h3⟩
    · rcases h4 with h4 | ⟨g1, h4⟩ <;> omega
    · rcases h4 with h4 | ⟨g1, h4⟩
      · omega
      · rcases h3 with h3 | ⟨f2, h3⟩
        · rcases h4 with h4 | ⟨g2, h4⟩
          · have := cmpT_trans _ _ _ h3 h4
            rw [e2, (cmpT_zero _ _).2 rfl] at this
            omega
          · rw [g2, e2, (cmpT_zero _ _).2 rfl] at h3
            omega
        · exact hn.elim (fun k => k f1) (fun k => k f2)
theorem refG_TT (C : List Ln) (hs : Srt C) (hh : ∀ l ∈ C, l.head = 0 ∨ l.head = 1 ∨ l.head = 2) : refG true C = TT C := by
  induction C with
  | nil => rfl
  | cons l r ih =>
    have ih := ih ((srt_cons l r).1 hs).2 (fun y hy => hh y (List.mem_cons_of_mem _ hy))
    have hle := srt_head hs
    rcases hh l List.mem_cons_self with e | e
    · have h1 : TT (l :: r) = lineX l ++ TT r := by
        unfold TT
        rw [fl_off l r 1 (by omega), fl_off l r 2 (by omega)]
        unfold topT
        rw [List.flatMap_cons, if_pos e, List.append_assoc]
      rw [h1]
      show (if l.head = 0 then lineX l ++ refG true r else _) = _
      rw [if_pos e, ih]
    · have e0 : l.head ≠ 0 := by omega
      have ht1 : topT (l :: r) = [] := top_none _ fun y hy => by
        rcases List.mem_cons.1 hy with h | h
        · rw [h]; exact e0
        · have := hle y h; omega
      have ht2 : topT r = [] := top_none _ fun y hy => by have := hle y hy; omega
      have key : ∀ X Y : List UInt8, flT (l :: r) l.head = X → flT r l.head = Y → ∃ Z, TT (l :: r) = X ++ Z ∧ TT r = Y ++ Z := by
        intro X Y hX hY
        rcases e with e | e
        · refine ⟨flT r 2, ?_, ?_⟩
          · unfold TT
            rw [ht1, fl_off l r 2 (by omega), ← hX, e]; rfl
          · unfold TT
            rw [ht2, ← hY, e]; rfl
        · have hn1 : flT r 1 = [] := fl_none r 1 fun y hy => by have := hle y hy; omega
          refine ⟨[], ?_, ?_⟩
          · unfold TT
            rw [ht1, fl_off l r 1 (by omega), hn1, ← hX, e, List.append_nil]; rfl
          · unfold TT
            rw [ht2, hn1, ← hY, e, List.append_nil]; rfl
      have hnew : (∀ y ∈ r, ¬ (y.head = l.head ∧ y.name = l.name)) → TT (l :: r) = headB l.head l.name ++ lineB l ++ [125, 10] ++ TT r := fun hn => by
        obtain ⟨Z, h1, h2⟩ := key _ _ (fl_new l r l.head rfl hn) rfl
        rw [h1, h2]
        simp only [List.append_assoc]
      show (if l.head = 0 then _ else _) = _
      rw [if_neg e0]
      cases r with
      | nil =>
        rw [hnew (by simp)]
        show _ = _ ++ []
        simp only [if_true, List.append_assoc]
        rfl
      | cons y s =>
        simp only [if_true]
        by_cases hsm : sameH l y = true
        · rw [if_pos hsm, hsm]
          have h2 := hsm
          unfold sameH at h2
          rw [Bool.and_eq_true, decide_eq_true_iff, decide_eq_true_iff] at h2
          obtain ⟨Y, f1, f2⟩ := fl_more l y s l.head rfl h2.1.symm h2.2.symm ((srt_cons l _).1 hs).2
          obtain ⟨Z, g1, g2⟩ := key _ _ f2 f1
          have e1 : refG true (y :: s) = headB y.head y.name ++ refG false (y :: s) := by
            have ey : y.head ≠ 0 := by omega
            show (if y.head = 0 then _ else _) = _ ++ (if y.head = 0 then _ else _)
            rw [if_neg ey, if_neg ey]
            simp only [if_true, Bool.false_eq_true, if_false, List.nil_append, List.append_assoc]
          rw [e1, ← h2.1, ← h2.2, g2, List.append_assoc] at ih
          have ih := List.append_cancel_left ih
          rw [g1]
          show _ ++ (_ ++ []) ++ refG false (y :: s) = _
          rw [ih]
          simp only [List.append_assoc, List.append_nil]
        · have hsm : sameH l y = false := by simpa using hsm
          rw [if_neg (by rw [hsm]; decide), hsm, hnew (srt_apart hs hsm)]
          show _ ++ _ ++ refG true (y :: s) = _
          rw [ih]
          simp only [List.append_assoc]
/-- is the line at k the first of its block, the last one? -/
def opT (C : List Ln) (k : Nat) : Bool := decide (k = 0) || !sameH (lnAt C (k - 1)) (lnAt C k)
def clT (C : List Ln) (k : Nat) : Bool := decide (k + 1 = C.length) || !sameH (lnAt C k) (lnAt C (k + 1))
def pieceT (C : List Ln) (k : Nat) : List UInt8 := if (lnAt C k).head = 0 then lineX (lnAt C k) else
  (if opT C k = true then headB (lnAt C k).head (lnAt C k).name else []) ++ (lineB (lnAt C k) ++ (if clT C k = true then [125, 10] else []))
def rtT (C : List Ln) (k : Nat) : List UInt8 := (List.range k).flatMap (pieceT C)
theorem rtT_succ (C : List Ln) (k : Nat) : rtT C (k + 1) = rtT C k ++ pieceT C k := by
  unfold rtT
  rw [List.range_succ, List.flatMap_append]
  simp
theorem sameH_top {a b : Ln} (h : a.head = 0) (h2 : b.head ≠ 0) : sameH a b = false := by
  unfold sameH
  rw [decide_eq_false (by omega)]
  rfl
theorem tail_refG (C : List Ln) (m k : Nat) (hm : m + k = C.length) : (List.range' k m).flatMap (pieceT C) = refG (opT C k) (C.drop k) := by
  induction m generalizing k with
  | zero => rw [List.drop_of_length_le (by omega)]; rfl
  | succ m ih =>
    have hk : k < C.length := by omega
    have ih := ih (k + 1) (by omega)
    rw [List.range'_succ, List.flatMap_cons, ih, List.drop_eq_getElem_cons hk, ← lnAt_get C k hk]
    have hop : opT C (k + 1) = !sameH (lnAt C k) (lnAt C (k + 1)) := by unfold opT; simp
    show pieceT C k ++ _ = if (lnAt C k).head = 0 then _ else _
    unfold pieceT
    by_cases e : (lnAt C k).head = 0
    · rw [if_pos e, if_pos e]
      congr 1
      cases hd : C.drop (k + 1) with
      | nil => rfl
      | cons y s =>
        have hk1 : k + 1 < C.length := by
          have := congrArg List.length hd
          rw [List.length_drop, List.length_cons] at this
          omega
        have hy : lnAt C (k + 1) = y := by
          rw [List.drop_eq_getElem_cons hk1] at hd
          rw [lnAt_get C _ hk1]
          exact (List.cons.inj hd).1
        by_cases ey : y.head = 0
        · show (if y.head = 0 then _ else _) = if y.head = 0 then _ else _
          rw [if_pos ey, if_pos ey]
        · rw [hop, hy, sameH_top e ey]
          rfl
    · rw [if_neg e, if_neg e]
      have hcl : (if clT C k = true then ([125, 10] : List UInt8) else []) = (match C.drop (k + 1) with
          | [] => [125, 10]
          | y :: _ => if sameH (lnAt C k) y = true then [] else [125, 10]) := by
        cases hd : C.drop (k + 1) with
        | nil =>
          have := congrArg List.length hd
          rw [List.length_drop, List.length_nil] at this
          unfold clT
          rw [decide_eq_true (by omega)]
          rfl
        | cons y s =>
          have hk1 : k + 1 < C.length := by
            have := congrArg List.length hd
            rw [List.length_drop, List.length_cons] at this
            omega
          have hy : lnAt C (k + 1) = y := by
            rw [List.drop_eq_getElem_cons hk1] at hd
            rw [lnAt_get C _ hk1]
            exact (List.cons.inj hd).1
          unfold clT
          rw [decide_eq_false (by omega), hy]
          show _ = (if sameH (lnAt C k) y = true then ([] : List UInt8) else [125, 10])
          cases sameH (lnAt C k) y <;> rfl
      rw [hcl]
      congr 1
      cases hd : C.drop (k + 1) with
      | nil => rfl
      | cons y s =>
        have hk1 : k + 1 < C.length := by
          have := congrArg List.length hd
          rw [List.length_drop, List.length_cons] at this
          omega
        have hy : lnAt C (k + 1) = y := by
          rw [List.drop_eq_getElem_cons hk1] at hd
          rw [lnAt_get C _ hk1]
          exact (List.cons.inj hd).1
        rw [hop, hy]
theorem rtT_all (C : List Ln) (hr : RightC C = true) (hh : ∀ l ∈ C, l.head = 0 ∨ l.head = 1 ∨ l.head = 2) : rtT C C.length = textC C := by
  have h1 := tail_refG C C.length 0 (by omega)
  rw [← List.range_eq_range', List.drop_zero, show opT C 0 = true from rfl, refG_TT C (right_srt hr) hh, ← textC_TT C hr] at h1
  exact h1
end CF
end Go.Proofs.YtecfkhgocjbocaaGreatDoor
namespace Go.Proofs.YtecfkhgocjbocaaGreatDoor
set_option linter.unusedVariables false
set_option linter.unusedSimpArgs false
open Go Go.RowKit

namespace CF
theorem s8_neT {x y : List UInt8} (h : x ≠ y) : (!((S8 x).toList == (S8 y).toList)) = true := by
  have h1 : (S8 x).toList = x := Lib.toList_data _
  have h2 : (S8 y).toList = y := Lib.toList_data _
  rw [h1, h2]
  simpa using h
theorem s8_eqT (x : List UInt8) : (!((S8 x).toList == (S8 x).toList)) = false := by simp
theorem ret_boolT {a b : Bool} (h : a = b) : Ending.returned (.bool a) = .returned (.bool b) := by rw [h]
set_option maxRecDepth 100000 in
set_option maxHeartbeats 800000 in
theorem same3_any (A1 : Option Addr) (n1 c1 : Nat) (A2 : Option Addr) (n2 c2 : Nat) (l1 l2 : List (List UInt8)) (w : World) (h1 : Sl w 1 (.slice A1 n1 c1) (STR l1)) (h2 : Sl w 1 (.slice A2 n2 c2) (STR l2)) :
    Calls Tryz.prog 29 #[.slice A1 n1 c1, .slice A2 n2 c2] w fun e w' => e = .returned (.bool (decide (l1 = l2))) ∧ Below w.heap.size w w' := by
  obtain ⟨hl1, hc1, hm1⟩ := sl_lensS h1
  obtain ⟨hl2, hc2, hm2⟩ := sl_lensS h2
  have HL1 := hid hl1
  have HL2 := hid hl2
  clear hl1 hl2
  by_cases hn : n1 = n2
  · subst hn
    go_enter Tryz.func29, Tryz.ntmps29
    go_wp2_with fail
    go_loopw [5] (fun i wr => ∃ k : Nat, k ≤ n1 ∧ i = .int .i64 k ∧ Hid (∀ j < k, l1.getD j [] = l2.getD j []) ∧ Below w.heap.size w wr) (fun i _ => n1 - (intOf i).toNat)
    case atStart => exact ⟨0, Nat.zero_le _, rfl, hid (by simp), Below.refl _ _⟩
    case round =>
      obtain ⟨k, hk, rfl, hall, hb⟩ := hrel
      by_cases hlt : k < n1
      · obtain ⟨b1, o1, rfl, hb1, p1⟩ := STR_cell (h1.below hb) hlt
        obtain ⟨b2, o2, rfl, hb2, p2⟩ := STR_cell (h2.below hb) hlt
        clear h1 h2
        by_cases he : l1.getD k [] = l2.getD k []
        · have he2 := hid he
          rw [← he] at p2
          have t := s8_eqT (l1.getD k [])
          clear he
          generalize hx : l1.getD k [] = x at *
          have HXX := hid hx
          clear hx
          have z1 := fun (z : WK (fun _ => False) wr) => (wat_cell (p := ⟨b1, o1 + k, none⟩) hb1 (fun e => e) z).trans p1
          have z2 := fun (z : WK (fun _ => False) wr) => (wat_cell (p := ⟨b2, o2 + k, none⟩) hb2 (fun e => e) z).trans p2
          go_wp2_with fail
          refine wp_region_loud (fun _ => False) [] (fun _ => Fact.none) (by kernel_rfl) (by kernel_rfl) .nil good_nothing sat_none (WX.out ?_)
          repeat (first | (refine wx_quietU (by rfl) (by rfl) (by rfl) (fun K hK => ?_); go_big_quiet_op; refine hK _ ?_; clear hK K) | (refine wx_quietG (by rfl) (by rfl) (by rfl) (by rfl) (by rfl) (fun K hK => ?_); go_big_quiet_op; refine hK _ ?_; clear hK K) | (refine wx_skipG (by rfl) (by rfl) (by rfl) (fun K hK => ?_); go_simp; refine hK _ ?_; clear hK K) | (refine wx_skipN (by rfl) (by rfl) (by rfl) (fun K hK => ?_); go_simp; refine hK _ ?_; clear hK K))
          refine wx_nil fun w2 hsat => ?_
          have hb3 := sat_below hsat
          clear hsat z1 z2
          go_wp2_with fail
          go_light
          refine ⟨⟨k + 1, by omega, by go_num, hid fun j hj => ?_, hb.trans (hb3.mono hb.size)⟩, by simp [intOf]; omega⟩
          by_cases hjk : j < k
          · exact hall.out j hjk
          · obtain rfl : j = k := by omega
            exact HXX.out.trans he2.out
        · have t := s8_neT he
          have HN : Hid (decide (l1 = l2) = false) := by
            show _ = _
            rw [decide_eq_false_iff_not]
            intro e
            exact he (by rw [e])
          clear he
          generalize l1.getD k [] = x at *
          generalize l2.getD k [] = y at *
          have z1 := fun (z : WK (fun _ => False) wr) => (wat_cell (p := ⟨b1, o1 + k, none⟩) hb1 (fun e => e) z).trans p1
          have z2 := fun (z : WK (fun _ => False) wr) => (wat_cell (p := ⟨b2, o2 + k, none⟩) hb2 (fun e => e) z).trans p2
          go_wp2_with fail
          refine wp_region_loud (fun _ => False) [] (fun _ => Fact.none) (by kernel_rfl) (by kernel_rfl) .nil good_nothing sat_none (WX.out ?_)
          repeat (first | (refine wx_quietU (by rfl) (by rfl) (by rfl) (fun K hK => ?_); go_big_quiet_op; refine hK _ ?_; clear hK K) | (refine wx_quietG (by rfl) (by rfl) (by rfl) (by rfl) (by rfl) (fun K hK => ?_); go_big_quiet_op; refine hK _ ?_; clear hK K) | (refine wx_skipG (by rfl) (by rfl) (by rfl) (fun K hK => ?_); go_simp; refine hK _ ?_; clear hK K) | (refine wx_skipN (by rfl) (by rfl) (by rfl) (fun K hK => ?_); go_simp; refine hK _ ?_; clear hK K))
          refine wx_nil fun w2 hsat => ?_
          have hb3 := sat_below hsat
          clear hsat z1 z2
          go_wp2_with fail
          go_ret
          exact ⟨ret_boolT HN.out.symm, hb.trans (hb3.mono hb.size)⟩
      · obtain rfl : k = n1 := by omega
        have HE : Hid (decide (l1 = l2) = true) := by
          show _ = _
          rw [decide_eq_true_iff]
          refine List.ext_getElem (by rw [HL1.out, HL2.out]) fun j hj1 hj2 => ?_
          have := hall.out j (by rw [← HL1.out]; exact hj1)
          rw [List.getD_eq_getElem?_getD, List.getD_eq_getElem?_getD, List.getElem?_eq_getElem hj1, List.getElem?_eq_getElem hj2] at this
          exact this
        go_wp2_with fail
        go_ret
        exact ⟨ret_boolT HE.out.symm, hb⟩
  · have HN : Hid (decide (l1 = l2) = false) := by
      show _ = _
      rw [decide_eq_false_iff_not]
      intro e
      have e1 := HL1.out
      have e2 := HL2.out
      rw [e] at e1
      omega
    have t : ((n1 : Int) != n2) = true := by rw [bne_iff_ne]; omega
    go_enter Tryz.func29, Tryz.ntmps29
    go_wp2_with fail
    go_ret
    exact ⟨ret_boolT HN.out.symm, Below.refl _ _⟩
/-- a head's names, of the first k lines -/
def namTo (C : List Ln) (h : Int) (k : Nat) : List (List UInt8) := (C.take k).foldl (nameStep h) []
theorem namTo_succ (C : List Ln) (h : Int) (k : Nat) (hk : k < C.length) : namTo C h (k + 1) = nameStep h (namTo C h k) (lnAt C k) := by
  unfold namTo
  rw [List.take_succ_eq_append_getElem hk, List.foldl_append, ← lnAt_get C k hk]
  rfl
theorem nameStep_len (h : Int) (out : List (List UInt8)) (x : Ln) : (nameStep h out x).length ≤ out.length + 1 := by
  unfold nameStep
  split <;> simp
theorem namTo_len (C : List Ln) (h : Int) (k : Nat) (hk : k ≤ C.length) : (namTo C h k).length ≤ k := by
  induction k with
  | zero => exact Nat.le_refl _
  | succ k ih =>
    have := ih (by omega)
    have := nameStep_len h (namTo C h k) (lnAt C k)
    rw [namTo_succ C h k (by omega)]
    omega
set_option maxRecDepth 100000 in
set_option maxHeartbeats 3200000 in
theorem refNames_any (C : List Ln) (h : Int) (A : Option Addr) (n c : Nat) (w : World) (hsl : Sl w 4 (.slice A n c) (LNS C)) (hC : ∀ l ∈ C, LnOk l) (hen : Env w) :
    Calls Tryz.prog 30 #[.slice A n c, .int .i64 h] w fun e w' => NamPost w.heap.size (namC C h) e w' ∧ Below w.heap.size w w' := by
  have hn := (sl_lns hsl).1
  have HV0 : Hid (RightC C = false → namC C h = []) := fun hr => by unfold namC; rw [if_neg (by rw [hr]; simp)]
  have HV1 : Hid (h = 0 → namC C h = []) := fun hr => by unfold namC; rw [if_neg (fun h => h.2 hr)]
  have HV2 : Hid (RightC C = true → h ≠ 0 → namC C h = namTo C h n) := fun hr h0 => by unfold namC namTo; rw [if_pos ⟨hr, h0⟩, List.take_of_length_le (by omega)]
  have H64 : Hid (RightC C = true → n ≤ 64) := fun h => by have := ((RightC_iff C).1 h).2.2; omega
  have HRC := hid (refRight_all C A n c w hsl hC hen)
  have HSL := hid hsl
  have HNS : Hid (∀ k < n, namTo C h (k + 1) = nameStep h (namTo C h k) (lnAt C k)) := fun k hk => namTo_succ C h k (by omega)
  have HNL : Hid (∀ k ≤ n, (namTo C h k).length ≤ k) := fun k hk => namTo_len C h k (by omega)
  clear hsl hC hen hn
  generalize namC C h = V at *
  go_enter Tryz.func30, Tryz.ntmps30
  go_wp2_with fail
  refine HRC.out.mono ?_
  rintro e w1 ⟨rfl, hb1⟩
  clear HRC
  cases b1 : RightC C with
  | false =>
    have HE := hid (HV0.out b1)
    clear HV0 HV1 HV2 H64 HNS HNL b1
    go_wp2_with fail
    go_ret
    exact ⟨by rw [HE.out]; exact namPost_nil _ _, hb1⟩
  | true =>
    by_cases h0 : h = 0
    · have HE := hid (HV1.out h0)
      have t0 : (h == 0) = true := by simpa using h0
      clear HV0 HV1 HV2 H64 HNS HNL b1 h0
      go_wp2_with fail
      go_ret
      exact ⟨by rw [HE.out]; exact namPost_nil _ _, hb1⟩
    · have HE := hid (HV2.out b1 h0)
      have hn64 := H64.out b1
      have t0 : (h == 0) = false := by simpa using h0
      clear HV0 HV1 HV2 H64 b1 h0
      go_wp2_with fail
      go_loopw [5, 6] (fun v i wr => ∃ (k : Nat) (A' : Option Addr) (c' : Nat), k ≤ n ∧ i = .int .i64 k ∧ v = .slice A' (namTo C h k).length c' ∧ wr.ownsRow w.heap.size 9 1 (.slice A' (namTo C h k).length c') (namTo C h k).length (STR (namTo C h k)) ∧ Below w.heap.size w wr) (fun _ i _ => n - (intOf i).toNat)
      case atStart => exact ⟨0, none, 0, Nat.zero_le _, rfl, rfl, own_nilE _ _ _ _, hb1⟩
      case round =>
        clear hb1
        obtain ⟨k, A1, c1, hk, rfl, rfl, ho, hbr⟩ := hrel
        by_cases hlt : k < n
        · obtain ⟨b, off, rfl, hbl, hcl⟩ := sl_ln (HSL.out.below hbr) hlt
          have HT1 := hid (HNS.out k hlt)
          have hrl := HNL.out k hk
          clear HNS HNL HE
          have hx0 : wr.cell? ⟨b, off + k * 4, none⟩ = some (.int .i64 (lnAt C k).head) := hcl 0 _ rfl
          have hx1 : wr.cell? ⟨b, off + k * 4 + 1, none⟩ = some (.string (S8 (lnAt C k).name)) := hcl 1 _ rfl
          generalize lnAt C k = l at *
          have y0 := fun z : WK (fun _ => False) wr => (wat_cell (p := ⟨b, off + k * 4, none⟩) hbl (by simp) z).trans hx0
          have y1 := fun z : WK (fun _ => False) wr => (wat_cell (p := ⟨b, off + k * 4 + 1, none⟩) hbl (by simp) z).trans hx1
          generalize namTo C h k = R at *
          clear hcl
          by_cases q0 : l.head = h
          · have e0 : (l.head == h) = true := by simpa using q0
            by_cases q1 : R = []
            · have HYES : Hid (l.head = h ∧ (R = [] ∨ R.getLastD [] ≠ l.name)) := ⟨q0, .inl q1⟩
              have e1 : ((R.length : Int) == 0) = true := by rw [q1]; rfl
              clear q0 q1
              have HTT : Hid (namTo C h (k + 1) = R ++ [l.name]) := by show _ = _; rw [HT1.out]; unfold nameStep; rw [if_pos HYES.out]
              clear HT1 HYES
              as_aux_lemma =>
                go_upto_region 7 with fail
                refine wp_region_loud (fun _ => False) [] (fun _ => Fact.none) (by kernel_rfl) (by kernel_rfl) .nil good_nothing sat_none (WX.out ?_)
                repeat (first | (refine wx_quietU (by rfl) (by rfl) (by rfl) (fun K hK => ?_); go_big_quiet_op; refine hK _ ?_; clear hK K) | (refine wx_quietG (by rfl) (by rfl) (by rfl) (by rfl) (by rfl) (fun K hK => ?_); go_big_quiet_op; refine hK _ ?_; clear hK K) | (refine wx_skipG (by rfl) (by rfl) (by rfl) (fun K hK => ?_); go_simp; refine hK _ ?_; clear hK K) | (refine wx_skipN (by rfl) (by rfl) (by rfl) (fun K hK => ?_); go_simp; refine hK _ ?_; clear hK K))
                refine wx_nil fun w3 hsat => ?_
                have hb3 := sat_below hsat
                have hbw3 := hbr.trans (hb3.mono hbr.size)
                have ho3 := own_below ho hb3
                have c1' : w3.cell? ⟨b, off + k * 4 + 1, none⟩ = some (.string (S8 l.name)) := (hb3.cell hbl).trans hx1
                clear hsat ho hb3 y0 y1
                have hsl1 : Sl (w3.alloc (.cells #[.string (S8 l.name)] 9)) 1 (.slice (some ⟨w3.heap.size, 0, none⟩) 1 1) (STR [l.name]) := own_sl (own_made w3 0 9 1 1 #[.string (S8 l.name)] (STR [l.name]) (Nat.zero_le _) rfl rfl (by omega) (by omega))
                have hba := (Below.refl w3.heap.size w3).alloc (Nat.le_refl _) (.cells #[.string (S8 l.name)] 9)
                have ho4 := own_below ho3 hba
                have hbw4 := hbw3.trans (hba.mono hbw3.size)
                clear hba ho3
                go_wp2_with (at_builtin; refine wpList_app rfl (.tmp 46) (.tmp 52) st_strs rfl w.heap.size rfl ho4 rfl hsl1 (STR_one _) (by simp [maxLen]; omega) (by omega) hbw4.size ?_)
                intro A9 c9 w5 ho9 hg9 _
                have hb9 := hbw4.trans ((grown_below ho4 hg9 hbw4.size).mono (Nat.le_refl _))
                rw [← STR_append, ← HTT.out, show R.length + 1 = (namTo C h (k + 1)).length by rw [HTT.out]; simp; try omega] at ho9
                have HLL : Hid (R.length + 1 = (namTo C h (k + 1)).length) := by show _ = _; rw [HTT.out]; simp; try omega
                clear ho4 hbw4 hsl1 hg9
                go_wp2_with fail
                go_light
                exact ⟨⟨k + 1, A9, c9, by omega, by go_num, by rw [← HLL.out], ho9, hb9⟩, by simp [intOf]; omega⟩
            · obtain ⟨m, hm⟩ : ∃ m, R.length = m + 1 := ⟨R.length - 1, by have := List.length_pos_iff.2 q1; omega⟩
              have e1 : (((m : Int) + 1) == 0) = false := by rw [beq_eq_false_iff_ne]; omega
              have hs := own_sl ho
              obtain ⟨bo, oo, rfl, hbo, po⟩ := STR_cell hs (k := m) (by omega)
              have hgl : R.getD m [] = R.getLastD [] := by
                rw [List.getLastD_eq_getLast?, List.getLast?_eq_getElem?, hm, List.getD_eq_getElem?_getD]
                rfl
              rw [hgl] at po
              have yo := fun z : WK (fun _ => False) wr => (wat_cell (p := ⟨bo, oo + m, none⟩) hbo (by simp) z).trans po
              have hsb : wrap64 ((m : Int) + 1 - 1) = m := by unfold wrap64; omega
              have hsb2 : wrap64 (m : Int) = m := by unfold wrap64; omega
              have HM := hid hm
              clear hs hgl po
              by_cases q2 : R.getLastD [] = l.name
              · have t := s8_eqT l.name
                have HNO : Hid (¬ (l.head = h ∧ (R = [] ∨ R.getLastD [] ≠ l.name))) := fun hh => hh.2.elim q1 (fun k => k q2)
                rw [q2] at yo
                clear q0 q1 q2
                have HTT : Hid (namTo C h (k + 1) = R) := by show _ = _; rw [HT1.out]; unfold nameStep; rw [if_neg HNO.out]
                clear HT1 HNO
                as_aux_lemma =>
                  go_upto_region 7 with fail
                  refine wp_region_loud (fun _ => False) [] (fun _ => Fact.none) (by kernel_rfl) (by kernel_rfl) .nil good_nothing sat_none (WX.out ?_)
                  repeat (first | (refine wx_quietU (by rfl) (by rfl) (by rfl) (fun K hK => ?_); go_big_quiet_op; refine hK _ ?_; clear hK K) | (refine wx_quietG (by rfl) (by rfl) (by rfl) (by rfl) (by rfl) (fun K hK => ?_); go_big_quiet_op; refine hK _ ?_; clear hK K) | (refine wx_skipG (by rfl) (by rfl) (by rfl) (fun K hK => ?_); go_simp; refine hK _ ?_; clear hK K) | (refine wx_skipN (by rfl) (by rfl) (by rfl) (fun K hK => ?_); go_simp; refine hK _ ?_; clear hK K))
                  refine wx_nil fun w3 hsat => ?_
                  have hb3 := sat_below hsat
                  have hbw3 := hbr.trans (hb3.mono hbr.size)
                  have ho3 := own_below ho hb3
                  clear hsat ho hb3
                  go_wp2_with fail
                  go_light
                  exact ⟨⟨k + 1, _, c1, by omega, by go_num, by rw [HTT.out], by rw [HTT.out]; exact ho3, hbw3⟩, by simp [intOf]; omega⟩
              · have t := s8_neT q2
                obtain ⟨x, hx⟩ : ∃ x, x = R.getLastD [] := ⟨_, rfl⟩
                rw [← hx] at yo t
                clear hx
                have HYES : Hid (l.head = h ∧ (R = [] ∨ R.getLastD [] ≠ l.name)) := ⟨q0, .inr q2⟩
                clear q0 q1 q2
                have HTT : Hid (namTo C h (k + 1) = R ++ [l.name]) := by show _ = _; rw [HT1.out]; unfold nameStep; rw [if_pos HYES.out]
                clear HT1 HYES
                as_aux_lemma =>
                  go_upto_region 7 with fail
                  refine wp_region_loud (fun _ => False) [] (fun _ => Fact.none) (by kernel_rfl) (by kernel_rfl) .nil good_nothing sat_none (WX.out ?_)
                  repeat (first | (refine wx_quietU (by rfl) (by rfl) (by rfl) (fun K hK => ?_); go_big_quiet_op; refine hK _ ?_; clear hK K) | (refine wx_quietG (by rfl) (by rfl) (by rfl) (by rfl) (by rfl) (fun K hK => ?_); go_big_quiet_op; refine hK _ ?_; clear hK K) | (refine wx_skipG (by rfl) (by rfl) (by rfl) (fun K hK => ?_); go_simp; refine hK _ ?_; clear hK K) | (refine wx_skipN (by rfl) (by rfl) (by rfl) (fun K hK => ?_); go_simp; refine hK _ ?_; clear hK K))
                  refine wx_nil fun w3 hsat => ?_
                  have hb3 := sat_below hsat
                  have hbw3 := hbr.trans (hb3.mono hbr.size)
                  have ho3 := own_below ho hb3
                  have c1' : w3.cell? ⟨b, off + k * 4 + 1, none⟩ = some (.string (S8 l.name)) := (hb3.cell hbl).trans hx1
                  clear hsat ho hb3 y0 y1
                  have hsl1 : Sl (w3.alloc (.cells #[.string (S8 l.name)] 9)) 1 (.slice (some ⟨w3.heap.size, 0, none⟩) 1 1) (STR [l.name]) := own_sl (own_made w3 0 9 1 1 #[.string (S8 l.name)] (STR [l.name]) (Nat.zero_le _) rfl rfl (by omega) (by omega))
                  have hba := (Below.refl w3.heap.size w3).alloc (Nat.le_refl _) (.cells #[.string (S8 l.name)] 9)
                  have ho4 := own_below ho3 hba
                  have hbw4 := hbw3.trans (hba.mono hbw3.size)
                  clear hba ho3
                  go_wp2_with (at_builtin; refine wpList_app rfl (.tmp 46) (.tmp 52) st_strs rfl w.heap.size rfl ho4 rfl hsl1 (STR_one _) (by simp [maxLen]; omega) (by omega) hbw4.size ?_)
                  intro A9 c9 w5 ho9 hg9 _
                  have hb9 := hbw4.trans ((grown_below ho4 hg9 hbw4.size).mono (Nat.le_refl _))
                  rw [← STR_append, ← HTT.out, show m + 1 + 1 = (namTo C h (k + 1)).length by rw [HTT.out]; simp; try omega] at ho9
                  have HLL : Hid (m + 1 + 1 = (namTo C h (k + 1)).length) := by show _ = _; rw [HTT.out]; simp; try omega
                  clear ho4 hbw4 hsl1 hg9
                  go_wp2_with fail
                  go_light
                  exact ⟨⟨k + 1, A9, c9, by omega, by go_num, by rw [← HLL.out], ho9, hb9⟩, by simp [intOf]; omega⟩
          · have e0 : (l.head == h) = false := by simpa using q0
            have HNO : Hid (¬ (l.head = h ∧ (R = [] ∨ R.getLastD [] ≠ l.name))) := fun hh => q0 hh.1
            clear q0
            have HTT : Hid (namTo C h (k + 1) = R) := by show _ = _; rw [HT1.out]; unfold nameStep; rw [if_neg HNO.out]
            clear HT1 HNO
            as_aux_lemma =>
              go_upto_region 7 with fail
              refine wp_region_loud (fun _ => False) [] (fun _ => Fact.none) (by kernel_rfl) (by kernel_rfl) .nil good_nothing sat_none (WX.out ?_)
              repeat (first | (refine wx_quietU (by rfl) (by rfl) (by rfl) (fun K hK => ?_); go_big_quiet_op; refine hK _ ?_; clear hK K) | (refine wx_quietG (by rfl) (by rfl) (by rfl) (by rfl) (by rfl) (fun K hK => ?_); go_big_quiet_op; refine hK _ ?_; clear hK K) | (refine wx_skipG (by rfl) (by rfl) (by rfl) (fun K hK => ?_); go_simp; refine hK _ ?_; clear hK K) | (refine wx_skipN (by rfl) (by rfl) (by rfl) (fun K hK => ?_); go_simp; refine hK _ ?_; clear hK K))
              refine wx_nil fun w3 hsat => ?_
              have hb3 := sat_below hsat
              have hbw3 := hbr.trans (hb3.mono hbr.size)
              have ho3 := own_below ho hb3
              clear hsat ho hb3
              go_wp2_with fail
              go_light
              exact ⟨⟨k + 1, _, c1, by omega, by go_num, by rw [HTT.out], by rw [HTT.out]; exact ho3, hbw3⟩, by simp [intOf]; omega⟩
        · obtain rfl : k = n := by omega
          have HS := hid ho
          clear HNS HNL ho
          rw [← HE.out] at HS ⊢
          clear HE
          go_wp2_with fail
          go_ret
          exact ⟨⟨A1, c1, rfl, HS.out⟩, hbr⟩
end CF
end Go.Proofs.YtecfkhgocjbocaaGreatDoor
namespace Go.Proofs.YtecfkhgocjbocaaGreatDoor
set_option linter.unusedVariables false
set_option linter.unusedSimpArgs false
open Go Go.RowKit

namespace CF
theorem right_head (l : Ln) (h : rightL l = true) : l.head = 0 ∨ l.head = 1 ∨ l.head = 2 := by
  unfold rightL at h
  simp only [Bool.and_eq_true] at h
  obtain ⟨⟨h1, _⟩, _⟩ := h
  unfold findR at h1
  split at h1
  · rename_i r hf
    have hr := List.find?_some hf
    unfold isR at hr
    simp only [Bool.and_eq_true, decide_eq_true_eq] at hr
    have : TAB.all (fun r => decide (r.head = 0 ∨ r.head = 1 ∨ r.head = 2)) = true := by kernel_rfl
    have h2 := of_decide_eq_true (List.all_eq_true.1 this r (List.mem_of_find?_eq_some hf))
    rw [← hr.1]
    exact h2
  · cases h1
theorem headB_len (h : Int) (nm : List UInt8) (hn : nm.length ≤ 2000000) : (headB h nm).length ≤ 2000013 := by
  have hwl : (wordT h).length ≤ 10 := by unfold wordT; split <;> simp
  unfold headB
  simp only [List.length_append, List.length_cons, List.length_nil]
  omega
theorem pieceT_len (C : List Ln) (k : Nat) (h : LnOk (lnAt C k)) : (pieceT C k).length ≤ 6000030 := by
  have h1 := lineX_len _ h
  have h2 := lineB_len _ h
  have h3 := headB_len (lnAt C k).head (lnAt C k).name h.1
  unfold pieceT
  split
  · omega
  · simp only [List.length_append]
    split <;> split <;> simp only [List.length_nil, List.length_cons] <;> omega
theorem rtT_len (C : List Ln) (hC : ∀ l ∈ C, LnOk l) (k : Nat) (hk : k ≤ C.length) : (rtT C k).length ≤ k * 6000030 := by
  induction k with
  | zero => exact Nat.le_refl _
  | succ k ih =>
    have := ih (by omega)
    have h2 := pieceT_len C k (hC _ (by rw [lnAt_get C k (by omega)]; exact List.getElem_mem _))
    rw [rtT_succ, List.length_append]
    omega
theorem s8_neC {x y : List UInt8} (h : x ≠ y) : (!((S8 x).toList == (S8 y).toList)) = true := by
  have h1 : (S8 x).toList = x := Lib.toList_data _
  have h2 : (S8 y).toList = y := Lib.toList_data _
  rw [h1, h2]
  simpa using h
theorem s8_eqC (x : List UInt8) : (!((S8 x).toList == (S8 x).toList)) = false := by simp
set_option maxRecDepth 100000 in
set_option maxHeartbeats 6400000 in
theorem refText_any (C : List Ln) (A : Option Addr) (n c : Nat) (w : World) (hsl : Sl w 4 (.slice A n c) (LNS C)) (hC : ∀ l ∈ C, LnOk l) (hen : Env w) :
    Calls Tryz.prog 32 #[.slice A n c] w fun e w' => e = .returned (.string (S8 (textC C))) ∧ Below w.heap.size w w' := by
  have hl1 := (sl_lns hsl).1
  have HRC := hid (refRight_all C A n c w hsl hC hen)
  have HSL := hid hsl
  have HV0 : Hid (RightC C = false → textC C = []) := fun h => by unfold textC; rw [h]; rfl
  have HV1 : Hid (RightC C = true → textC C = rtT C n) := fun h => by
    rw [← hl1]
    exact (rtT_all C h fun l hl => right_head l (((RightC_iff C).1 h).1 l hl)).symm
  have HN : Hid (RightC C = true → n ≤ 64) := fun hr => by have := ((RightC_iff C).1 hr).2.2; omega
  have HHD : Hid (RightC C = true → ∀ k < n, (lnAt C k).head = 0 ∨ (lnAt C k).head = 1 ∨ (lnAt C k).head = 2) := fun hr k hk => right_head _ (((RightC_iff C).1 hr).1 _ (by rw [lnAt_get C k (by omega)]; exact List.getElem_mem _))
  have HOK : Hid (∀ k < n, LnOk (lnAt C k)) := fun k hk => hC _ (by rw [lnAt_get C k (by omega)]; exact List.getElem_mem _)
  have HLN : Hid (∀ k ≤ n, (rtT C k).length ≤ k * 6000030) := fun k hk => rtT_len C hC k (by omega)
  have HCL : Hid (C.length = n) := hl1
  clear hsl hC hen hl1
  generalize textC C = V at *
  go_enter Tryz.func32, Tryz.ntmps32
  go_wp2_with fail
  refine HRC.out.mono ?_
  rintro e w1 ⟨rfl, hb1⟩
  clear HRC
  cases b1 : RightC C with
  | false =>
    have HE := hid (HV0.out b1)
    clear HV0 HV1 HN HHD HOK HLN b1
    go_wp2_with fail
    go_ret
    exact ⟨by rw [HE.out]; rfl, hb1⟩
  | true =>
    have HE := hid (HV1.out b1)
    have hn64 := HN.out b1
    have HD := hid (HHD.out b1)
    clear HV0 HV1 HN HHD b1
    go_wp2_with fail
    go_loopw [3, 4] (fun s i wr => ∃ k : Nat, k ≤ n ∧ i = .int .i64 k ∧ s = .string (S8 (rtT C k)) ∧ Below w.heap.size w wr) (fun _ i _ => n - (intOf i).toNat)
    case atStart => exact ⟨0, Nat.zero_le _, rfl, rfl, hb1⟩
    case round =>
      clear hb1
      obtain ⟨k, hk, rfl, rfl, hbr⟩ := hrel
      by_cases hlt : k < n
      · obtain ⟨b, off, hAA, hbl, hcl⟩ := sl_ln (HSL.out.below hbr) hlt
        subst hAA
        have HRT : Hid (rtT C (k + 1) = rtT C k ++ pieceT C k) := rtT_succ C k
        have HPC : Hid (pieceT C k = if (lnAt C k).head = 0 then lineX (lnAt C k) else (if opT C k = true then headB (lnAt C k).head (lnAt C k).name else []) ++ (lineB (lnAt C k) ++ (if clT C k = true then [125, 10] else []))) := rfl
        have hrl := HLN.out k hk
        obtain ⟨hok1, hok2, hok3⟩ := HOK.out k hlt
        have hd := HD.out k hlt
        obtain ⟨hb2, hg2, hl2⟩ := box1 wr (.cells (lnV (lnAt C k)) 48)
        have HL : Hid (lnAt C k = lnAt C k) := rfl
        clear HLN HOK HD HE
        generalize rtT C k = R at *
        generalize hl : lnAt C k = l at *
        have HLL := hid hl
        clear hl HL
        have hR64 : R.length ≤ 400000000 := by have : k * 6000030 ≤ 64 * 6000030 := Nat.mul_le_mul_right _ (by omega); omega
        go_upto_region 8 with (first | refine wpList_load_mid rfl 48 (.tmp 18) rfl b (off + k * 4) rfl (lnC l) _ hcl Tryz.underlying48 rfl k4 ?_ | refine wpList_store_last rfl 48 (.tmp 5) (.tmp 19) rfl (lnV l) rfl rfl k4 rfl (lnV_one _) ?_)
        generalize wr.alloc (.cells (lnV l) 48) = w2 at *
        have hbw2 := hbr.trans (hb2.mono hbr.size)
        have hbw2' := hbw2
        have q0 : w2.cell? ⟨wr.heap.size, 0, none⟩ = some (.int .i64 l.head) := by rw [blkCell hg2 0]; rfl
        have q1 : w2.cell? ⟨wr.heap.size, 1, none⟩ = some (.string (S8 l.name)) := by rw [blkCell hg2 1]; rfl
        have q2 : w2.cell? ⟨wr.heap.size, 2, none⟩ = some (.string (S8 l.leaf)) := by rw [blkCell hg2 2]; rfl
        have q3 : w2.cell? ⟨wr.heap.size, 3, none⟩ = some (.string (S8 l.value)) := by rw [blkCell hg2 3]; rfl
        clear hcl
        by_cases h0 : l.head = 0
        · have e0 : (l.head == 0) = true := by simpa using h0
          obtain ⟨y1, hy1⟩ : ∃ z, z = R ++ l.leaf := ⟨_, rfl⟩
          obtain ⟨y2, hy2⟩ : ∃ z, z = y1 ++ [32] := ⟨_, rfl⟩
          obtain ⟨y3, hy3⟩ : ∃ z, z = y2 ++ l.value := ⟨_, rfl⟩
          obtain ⟨y4, hy4⟩ : ∃ z, z = y3 ++ [59, 10] := ⟨_, rfl⟩
          have hy1l : y1.length ≤ 402000000 := by rw [hy1, List.length_append]; omega
          have hy2l : y2.length ≤ 402000001 := by rw [hy2, List.length_append]; simp only [List.length_cons, List.length_nil]; omega
          have hy3l : y3.length ≤ 404000001 := by rw [hy3, List.length_append]; omega
          have a1 := fun w' : World => cat8 (w := w') R l.leaf y1 hy1 (by omega)
          have a2 := fun w' : World => cat8 (w := w') y1 [32] y2 hy2 (by simp; omega)
          have a3 := fun w' : World => cat8 (w := w') y2 l.value y3 hy3 (by omega)
          have a4 := fun w' : World => cat8 (w := w') y3 [59, 10] y4 hy4 (by simp; omega)
          rw [show S8 [32] = (⟨#[32]⟩ : ByteArray) from rfl] at a2
          rw [show S8 [59, 10] = (⟨#[59, 10]⟩ : ByteArray) from rfl] at a4
          have HY : Hid (rtT C (k + 1) = y4) := by
            show _ = _
            rw [HRT.out, HPC.out, if_pos h0, hy4, hy3, hy2, hy1]
            unfold lineX
            simp only [List.append_assoc]
          clear hy1 hy2 hy3 hy4 h0 HRT HPC hd
          as_aux_lemma =>
            go_wp2_with fail
            go_light
            exact ⟨⟨k + 1, by omega, by go_num, by rw [HY.out], hbw2⟩, by simp [intOf]; omega⟩
        · have e0 : (l.head == 0) = false := by simpa using h0
          rw [if_neg h0] at HPC
          have hd := hd.resolve_left h0
          obtain ⟨H, hH⟩ : ∃ H, H = (if opT C k = true then headB l.head l.name else []) := ⟨_, rfl⟩
          rw [← hH] at HPC
          have HH := hid hH
          have hHl : H.length ≤ 2000013 := by
            rw [hH]
            split
            · exact headB_len _ _ hok1
            · simp
          clear hH hrl h0
          go_upto_if 22 with fail
          iterate 5 (first | go_guarded | go_step | go_upon)
          go_cut [3] (fun s wx => s = .string (S8 (R ++ H)) ∧ Below w2.heap.size w2 wx)
          case first =>
            clear HRT HPC hHl hbr hb2 hg2
            iterate 1 (first | go_guarded | go_step | go_upon)
            go_cut [55] (fun s wx => s = .bool (opT C k) ∧ Below w2.heap.size w2 wx)
            case first =>
              have HSL2 := hid (HSL.out.below hbw2)
              clear hbw2 hbw2' HH
              by_cases hk0 : k = 0
              · have e1 : ((k : Int) == 0) = true := by rw [hk0]; rfl
                have HB : Hid (opT C k = true) := by
                  show _ = _
                  unfold opT
                  rw [decide_eq_true hk0]
                  rfl
                clear hk0 HLL
                as_aux_lemma =>
                  have p0 := fun z : WK (fun _ => False) w2 => (wat_cell (p := ⟨wr.heap.size, 0, none⟩) hl2 (by simp) z).trans q0
                  have p1 := fun z : WK (fun _ => False) w2 => (wat_cell (p := ⟨wr.heap.size, 1, none⟩) hl2 (by simp) z).trans q1
                  go_upto_region 10 with fail
                  refine wp_region_loud (fun _ => False) [] (fun _ => Fact.none) (by kernel_rfl) (by kernel_rfl) .nil good_nothing sat_none (WX.out ?_)
                  repeat (first | (refine wx_quietU (by rfl) (by rfl) (by rfl) (fun K hK => ?_); go_big_quiet_op; refine hK _ ?_; clear hK K) | (refine wx_quietG (by rfl) (by rfl) (by rfl) (by rfl) (by rfl) (fun K hK => ?_); go_big_quiet_op; refine hK _ ?_; clear hK K) | (refine wx_skipG (by rfl) (by rfl) (by rfl) (fun K hK => ?_); go_simp; refine hK _ ?_; clear hK K) | (refine wx_skipN (by rfl) (by rfl) (by rfl) (fun K hK => ?_); go_simp; refine hK _ ?_; clear hK K))
                  refine wx_nil fun w3 hsat => ?_
                  have hb3 := sat_below hsat
                  clear hsat p0 p1
                  go_wp2_with fail
                  go_meet
                  all_goals go_light
                  exact ⟨by rw [HB.out], hb3⟩
              · have e1 : ((k : Int) == 0) = false := by rw [beq_eq_false_iff_ne]; omega
                have i1 : (1 : Int) ≤ (k : Int) := by omega
                have i2 : (k : Int) - 1 < (n : Int) := by omega
                have HOP : Hid (opT C k = !sameH (lnAt C (k - 1)) l) := by
                  show _ = _
                  unfold opT
                  rw [decide_eq_false hk0, HLL.out]
                  rfl
                obtain ⟨b', off', hA', hblj, hclj⟩ := sl_ln HSL2.out (show k - 1 < n by omega)
                injection hA' with hA'
                injection hA' with e3 e4
                subst e3; subst e4
                clear hk0 HSL2 HLL
                generalize lnAt C (k - 1) = p at *
                have x0 : w2.cell? ⟨b, off + (k - 1) * 4, none⟩ = some (.int .i64 p.head) := hclj 0 _ rfl
                have x1 : w2.cell? ⟨b, off + (k - 1) * 4 + 1, none⟩ = some (.string (S8 p.name)) := hclj 1 _ rfl
                have y0 := fun z : WK (fun _ => False) w2 => (wat_cell (p := ⟨b, off + (k - 1) * 4, none⟩) hblj (by simp) z).trans x0
                have y1 := fun z : WK (fun _ => False) w2 => (wat_cell (p := ⟨b, off + (k - 1) * 4 + 1, none⟩) hblj (by simp) z).trans x1
                clear x0 x1 hclj
                by_cases g1 : p.head = l.head
                · have f1 : (p.head != l.head) = false := by rw [g1]; simp
                  by_cases g2 : p.name = l.name
                  · have f2 := s8_eqC l.name
                    have HB : Hid (opT C k = false) := by
                      show _ = _
                      rw [HOP.out]
                      unfold sameH
                      rw [decide_eq_true g1, decide_eq_true g2]
                      rfl
                    rw [g2] at y1
                    clear g1 g2 HOP
                    as_aux_lemma =>
                      have p0 := fun z : WK (fun _ => False) w2 => (wat_cell (p := ⟨wr.heap.size, 0, none⟩) hl2 (by simp) z).trans q0
                      have p1 := fun z : WK (fun _ => False) w2 => (wat_cell (p := ⟨wr.heap.size, 1, none⟩) hl2 (by simp) z).trans q1
                      go_upto_region 10 with fail
                      refine wp_region_loud (fun _ => False) [] (fun _ => Fact.none) (by kernel_rfl) (by kernel_rfl) .nil good_nothing sat_none (WX.out ?_)
                      repeat (first | (refine wx_quietU (by rfl) (by rfl) (by rfl) (fun K hK => ?_); go_big_quiet_op; refine hK _ ?_; clear hK K) | (refine wx_quietG (by rfl) (by rfl) (by rfl) (by rfl) (by rfl) (fun K hK => ?_); go_big_quiet_op; refine hK _ ?_; clear hK K) | (refine wx_skipG (by rfl) (by rfl) (by rfl) (fun K hK => ?_); go_simp; refine hK _ ?_; clear hK K) | (refine wx_skipN (by rfl) (by rfl) (by rfl) (fun K hK => ?_); go_simp; refine hK _ ?_; clear hK K))
                      refine wx_nil fun w3 hsat => ?_
                      have hb3 := sat_below hsat
                      clear hsat p0 p1
                      go_wp2_with fail
                      go_meet
                      all_goals go_light
                      exact ⟨by rw [HB.out], hb3⟩
                  · have f2 := s8_neC g2
                    have HB : Hid (opT C k = true) := by
                      show _ = _
                      rw [HOP.out]
                      unfold sameH
                      rw [decide_eq_false g2, Bool.and_false]
                      rfl
                    clear g1 g2 HOP
                    as_aux_lemma =>
                      have p0 := fun z : WK (fun _ => False) w2 => (wat_cell (p := ⟨wr.heap.size, 0, none⟩) hl2 (by simp) z).trans q0
                      have p1 := fun z : WK (fun _ => False) w2 => (wat_cell (p := ⟨wr.heap.size, 1, none⟩) hl2 (by simp) z).trans q1
                      go_upto_region 10 with fail
                      refine wp_region_loud (fun _ => False) [] (fun _ => Fact.none) (by kernel_rfl) (by kernel_rfl) .nil good_nothing sat_none (WX.out ?_)
                      repeat (first | (refine wx_quietU (by rfl) (by rfl) (by rfl) (fun K hK => ?_); go_big_quiet_op; refine hK _ ?_; clear hK K) | (refine wx_quietG (by rfl) (by rfl) (by rfl) (by rfl) (by rfl) (fun K hK => ?_); go_big_quiet_op; refine hK _ ?_; clear hK K) | (refine wx_skipG (by rfl) (by rfl) (by rfl) (fun K hK => ?_); go_simp; refine hK _ ?_; clear hK K) | (refine wx_skipN (by rfl) (by rfl) (by rfl) (fun K hK => ?_); go_simp; refine hK _ ?_; clear hK K))
                      refine wx_nil fun w3 hsat => ?_
                      have hb3 := sat_below hsat
                      clear hsat p0 p1
                      go_wp2_with fail
                      go_meet
                      all_goals go_light
                      exact ⟨by rw [HB.out], hb3⟩
                · have f1 : (p.head != l.head) = true := by rw [bne_iff_ne]; exact g1
                  have HB : Hid (opT C k = true) := by
                    show _ = _
                    rw [HOP.out]
                    unfold sameH
                    rw [decide_eq_false g1]
                    rfl
                  clear g1 HOP
                  as_aux_lemma =>
                    have p0 := fun z : WK (fun _ => False) w2 => (wat_cell (p := ⟨wr.heap.size, 0, none⟩) hl2 (by simp) z).trans q0
                    have p1 := fun z : WK (fun _ => False) w2 => (wat_cell (p := ⟨wr.heap.size, 1, none⟩) hl2 (by simp) z).trans q1
                    go_upto_region 10 with fail
                    refine wp_region_loud (fun _ => False) [] (fun _ => Fact.none) (by kernel_rfl) (by kernel_rfl) .nil good_nothing sat_none (WX.out ?_)
                    repeat (first | (refine wx_quietU (by rfl) (by rfl) (by rfl) (fun K hK => ?_); go_big_quiet_op; refine hK _ ?_; clear hK K) | (refine wx_quietG (by rfl) (by rfl) (by rfl) (by rfl) (by rfl) (fun K hK => ?_); go_big_quiet_op; refine hK _ ?_; clear hK K) | (refine wx_skipG (by rfl) (by rfl) (by rfl) (fun K hK => ?_); go_simp; refine hK _ ?_; clear hK K) | (refine wx_skipN (by rfl) (by rfl) (by rfl) (fun K hK => ?_); go_simp; refine hK _ ?_; clear hK K))
                    refine wx_nil fun w3 hsat => ?_
                    have hb3 := sat_below hsat
                    clear hsat p0 p1
                    go_wp2_with fail
                    go_meet
                    all_goals go_light
                    exact ⟨by rw [HB.out], hb3⟩
            case rest =>
              obtain ⟨rfl, hb3⟩ := hcut
              cases hop : opT C k with
              | false =>
                have HNO : Hid (R ++ H = R) := by
                  show _ = _
                  rw [HH.out, hop]
                  simp
                clear HH hop
                as_aux_lemma =>
                  go_wp2_with fail
                  go_meet
                  all_goals go_light
                  exact ⟨by rw [HNO.out], hb3⟩
              | true =>
                have HYES : Hid (H = headB l.head l.name) := by
                  show _ = _
                  rw [HH.out, hop, if_pos rfl]
                clear HH hop
                have hl3 := Nat.lt_of_lt_of_le hl2 hb3.size
                have r0 := fun z : WK (fun _ => False) wc => (wat_cell (p := ⟨wr.heap.size, 0, none⟩) hl3 (by simp) z).trans ((hb3.cell (p := ⟨wr.heap.size, 0, none⟩) hl2).trans q0)
                have r1 := fun z : WK (fun _ => False) wc => (wat_cell (p := ⟨wr.heap.size, 1, none⟩) hl3 (by simp) z).trans ((hb3.cell (p := ⟨wr.heap.size, 1, none⟩) hl2).trans q1)
                clear q0 q1 q2 q3
                rcases hd with hd | hd
                ·
                  rw [hd] at r0
                  obtain ⟨x1, hx1⟩ : ∃ z, z = R ++ [97, 114, 101, 97, 32] := ⟨_, rfl⟩
                  obtain ⟨x2, hx2⟩ : ∃ z, z = x1 ++ l.name := ⟨_, rfl⟩
                  obtain ⟨x3, hx3⟩ : ∃ z, z = x2 ++ [32, 123, 10] := ⟨_, rfl⟩
                  have hx1l : x1.length ≤ 400000010 := by rw [hx1, List.length_append]; simp only [List.length_cons, List.length_nil]; omega
                  have hx2l : x2.length ≤ 402000010 := by rw [hx2, List.length_append]; omega
                  have a1 := fun w' : World => cat8 (w := w') R [97, 114, 101, 97, 32] x1 hx1 (by simp; omega)
                  have a2 := fun w' : World => cat8 (w := w') x1 l.name x2 hx2 (by omega)
                  have a3 := fun w' : World => cat8 (w := w') x2 [32, 123, 10] x3 hx3 (by simp; omega)
                  rw [show S8 [32, 123, 10] = (⟨#[32, 123, 10]⟩ : ByteArray) from rfl] at a3
                  have HX : Hid (x3 = R ++ H) := by
                    show _ = _
                    rw [HYES.out, hx3, hx2, hx1, hd]
                    unfold headB wordT
                    simp only [List.append_assoc]
                    rfl
                  clear hx1 hx2 hx3 hd HYES
                  as_aux_lemma =>
                    have hbase3 := Nat.le_refl wc.heap.size
                    go_upto_region 11 with fail
                    refine wp_region_loud (fun _ => False) [(1, factL [] (fun v => ∃ g, v = .slice (some ⟨g, 0, none⟩) 3 3) (fun v => OwnF wc.heap.size 9 1 3 (STR [[], [97, 114, 101, 97, 32], [105, 110, 116, 101, 114, 102, 97, 99, 101, 32]]) v)), (5, plainL [1] (.string (S8 [97, 114, 101, 97, 32])))] (fun _ => Fact.none) (by kernel_rfl) (by kernel_rfl)
                      (.cons (factL_ok ⟨_, 0, rfl⟩ (fun v => good_own _ _ _ _ _ _)) (.cons (plainL_ok _ _) .nil)) good_nothing sat_none (WX.out ?_)
                    repeat (first | (refine wx_quietU (by rfl) (by rfl) (by rfl) (fun K hK => ?_); go_big_quiet_op; refine hK _ ?_; clear hK K) | (refine wx_quietG (by rfl) (by rfl) (by rfl) (by rfl) (by rfl) (fun K hK => ?_); go_big_quiet_op; refine hK _ ?_; clear hK K) | (refine wx_skipG (by rfl) (by rfl) (by rfl) (fun K hK => ?_); go_simp; refine hK _ ?_; clear hK K) | (refine wx_skipN (by rfl) (by rfl) (by rfl) (fun K hK => ?_); go_simp; refine hK _ ?_; clear hK K))
                    refine wx_loudU (us := []) (by rfl) (by rfl) (fun S wS hC hS hU => ?_) (fun v hv K hK => ?_)
                    · have hm : LeavesRow S wS wc.heap.size 9 1 3 (STR [[], [97, 114, 101, 97, 32], [105, 110, 116, 101, 114, 102, 97, 99, 101, 32]]) (.slice (some ⟨wS.heap.size, 0, none⟩) 3 3) _ := made_x rfl (hC.below.size) rfl rfl (by omega) (by omega)
                      exact runs_value (by go_simp <;> rfl) ⟨⟨_, rfl⟩, hm.2.1, hm.2.2⟩
                    obtain ⟨g, rfl⟩ := hv; (go_simp; refine hK _ ?_; clear hK K)
                    repeat (first | (refine wx_quietU (by rfl) (by rfl) (by rfl) (fun K hK => ?_); go_big_quiet_op; refine hK _ ?_; clear hK K) | (refine wx_quietG (by rfl) (by rfl) (by rfl) (by rfl) (by rfl) (fun K hK => ?_); go_big_quiet_op; refine hK _ ?_; clear hK K) | (refine wx_skipG (by rfl) (by rfl) (by rfl) (fun K hK => ?_); go_simp; refine hK _ ?_; clear hK K) | (refine wx_skipN (by rfl) (by rfl) (by rfl) (fun K hK => ?_); go_simp; refine hK _ ?_; clear hK K))
                    refine wx_loudU (us := [1]) (by rfl) (by rfl) (fun S wS hC hS hU => ?_) (fun v hv K hK => ?_)
                    · have k1 : OwnF wc.heap.size 9 1 3 (STR [[], [97, 114, 101, 97, 32], [105, 110, 116, 101, 114, 102, 97, 99, 101, 32]]) (.slice (some ⟨g, 0, none⟩) 3 3) S wS := hU 1 (by simp)
                      obtain ⟨bo, oo, eo, _, po⟩ := STR_cell (own_sl k1.2) (k := 1) (by omega)
                      injection eo with eo
                      injection eo with e1 e2
                      subst e1; subst e2
                      rw [Nat.zero_add] at po
                      exact runs_value (by go_simp <;> rfl) ⟨rfl, Kept.refl _ _, trivial⟩
                    obtain rfl := hv; (go_simp; refine hK _ ?_; clear hK K)
                    repeat (first | (refine wx_quietU (by rfl) (by rfl) (by rfl) (fun K hK => ?_); go_big_quiet_op; refine hK _ ?_; clear hK K) | (refine wx_quietG (by rfl) (by rfl) (by rfl) (by rfl) (by rfl) (fun K hK => ?_); go_big_quiet_op; refine hK _ ?_; clear hK K) | (refine wx_skipG (by rfl) (by rfl) (by rfl) (fun K hK => ?_); go_simp; refine hK _ ?_; clear hK K) | (refine wx_skipN (by rfl) (by rfl) (by rfl) (fun K hK => ?_); go_simp; refine hK _ ?_; clear hK K))
                    refine wx_nil fun w4 hsat => ?_
                    have hb4 := sat_below hsat
                    clear hsat r0 r1 a1 a2 a3
                    go_wp2_with fail
                    go_meet
                    all_goals go_light
                    exact ⟨by rw [HX.out], hb3.trans (hb4.mono hb3.size)⟩
                ·
                  rw [hd] at r0
                  obtain ⟨x1, hx1⟩ : ∃ z, z = R ++ [105, 110, 116, 101, 114, 102, 97, 99, 101, 32] := ⟨_, rfl⟩
                  obtain ⟨x2, hx2⟩ : ∃ z, z = x1 ++ l.name := ⟨_, rfl⟩
                  obtain ⟨x3, hx3⟩ : ∃ z, z = x2 ++ [32, 123, 10] := ⟨_, rfl⟩
                  have hx1l : x1.length ≤ 400000010 := by rw [hx1, List.length_append]; simp only [List.length_cons, List.length_nil]; omega
                  have hx2l : x2.length ≤ 402000010 := by rw [hx2, List.length_append]; omega
                  have a1 := fun w' : World => cat8 (w := w') R [105, 110, 116, 101, 114, 102, 97, 99, 101, 32] x1 hx1 (by simp; omega)
                  have a2 := fun w' : World => cat8 (w := w') x1 l.name x2 hx2 (by omega)
                  have a3 := fun w' : World => cat8 (w := w') x2 [32, 123, 10] x3 hx3 (by simp; omega)
                  rw [show S8 [32, 123, 10] = (⟨#[32, 123, 10]⟩ : ByteArray) from rfl] at a3
                  have HX : Hid (x3 = R ++ H) := by
                    show _ = _
                    rw [HYES.out, hx3, hx2, hx1, hd]
                    unfold headB wordT
                    simp only [List.append_assoc]
                    rfl
                  clear hx1 hx2 hx3 hd HYES
                  as_aux_lemma =>
                    have hbase3 := Nat.le_refl wc.heap.size
                    go_upto_region 11 with fail
                    refine wp_region_loud (fun _ => False) [(1, factL [] (fun v => ∃ g, v = .slice (some ⟨g, 0, none⟩) 3 3) (fun v => OwnF wc.heap.size 9 1 3 (STR [[], [97, 114, 101, 97, 32], [105, 110, 116, 101, 114, 102, 97, 99, 101, 32]]) v)), (5, plainL [1] (.string (S8 [105, 110, 116, 101, 114, 102, 97, 99, 101, 32])))] (fun _ => Fact.none) (by kernel_rfl) (by kernel_rfl)
                      (.cons (factL_ok ⟨_, 0, rfl⟩ (fun v => good_own _ _ _ _ _ _)) (.cons (plainL_ok _ _) .nil)) good_nothing sat_none (WX.out ?_)
                    repeat (first | (refine wx_quietU (by rfl) (by rfl) (by rfl) (fun K hK => ?_); go_big_quiet_op; refine hK _ ?_; clear hK K) | (refine wx_quietG (by rfl) (by rfl) (by rfl) (by rfl) (by rfl) (fun K hK => ?_); go_big_quiet_op; refine hK _ ?_; clear hK K) | (refine wx_skipG (by rfl) (by rfl) (by rfl) (fun K hK => ?_); go_simp; refine hK _ ?_; clear hK K) | (refine wx_skipN (by rfl) (by rfl) (by rfl) (fun K hK => ?_); go_simp; refine hK _ ?_; clear hK K))
                    refine wx_loudU (us := []) (by rfl) (by rfl) (fun S wS hC hS hU => ?_) (fun v hv K hK => ?_)
                    · have hm : LeavesRow S wS wc.heap.size 9 1 3 (STR [[], [97, 114, 101, 97, 32], [105, 110, 116, 101, 114, 102, 97, 99, 101, 32]]) (.slice (some ⟨wS.heap.size, 0, none⟩) 3 3) _ := made_x rfl (hC.below.size) rfl rfl (by omega) (by omega)
                      exact runs_value (by go_simp <;> rfl) ⟨⟨_, rfl⟩, hm.2.1, hm.2.2⟩
                    obtain ⟨g, rfl⟩ := hv; (go_simp; refine hK _ ?_; clear hK K)
                    repeat (first | (refine wx_quietU (by rfl) (by rfl) (by rfl) (fun K hK => ?_); go_big_quiet_op; refine hK _ ?_; clear hK K) | (refine wx_quietG (by rfl) (by rfl) (by rfl) (by rfl) (by rfl) (fun K hK => ?_); go_big_quiet_op; refine hK _ ?_; clear hK K) | (refine wx_skipG (by rfl) (by rfl) (by rfl) (fun K hK => ?_); go_simp; refine hK _ ?_; clear hK K) | (refine wx_skipN (by rfl) (by rfl) (by rfl) (fun K hK => ?_); go_simp; refine hK _ ?_; clear hK K))
                    refine wx_loudU (us := [1]) (by rfl) (by rfl) (fun S wS hC hS hU => ?_) (fun v hv K hK => ?_)
                    · have k1 : OwnF wc.heap.size 9 1 3 (STR [[], [97, 114, 101, 97, 32], [105, 110, 116, 101, 114, 102, 97, 99, 101, 32]]) (.slice (some ⟨g, 0, none⟩) 3 3) S wS := hU 1 (by simp)
                      obtain ⟨bo, oo, eo, _, po⟩ := STR_cell (own_sl k1.2) (k := 2) (by omega)
                      injection eo with eo
                      injection eo with e1 e2
                      subst e1; subst e2
                      rw [Nat.zero_add] at po
                      exact runs_value (by go_simp <;> rfl) ⟨rfl, Kept.refl _ _, trivial⟩
                    obtain rfl := hv; (go_simp; refine hK _ ?_; clear hK K)
                    repeat (first | (refine wx_quietU (by rfl) (by rfl) (by rfl) (fun K hK => ?_); go_big_quiet_op; refine hK _ ?_; clear hK K) | (refine wx_quietG (by rfl) (by rfl) (by rfl) (by rfl) (by rfl) (fun K hK => ?_); go_big_quiet_op; refine hK _ ?_; clear hK K) | (refine wx_skipG (by rfl) (by rfl) (by rfl) (fun K hK => ?_); go_simp; refine hK _ ?_; clear hK K) | (refine wx_skipN (by rfl) (by rfl) (by rfl) (fun K hK => ?_); go_simp; refine hK _ ?_; clear hK K))
                    refine wx_nil fun w4 hsat => ?_
                    have hb4 := sat_below hsat
                    clear hsat r0 r1 a1 a2 a3
                    go_wp2_with fail
                    go_meet
                    all_goals go_light
                    exact ⟨by rw [HX.out], hb3.trans (hb4.mono hb3.size)⟩
          case rest =>
            obtain ⟨rfl, hbx⟩ := hcut
            have hlx := Nat.lt_of_lt_of_le hl2 hbx.size
            have hbwx := hbw2.trans (hbx.mono hbw2.size)
            have s0 : wc.cell? ⟨wr.heap.size, 0, none⟩ = some (.int .i64 l.head) := (hbx.cell (p := ⟨wr.heap.size, 0, none⟩) hl2).trans q0
            have s1 : wc.cell? ⟨wr.heap.size, 1, none⟩ = some (.string (S8 l.name)) := (hbx.cell (p := ⟨wr.heap.size, 1, none⟩) hl2).trans q1
            have s2 : wc.cell? ⟨wr.heap.size, 2, none⟩ = some (.string (S8 l.leaf)) := (hbx.cell (p := ⟨wr.heap.size, 2, none⟩) hl2).trans q2
            have s3 : wc.cell? ⟨wr.heap.size, 3, none⟩ = some (.string (S8 l.value)) := (hbx.cell (p := ⟨wr.heap.size, 3, none⟩) hl2).trans q3
            obtain ⟨z0, hz0⟩ : ∃ z, z = R ++ H := ⟨_, rfl⟩
            rw [← hz0]
            have hz0l : z0.length ≤ 402000013 := by rw [hz0, List.length_append]; omega
            obtain ⟨y1, hy1⟩ : ∃ z, z = z0 ++ [32, 32] := ⟨_, rfl⟩
            obtain ⟨y2, hy2⟩ : ∃ z, z = y1 ++ l.leaf := ⟨_, rfl⟩
            obtain ⟨y3, hy3⟩ : ∃ z, z = y2 ++ [32] := ⟨_, rfl⟩
            obtain ⟨y4, hy4⟩ : ∃ z, z = y3 ++ l.value := ⟨_, rfl⟩
            obtain ⟨y5, hy5⟩ : ∃ z, z = y4 ++ [59, 10] := ⟨_, rfl⟩
            obtain ⟨y6, hy6⟩ : ∃ z, z = y5 ++ [125, 10] := ⟨_, rfl⟩
            have hy1l : y1.length ≤ 402000015 := by rw [hy1, List.length_append]; simp only [List.length_cons, List.length_nil]; omega
            have hy2l : y2.length ≤ 404000015 := by rw [hy2, List.length_append]; omega
            have hy3l : y3.length ≤ 404000016 := by rw [hy3, List.length_append]; simp only [List.length_cons, List.length_nil]; omega
            have hy4l : y4.length ≤ 406000016 := by rw [hy4, List.length_append]; omega
            have hy5l : y5.length ≤ 406000018 := by rw [hy5, List.length_append]; simp only [List.length_cons, List.length_nil]; omega
            have a1 := fun w' : World => cat8 (w := w') z0 [32, 32] y1 hy1 (by simp; omega)
            have a2 := fun w' : World => cat8 (w := w') y1 l.leaf y2 hy2 (by omega)
            have a3 := fun w' : World => cat8 (w := w') y2 [32] y3 hy3 (by simp; omega)
            have a4 := fun w' : World => cat8 (w := w') y3 l.value y4 hy4 (by omega)
            have a5 := fun w' : World => cat8 (w := w') y4 [59, 10] y5 hy5 (by simp; omega)
            have a6 := fun w' : World => cat8 (w := w') y5 [125, 10] y6 hy6 (by simp; omega)
            rw [show S8 [32, 32] = (⟨#[32, 32]⟩ : ByteArray) from rfl] at a1
            rw [show S8 [32] = (⟨#[32]⟩ : ByteArray) from rfl] at a3
            rw [show S8 [59, 10] = (⟨#[59, 10]⟩ : ByteArray) from rfl] at a5
            rw [show S8 [125, 10] = (⟨#[125, 10]⟩ : ByteArray) from rfl] at a6
            have HY : Hid (rtT C (k + 1) = if clT C k = true then y6 else y5) := by
              show _ = _
              rw [HRT.out, HPC.out, hy6, hy5, hy4, hy3, hy2, hy1, hz0]
              unfold lineB
              split <;> simp only [List.append_assoc, List.append_nil]
            have HSL2 := hid (HSL.out.below hbwx)
            clear HRT HPC hHl hy1 hy2 hy3 hy4 hy5 hy6 hz0 q0 q1 q2 q3 HH hbw2 hg2 hb2 hd hbr
            go_upto_region 13 with fail
            clear a1 a2 a3 a4 a5
            have p0 := fun z : WK (fun _ => False) wc => (wat_cell (p := ⟨wr.heap.size, 0, none⟩) hlx (by simp) z).trans s0
            have p1 := fun z : WK (fun _ => False) wc => (wat_cell (p := ⟨wr.heap.size, 1, none⟩) hlx (by simp) z).trans s1
            by_cases hkn : k + 1 = n
            · have i1 : wrap64 ((n : Int) - 1) = (k : Int) := by unfold wrap64; omega
              have i0 : (n : Int) - 1 = (k : Int) := by omega
              have e1 : ((k : Int) == (n : Int) - 1) = true := by rw [beq_iff_eq]; omega
              have HYZ : Hid (rtT C (k + 1) = y6) := by
                show _ = _
                rw [HY.out, if_pos]
                unfold clT
                rw [decide_eq_true (by rw [HCL.out]; exact hkn)]
                rfl
              clear HY HLL hkn i0 i1
              as_aux_lemma =>
                refine wp_region_loud (fun _ => False) [] (fun _ => Fact.none) (by kernel_rfl) (by kernel_rfl) .nil good_nothing sat_none (WX.out ?_)
                repeat (first | (refine wx_quietU (by rfl) (by rfl) (by rfl) (fun K hK => ?_); go_big_quiet_op; refine hK _ ?_; clear hK K) | (refine wx_quietG (by rfl) (by rfl) (by rfl) (by rfl) (by rfl) (fun K hK => ?_); go_big_quiet_op; refine hK _ ?_; clear hK K) | (refine wx_skipG (by rfl) (by rfl) (by rfl) (fun K hK => ?_); go_simp; refine hK _ ?_; clear hK K) | (refine wx_skipN (by rfl) (by rfl) (by rfl) (fun K hK => ?_); go_simp; refine hK _ ?_; clear hK K))
                refine wx_nil fun w3 hsat => ?_
                have hb3 := sat_below hsat
                have hbz := hbwx.trans (hb3.mono hbwx.size)
                clear hsat p0 p1
                go_wp2_with fail
                go_light
                exact ⟨⟨k + 1, by omega, by go_num, by rw [HYZ.out], hbz⟩, by simp [intOf]; omega⟩
            · have e1 : ((k : Int) == (n : Int) - 1) = false := by rw [beq_eq_false_iff_ne]; omega
              have i1 : (k : Int) + 1 < (n : Int) := by omega
              have i0 : (0 : Int) ≤ (k : Int) + 1 := by omega
              have HOP : Hid (clT C k = !sameH l (lnAt C (k + 1))) := by
                show _ = _
                unfold clT
                rw [decide_eq_false (by rw [HCL.out]; exact hkn), HLL.out]
                rfl
              obtain ⟨b', off', hA', hblj, hclj⟩ := sl_ln HSL2.out (show k + 1 < n by omega)
              injection hA' with hA'
              injection hA' with e3 e4
              subst e3; subst e4
              clear HSL2 HLL hkn
              generalize lnAt C (k + 1) = p at *
              have x0 : wc.cell? ⟨b, off + (k + 1) * 4, none⟩ = some (.int .i64 p.head) := hclj 0 _ rfl
              have x1 : wc.cell? ⟨b, off + (k + 1) * 4 + 1, none⟩ = some (.string (S8 p.name)) := hclj 1 _ rfl
              have y0' := fun z : WK (fun _ => False) wc => (wat_cell (p := ⟨b, off + (k + 1) * 4, none⟩) hblj (by simp) z).trans x0
              have y1' := fun z : WK (fun _ => False) wc => (wat_cell (p := ⟨b, off + (k + 1) * 4 + 1, none⟩) hblj (by simp) z).trans x1
              clear x0 x1 hclj
              by_cases g1 : p.head = l.head
              · have f1 : (p.head != l.head) = false := by rw [g1]; simp
                by_cases g2 : p.name = l.name
                · have f2 := s8_eqC l.name
                  have HYZ : Hid (rtT C (k + 1) = y5) := by
                    show _ = _
                    rw [HY.out, HOP.out, if_neg]
                    unfold sameH
                    rw [decide_eq_true g1.symm, decide_eq_true g2.symm]
                    decide
                  rw [g2] at y1'
                  clear g1 g2 HOP HY
                  as_aux_lemma =>
                    refine wp_region_loud (fun _ => False) [] (fun _ => Fact.none) (by kernel_rfl) (by kernel_rfl) .nil good_nothing sat_none (WX.out ?_)
                    repeat (first | (refine wx_quietU (by rfl) (by rfl) (by rfl) (fun K hK => ?_); go_big_quiet_op; refine hK _ ?_; clear hK K) | (refine wx_quietG (by rfl) (by rfl) (by rfl) (by rfl) (by rfl) (fun K hK => ?_); go_big_quiet_op; refine hK _ ?_; clear hK K) | (refine wx_skipG (by rfl) (by rfl) (by rfl) (fun K hK => ?_); go_simp; refine hK _ ?_; clear hK K) | (refine wx_skipN (by rfl) (by rfl) (by rfl) (fun K hK => ?_); go_simp; refine hK _ ?_; clear hK K))
                    refine wx_nil fun w3 hsat => ?_
                    have hb3 := sat_below hsat
                    have hbz := hbwx.trans (hb3.mono hbwx.size)
                    clear hsat p0 p1
                    go_wp2_with fail
                    go_light
                    exact ⟨⟨k + 1, by omega, by go_num, by rw [HYZ.out], hbz⟩, by simp [intOf]; omega⟩
                · have f2 := s8_neC g2
                  have HYZ : Hid (rtT C (k + 1) = y6) := by
                    show _ = _
                    rw [HY.out, HOP.out, if_pos]
                    unfold sameH
                    rw [decide_eq_false (show ¬ l.name = p.name from fun e => g2 e.symm), Bool.and_false]
                    rfl
                  clear g1 g2 HOP HY
                  as_aux_lemma =>
                    refine wp_region_loud (fun _ => False) [] (fun _ => Fact.none) (by kernel_rfl) (by kernel_rfl) .nil good_nothing sat_none (WX.out ?_)
                    repeat (first | (refine wx_quietU (by rfl) (by rfl) (by rfl) (fun K hK => ?_); go_big_quiet_op; refine hK _ ?_; clear hK K) | (refine wx_quietG (by rfl) (by rfl) (by rfl) (by rfl) (by rfl) (fun K hK => ?_); go_big_quiet_op; refine hK _ ?_; clear hK K) | (refine wx_skipG (by rfl) (by rfl) (by rfl) (fun K hK => ?_); go_simp; refine hK _ ?_; clear hK K) | (refine wx_skipN (by rfl) (by rfl) (by rfl) (fun K hK => ?_); go_simp; refine hK _ ?_; clear hK K))
                    refine wx_nil fun w3 hsat => ?_
                    have hb3 := sat_below hsat
                    have hbz := hbwx.trans (hb3.mono hbwx.size)
                    clear hsat p0 p1
                    go_wp2_with fail
                    go_light
                    exact ⟨⟨k + 1, by omega, by go_num, by rw [HYZ.out], hbz⟩, by simp [intOf]; omega⟩
              · have f1 : (p.head != l.head) = true := by rw [bne_iff_ne]; exact g1
                have HYZ : Hid (rtT C (k + 1) = y6) := by
                  show _ = _
                  rw [HY.out, HOP.out, if_pos]
                  unfold sameH
                  rw [decide_eq_false (fun e => g1 e.symm)]
                  rfl
                clear g1 HOP HY
                as_aux_lemma =>
                  refine wp_region_loud (fun _ => False) [] (fun _ => Fact.none) (by kernel_rfl) (by kernel_rfl) .nil good_nothing sat_none (WX.out ?_)
                  repeat (first | (refine wx_quietU (by rfl) (by rfl) (by rfl) (fun K hK => ?_); go_big_quiet_op; refine hK _ ?_; clear hK K) | (refine wx_quietG (by rfl) (by rfl) (by rfl) (by rfl) (by rfl) (fun K hK => ?_); go_big_quiet_op; refine hK _ ?_; clear hK K) | (refine wx_skipG (by rfl) (by rfl) (by rfl) (fun K hK => ?_); go_simp; refine hK _ ?_; clear hK K) | (refine wx_skipN (by rfl) (by rfl) (by rfl) (fun K hK => ?_); go_simp; refine hK _ ?_; clear hK K))
                  refine wx_nil fun w3 hsat => ?_
                  have hb3 := sat_below hsat
                  have hbz := hbwx.trans (hb3.mono hbwx.size)
                  clear hsat p0 p1
                  go_wp2_with fail
                  go_light
                  exact ⟨⟨k + 1, by omega, by go_num, by rw [HYZ.out], hbz⟩, by simp [intOf]; omega⟩
      · obtain rfl : k = n := by omega
        go_wp2_with fail
        go_ret
        exact ⟨by rw [HE.out]; rfl, hbr⟩
end CF
end Go.Proofs.YtecfkhgocjbocaaGreatDoor
namespace Go.Proofs.YtecfkhgocjbocaaGreatDoor
set_option linter.unusedVariables false
set_option linter.unusedSimpArgs false
open Go Go.RowKit Go.ChangeShapes Go.WideShapes Go.Deep
namespace CF
def NUMS (l : List Int) : List Value := l.map (Value.int .i64)
theorem sl_ints {w : World} {x : Addr} {len cap : Nat} {zs : List Int} (hl : len ≤ cap) (hm : cap ≤ maxLen) (hz : zs.length = cap) (hc : ∀ i, i < zs.length → w.cell? (x.add i) = some (.int .i64 (zs.getD i 0))) :
    Sl w 1 (.slice (some x) len cap) (NUMS (zs.take len)) := by
  refine ⟨_, _, _, rfl, by simp [NUMS]; omega, hl, hm, fun hn => ?_⟩
  obtain ⟨b, off, spot⟩ := x
  have h0 := hc 0 (by omega)
  have hspot : spot = none := by simpa [Addr.add] using World.cell?_spot h0
  subst hspot
  have hb : b < w.heap.size := by
    have := World.block_lt_of_cell? w _ h0
    rw [addr_add] at this
    exact this
  refine ⟨b, off, rfl, hb, fun i hi => ?_⟩
  have hi' : i < len := by omega
  have := hc i (by omega)
  rw [addr_add] at this
  rw [this]
  simp [NUMS, List.getElem?_take, hi', List.getD_eq_getElem?_getD, List.getElem?_eq_getElem (show i < zs.length by omega)]
section
variable {H : Type} {enc : TypeId × Value → H} {P : Program} {w : World} {base : Nat} {held : Bool}
theorem open_nums {r : Reach} {b0 : Nat} {t e : TypeId} {v : Value} {d : DataW H} {p : List MemPlace} (hu : P.underlying t = some (.slice e)) (he : P.underlying e = some (.int .i64)) (hE : P.cellsOf e = 1)
    (hv : Value.okWide P w r b0 t v) (h : DataW.Trod enc P w base (fun _ => true) held t v d p) : ∃ (A : Option Addr) (n c : Nat) (l : List Int), v = .slice A n c ∧ Sl w 1 (.slice A n c) (NUMS l) := by
  obtain ⟨a0, len0, cap0, rfl⟩ := okWide_slice hu hv
  obtain ⟨fuel, hf⟩ := h
  rcases open_ints hu he hE hf with ⟨hcs, _⟩ | ⟨x, l, c, zs, hcs, _, hl, hm, hz, _, hcell, hwz⟩
  · simp [Value.cells] at hcs
    obtain ⟨rfl, rfl, rfl⟩ := hcs
    exact ⟨none, 0, 0, [], rfl, ⟨none, 0, 0, rfl, rfl, Nat.le_refl _, by decide, fun h => absurd h (by omega)⟩⟩
  · simp [Value.cells] at hcs
    obtain ⟨rfl, rfl, rfl⟩ := hcs
    exact ⟨_, _, _, _, rfl, sl_ints hl hm (by simpa using hz) hcell⟩
end
end CF
end Go.Proofs.YtecfkhgocjbocaaGreatDoor
namespace Go.Proofs.YtecfkhgocjbocaaGreatDoor
set_option linter.unusedVariables false
set_option linter.unusedSimpArgs false
open Go Go.RowKit

namespace CF
theorem srt_filter (C : List Ln) (p : Ln → Bool) (h : Srt C) : Srt (C.filter p) := by
  induction C with
  | nil => exact h
  | cons x r ih =>
    rw [srt_cons] at h
    by_cases hp : p x = true
    · rw [List.filter_cons_of_pos hp, srt_cons]
      exact ⟨fun y hy => h.1 y (List.mem_filter.1 hy).1, ih h.2⟩
    · rw [List.filter_cons_of_neg hp]
      exact ih h.2
theorem right_del (C : List Ln) (h : Int) (nm lf : List UInt8) (hr : RightC C = true) : RightC (delL C h nm lf) = true := by
  rw [RightC_iff] at *
  unfold delL
  refine ⟨fun x hx => hr.1 x (List.mem_filter.1 hx).1, srt_filter C _ hr.2.1, Nat.le_trans (List.length_filter_le _ _) hr.2.2⟩
/-- what is so of a configuration that is held -/
def Kp (C : List Ln) : Prop := RightC C = true ∧ ∀ l ∈ C, LnOk l
def nextD (C : List Ln) (h : Int) (nm lf : List UInt8) : List Ln := if delE C h nm lf = 0 then delC C h nm lf else C
def nextS (C : List Ln) (l : Ln) : List Ln := if setE C l = 0 then setC C l else C
theorem kp_del (C : List Ln) (h : Int) (nm lf : List UInt8) (hk : Kp C) : Kp (nextD C h nm lf) := by
  unfold nextD
  split
  · rename_i e
    unfold delC
    rw [if_pos e]
    exact ⟨right_del C h nm lf hk.1, fun l hl => hk.2 l (by unfold delL at hl; exact (List.mem_filter.1 hl).1)⟩
  · exact hk
theorem kp_set (C : List Ln) (l : Ln) (hk : Kp C) (hl : LnOk l) : Kp (nextS C l) := by
  unfold nextS
  split
  · rename_i e
    refine ⟨right_set C l e, fun x hx => ?_⟩
    rw [(setE_ok C l e).2.2.2] at hx
    exact (ins_mem C l x hx).elim (fun k => by rw [k]; exact hl) (hk.2 x)
  · exact hk
theorem sl_sub {w : World} {b o n : Nat} {l : Ln} (hb : b < w.heap.size) (h : w.rangeAt b o (lnC l)) (h1 : 1 ≤ n) (hn : n ≤ 9223372036854775807) : Sl w 4 (.slice (some ⟨b, o, none⟩) 1 n) (LNS [l]) :=
  ⟨_, _, _, rfl, rfl, h1, by simpa [maxLen] using hn, fun _ => ⟨b, o, rfl, hb, fun i hi => by
    have e : LNS [l] = lnC l := by simp [LNS]
    rw [e]
    cases hv : (lnC l)[i]? with
    | none =>
      have : (lnC l).length = 4 := rfl
      have := List.getElem?_eq_none_iff.1 hv
      omega
    | some v => exact h i v hv⟩⟩
theorem num_cell {w : World} {A : Option Addr} {n c : Nat} {l : List Int} (h : Sl w 1 (.slice A n c) (NUMS l)) {k : Nat} (hk : k < n) : ∃ b off, A = some ⟨b, off, none⟩ ∧ b < w.heap.size ∧ w.cell? ⟨b, off + k, none⟩ = some (.int .i64 (l.getD k 0)) := by
  obtain ⟨A', n', c', he, hl, hnc, hcm, hr⟩ := h
  injection he with e1 e2 e3
  subst e1; subst e2; subst e3
  simp [NUMS] at hl
  obtain ⟨b, off, rfl, hb, hc⟩ := hr (by omega)
  refine ⟨b, off, rfl, hb, ?_⟩
  rw [hc k (by omega)]
  simp [NUMS, List.getD_eq_getElem?_getD, List.getElem?_eq_getElem (show k < l.length by omega)]
theorem num_len {w : World} {A : Option Addr} {n c : Nat} {l : List Int} (h : Sl w 1 (.slice A n c) (NUMS l)) : l.length = n ∧ n ≤ c ∧ c ≤ 9223372036854775807 := by
  obtain ⟨A', n', c', he, hl, h2, h3, hr⟩ := h
  injection he with h4 h5 h6
  subst h4; subst h5; subst h6
  simp [NUMS] at hl
  exact ⟨hl, h2, by simpa [maxLen] using h3⟩
/-- two configurations that are alike, in memory -/
def Two (C : List Ln) (a b : Value) (w : World) : Prop := Kp C ∧ ∃ A1 c1 A2 c2, a = .slice A1 C.length c1 ∧ b = .slice A2 C.length c2 ∧ Sl w 4 (.slice A1 C.length c1) (LNS C) ∧ Sl w 4 (.slice A2 C.length c2) (LNS C)
theorem two_nil (w : World) : Two [] (.slice none 0 0) (.slice none 0 0) w := ⟨⟨rfl, fun l h => by cases h⟩, none, 0, none, 0, rfl, rfl, sl_nil _ _ _ (by omega), sl_nil _ _ _ (by omega)⟩
set_option maxRecDepth 100000 in
set_option maxHeartbeats 6000000 in
theorem confSets_walk (L : List Ln) (A : Option Addr) (n c : Nat) (zs : List Int) (A2 : Option Addr) (m c2 : Nat) (w : World) (h : Sl w 4 (.slice A n c) (LNS L)) (hL : ∀ l ∈ L, LnOk l) (hz : Sl w 1 (.slice A2 m c2) (NUMS zs)) (hen : Env w) :
    Calls Tryz.prog 5 #[.slice A n c, .slice A2 m c2] w fun e w' => e = .returned (.bool true) ∧ Below w.heap.size w w' := by
  obtain ⟨hl1, hc1, hc2⟩ := sl_lns h
  obtain ⟨hm1, hd1, hd2⟩ := num_len hz
  have HEN : Hid (∀ w', Below w.heap.size w w' → Env w') := fun w' hb => hen.below hb
  have HSL := hid h
  have HZL := hid hz
  have HOK : Hid (∀ k < n, LnOk (lnAt L k)) := fun k hk => hL _ (by rw [lnAt_get L k (by omega)]; exact List.getElem_mem _)
  have HFR : Hid (∀ (C : List Ln) A c w', C.length ≤ 1000 → Sl w' 4 (.slice A C.length c) (LNS C) → Calls Tryz.prog 23 #[.slice A C.length c] w' fun e w'' => (∃ A' c', e = .returned (.slice A' C.length c') ∧ Sl w'' 4 (.slice A' C.length c') (LNS C)) ∧ Below w'.heap.size w' w'') := fun C A c w' hn hs => (from_any C A C.length c w' hs hn).mono fun e w'' ⟨A', c', h1, h2, h3⟩ => ⟨⟨A', c', h1, own_sl h2⟩, h3⟩
  have HSM : Hid (∀ (C : List Ln) A c A2 c2 w', Sl w' 4 (.slice A C.length c) (LNS C) → Sl w' 4 (.slice A2 C.length c2) (LNS C) → Calls Tryz.prog 22 #[.slice A C.length c, .slice A2 C.length c2] w' fun e w'' => e = .returned (.bool true) ∧ Below w'.heap.size w' w'') := fun C A c A2 c2 w' h1 h2 => by
    have := refSame_any C C A A2 C.length c C.length c2 w' h1 h2
    rwa [sameC_refl] at this
  have HDL : Hid (∀ (C : List Ln) (l : Ln) lf A c w', (∀ x ∈ C, LnOk x) → Below w.heap.size w w' → Sl w' 4 (.slice A C.length c) (LNS C) → Calls Tryz.prog 24 #[.slice A C.length c, .int .i64 l.head, .string (S8 l.name), .string (S8 lf)] w' fun e w'' => ConfPost (delC C l.head l.name lf) (delE C l.head l.name lf) e w'' ∧ Below w'.heap.size w' w'') :=
    fun C l lf A c w' hC hb hs => Delete_any C l.head l.name lf A C.length c w' hs hC (HEN.out w' hb)
  have HRD : Hid (∀ (C : List Ln) (l : Ln) lf A c w', (∀ x ∈ C, LnOk x) → Below w.heap.size w w' → Sl w' 4 (.slice A C.length c) (LNS C) → Calls Tryz.prog 25 #[.slice A C.length c, .int .i64 l.head, .string (S8 l.name), .string (S8 lf)] w' fun e w'' => ConfPost (delC C l.head l.name lf) (delE C l.head l.name lf) e w'' ∧ Below w'.heap.size w' w'') :=
    fun C l lf A c w' hC hb hs => refDelete_any C l.head l.name lf A C.length c w' hs hC (HEN.out w' hb)
  have HST : Hid (∀ (C : List Ln) (l : Ln) A c w', (∀ x ∈ C, LnOk x) → LnOk l → Below w.heap.size w w' → Sl w' 4 (.slice A C.length c) (LNS C) → Calls Tryz.prog 13 #[.slice A C.length c, .agg (lnV l)] w' fun e w'' => ConfPost (setC C l) (setE C l) e w'' ∧ Below w'.heap.size w' w'') :=
    fun C l A c w' hC hl hb hs => Set_any C l A C.length c w' hs hC hl (HEN.out w' hb)
  have HRS : Hid (∀ (C : List Ln) (l : Ln) A c w', (∀ x ∈ C, LnOk x) → LnOk l → Below w.heap.size w w' → Sl w' 4 (.slice A C.length c) (LNS C) → Calls Tryz.prog 27 #[.slice A C.length c, .agg (lnV l)] w' fun e w'' => ConfPost (setC C l) (setE C l) e w'' ∧ Below w'.heap.size w' w'') :=
    fun C l A c w' hC hl hb hs => refSet_any C l A C.length c w' hs hC hl (HEN.out w' hb)
  have HVP : Hid (∀ (C : List Ln) (l : Ln) A c w', (∀ x ∈ C, LnOk x) → Below w.heap.size w w' → Sl w' 4 (.slice A C.length c) (LNS C) → Calls Tryz.prog 16 #[.slice A C.length c, .int .i64 l.head, .string (S8 l.name), .string (S8 l.leaf)] w' fun e w'' => e = .returned (.string (S8 (valC C l.head l.name l.leaf))) ∧ Below w'.heap.size w' w'') :=
    fun C l A c w' hC hb hs => Value_any C l.head l.name l.leaf A C.length c w' hs hC (HEN.out w' hb)
  have HVR : Hid (∀ (C : List Ln) (l : Ln) A c w', (∀ x ∈ C, LnOk x) → Below w.heap.size w w' → Sl w' 4 (.slice A C.length c) (LNS C) → Calls Tryz.prog 28 #[.slice A C.length c, .int .i64 l.head, .string (S8 l.name), .string (S8 l.leaf)] w' fun e w'' => e = .returned (.string (S8 (valC C l.head l.name l.leaf))) ∧ Below w'.heap.size w' w'') :=
    fun C l A c w' hC hb hs => refValue_any C l.head l.name l.leaf A C.length c w' hs hC (HEN.out w' hb)
  have HTO : Hid (∀ (l : Ln) A c w', Sl w' 4 (.slice A 1 c) (LNS [l]) → Calls Tryz.prog 26 #[.slice A 1 c] w' fun e w'' => (∃ b off c, e = .returned (.slice (some ⟨b, off, none⟩) 1 c) ∧ b < w''.heap.size ∧ w''.rangeAt b off (lnC l) ∧ 1 ≤ c) ∧ Below w'.heap.size w' w'') := fun l A c w' hs => by
    refine (to_any [l] A 1 c w' hs (by omega)).mono ?_
    rintro e w'' ⟨A', c', rfl, ho, hb⟩
    have hs := own_sl ho
    obtain ⟨b, off, rfl, hbl, hcl⟩ := sl_ln hs (show 0 < 1 by omega)
    rw [Nat.zero_mul, Nat.add_zero] at hcl
    exact ⟨⟨b, off, c', rfl, hbl, hcl, (sl_lns hs).2.1⟩, hb⟩
  clear h hL hz hen hl1 hm1
  go_enter Tryz.func5, Tryz.ntmps5
  go_wp2_with fail
  go_loopw [5, 6, 7] (fun a b i wr => ∃ (k : Nat) (C : List Ln), k ≤ n ∧ k ≤ 80 ∧ i = .int .i64 k ∧ Hid (Two C a b wr) ∧ Below w.heap.size w wr) (fun _ _ i _ => n - (intOf i).toNat)
  case atStart => exact ⟨0, [], Nat.zero_le _, by omega, rfl, hid (two_nil _), Below.refl _ _⟩
  case round =>
    obtain ⟨k, C, hk, hk80, rfl, HT, hbr⟩ := hrel
    obtain ⟨hkp, A1, c1, A3, c3, rfl, rfl, hs1, hs2⟩ := HT.out
    clear HT
    have HKP := hid hkp
    have HS1 := hid hs1
    have HS2 := hid hs2
    have hlc := right_len hkp.1
    clear hkp hs1 hs2
    by_cases hlt : k < n ∧ k < 80
    · obtain ⟨hlt, hl80⟩ := hlt
      have HF1 := hid (HFR.out C A1 c1 wr (by omega) HS1.out)
      go_wp2_with fail
      refine HF1.out.mono ?_
      rintro e w1 ⟨⟨Aw, cw, rfl, how⟩, hb1⟩
      have hbw1 := hbr.trans (hb1.mono hbr.size)
      have HW1 := hid how
      replace HS1 := hid (HS1.out.below hb1)
      replace HS2 := hid (HS2.out.below hb1)
      obtain ⟨b, off, rfl, hbl, hcl⟩ := sl_ln (HSL.out.below hbw1) hlt
      have HLO := hid (HOK.out k hlt)
      clear HF1 hb1 how hbr
      generalize lnAt L k = l at *
      have HCL := hid hcl
      clear hcl
      dsimp only
      iterate 8 (first | go_guarded | go_step | go_upon)
      go_cut [5, 6] (fun a b wx => ∃ D : List Ln, Hid (Two D a b wx) ∧ Below w1.heap.size w1 wx)
      case first =>
        iterate 1 (first | go_guarded | go_step | go_upon)
        go_cut [42] (fun s wx => ∃ B : Bool, s = .bool B ∧ (B = true → k < m) ∧ Below w1.heap.size w1 wx)
        case first =>
          clear HFR HSM HDL HRD HST HRS HVP HVR HTO HW1 HS1 HS2 HKP HLO
          by_cases hkm : k < m
          · obtain ⟨b2, o2, hA2, hbl2, hc2⟩ := num_cell (HZL.out.below hbw1) hkm
            subst hA2
            generalize zs.getD k 0 = z at *
            as_aux_lemma =>
              go_wp2_with fail
              go_meet
              all_goals go_light
              exact ⟨_, rfl, fun _ => hkm, Below.refl _ _⟩
          · have hkm2 : m ≤ k := by omega
            as_aux_lemma =>
              go_wp2_with fail
              go_meet
              all_goals go_light
              exact ⟨_, rfl, (fun h => by cases h), Below.refl _ _⟩
        case rest =>
          obtain ⟨B, rfl, hB, hbx⟩ := hcut
          have hbwx := hbw1.trans (hbx.mono hbw1.size)
          have hblx := Nat.lt_of_lt_of_le hbl hbx.size
          have hclx := range_below HCL.out hbl hbx
          replace HW1 := hid (HW1.out.below hbx)
          replace HS1 := hid (HS1.out.below hbx)
          replace HS2 := hid (HS2.out.below hbx)
          clear HCL
          cases B with
          | true =>
            have hkm := hB rfl
            clear hB HST HRS HVP HVR HTO HLO hbl
            have HCX := hid hclx
            have x2 : wc.cell? ⟨b, off + k * 4 + 2, none⟩ = some (.string (S8 l.leaf)) := hclx 2 _ rfl
            have HXC : Hid (∀ w', Below wc.heap.size wc w' → w'.cell? ⟨b, off + k * 4, none⟩ = some (.int .i64 l.head) ∧ w'.cell? ⟨b, off + k * 4 + 1, none⟩ = some (.string (S8 l.name))) := fun w' hb => ⟨(hb.cell (p := ⟨b, off + k * 4, none⟩) hblx).trans (hclx 0 _ rfl), (hb.cell (p := ⟨b, off + k * 4 + 1, none⟩) hblx).trans (hclx 1 _ rfl)⟩
            obtain ⟨b2, o2, hA2, hbl2, hc2⟩ := num_cell (HZL.out.below hbwx) hkm
            subst hA2
            generalize zs.getD k 0 = z at *
            clear HCX hclx HZL
            go_upto_if 53 with fail
            go_cut [9] (fun s wx => ∃ lf : List UInt8, s = .string (S8 lf) ∧ Below wc.heap.size wc wx)
            case first =>
              as_aux_lemma =>
                go_wp2_with fail
                all_goals go_meet
                all_goals go_light
                · exact ⟨[], rfl, Below.refl _ _⟩
                · exact ⟨l.leaf, rfl, Below.refl _ _⟩
            case rest =>
              obtain ⟨lf, rfl, hbx2⟩ := hcut
              have hbw2 := hbwx.trans (hbx2.mono hbwx.size)
              replace HW1 := hid (HW1.out.below hbx2)
              replace HS1 := hid (HS1.out.below hbx2)
              replace HS2 := hid (HS2.out.below hbx2)
              obtain ⟨x0, x1⟩ := HXC.out _ hbx2
              clear x2 hc2
              have HD1 := hid (fun w' hb => HDL.out C l lf A1 c1 w' HKP.out.2 (hbw2.trans (Below.mono hb hbw2.size)) (HS1.out.below hb))
              have HD2 := hid (fun w' hb => HRD.out C l lf A3 c3 w' HKP.out.2 (hbw2.trans (Below.mono hb hbw2.size)) (HS2.out.below hb))
              have HND : Hid (delE C l.head l.name lf = 0 → Kp (delC C l.head l.name lf)) := fun e => by
                have := kp_del C l.head l.name lf HKP.out
                unfold nextD at this
                rwa [if_pos e] at this
              have hdl : (delC C l.head l.name lf).length ≤ 64 := by
                unfold delC delL
                split
                · exact Nat.le_trans (List.length_filter_le _ _) hlc
                · exact Nat.zero_le _
              have HBX2 : Hid (Below w1.heap.size w1 wc) := hbx.trans (hbx2.mono hbx.size)
              clear HDL HRD HXC
              generalize delC C l.head l.name lf = D at *
              generalize delE C l.head l.name lf = E at *
              iterate 2 (first | go_guarded | go_step | go_upon)
              go_cut [10, 11] (fun d e wx => ∃ A' c', d = .slice A' D.length c' ∧ e = .int .i64 E ∧ Hid (Sl wx 4 (.slice A' D.length c') (LNS D)) ∧ Below wc.heap.size wc wx)
              case first =>
                clear HD2 HFR HSM HW1 HS2
                have hdr : Below wc.heap.size wc wc.drew := (Below.refl _ _).drew
                go_upto_region 11 with fail
                go_region_with (go_at_call 24; refine (HD1.out wc.drew hdr).mono ?_; rintro e w4 ⟨⟨A4, c4, rfl, hs4⟩, hb4⟩)
                all_goals
                  go_wp2_with fail
                  go_meet
                  all_goals go_light
                  exact ⟨A4, c4, rfl, rfl, hid hs4, ((Below.refl _ _).drew).trans hb4⟩
              case rest =>
                obtain ⟨A4, c4, rfl, rfl, HS4, hb4⟩ := hcut
                have y0 := (hb4.cell (p := ⟨b, off + k * 4, none⟩) (Nat.lt_of_lt_of_le hblx hbx2.size)).trans x0
                have y1 := (hb4.cell (p := ⟨b, off + k * 4 + 1, none⟩) (Nat.lt_of_lt_of_le hblx hbx2.size)).trans x1
                have HX4 := hid hb4
                clear x0 x1 HD1
                iterate 2 (first | go_guarded | go_step | go_upon)
                go_cut [12, 13] (fun d e wx => ∃ A' c', d = .slice A' D.length c' ∧ e = .int .i64 E ∧ Hid (Sl wx 4 (.slice A' D.length c') (LNS D)) ∧ Below wc.heap.size wc wx)
                case first =>
                  clear HFR HSM HW1 HS2 HS1
                  have hdr := HX4.out.trans (((Below.refl wc.heap.size wc).drew).mono HX4.out.size)
                  go_upto_region 12 with fail
                  go_region_with (go_at_call 25; refine (HD2.out wc.drew hdr).mono ?_; rintro e w4 ⟨⟨A5, c5, rfl, hs5⟩, hb5⟩)
                  all_goals
                    go_wp2_with fail
                    go_meet
                    all_goals go_light
                    exact ⟨A5, c5, rfl, rfl, hid hs5, ((Below.refl _ _).drew).trans hb5⟩
                case rest =>
                  obtain ⟨A5, c5, rfl, rfl, HS5, hb5⟩ := hcut
                  have HBX5 : Hid (Below w1.heap.size w1 wc) := (HBX2.out.trans (HX4.out.mono HBX2.out.size)).trans (hb5.mono (Nat.le_trans HBX2.out.size HX4.out.size))
                  have HC1 := hid (HS1.out.below (HX4.out.trans (hb5.mono HX4.out.size)))
                  have HC2 := hid (HS2.out.below (HX4.out.trans (hb5.mono HX4.out.size)))
                  replace HS4 := hid (HS4.out.below hb5)
                  have HF4 := hid (HFR.out D A4 c4 _ (by omega) HS4.out)
                  clear y0 y1 HD2 HS1 HS2 HW1 hb4 hb5 HX4 hbx2 hbx hbw2 hbwx HBX2
                  as_aux_lemma =>
                    go_wp2_with fail
                    refine HF4.out.mono ?_
                    rintro e w6 ⟨⟨A6, c6, rfl, hs6⟩, hb6⟩
                    have HM6 := hid (HSM.out D A6 c6 A5 c5 w6 hs6 (HS5.out.below hb6))
                    clear HF4 hs6
                    go_wp2_with fail
                    refine HM6.out.mono ?_
                    rintro e w7 ⟨rfl, hb7⟩
                    have hb67 := hb6.trans (hb7.mono hb6.size)
                    have hbz := HBX5.out.trans (hb67.mono HBX5.out.size)
                    by_cases hE : E = 0
                    · have te : (E == 0) = true := by simpa using hE
                      have HT := hid (HND.out hE)
                      have HT2 : Hid (Two D (.slice A4 D.length c4) (.slice A5 D.length c5) w7) := ⟨HT.out, A4, c4, A5, c5, rfl, rfl, HS4.out.below hb67, HS5.out.below hb67⟩
                      clear hE HM6 hb6 hb7 HT
                      go_wp2_with fail
                      go_meet
                      all_goals go_light
                      exact ⟨D, HT2, hbz⟩
                    · have te : (E == 0) = false := by simpa using hE
                      have HT2 : Hid (Two C (.slice A1 C.length c1) (.slice A3 C.length c3) w7) := ⟨HKP.out, A1, c1, A3, c3, rfl, rfl, HC1.out.below hb67, HC2.out.below hb67⟩
                      clear hE HM6 hb6 hb7
                      go_wp2_with fail
                      go_meet
                      all_goals go_light
                      exact ⟨C, HT2, hbz⟩
          | false =>
            clear hB HDL HRD HVP HVR
            have hsb := sl_sub (n := c - k) hblx hclx (by omega) (by omega)
            have HT1 := hid (HTO.out l _ _ wc hsb)
            have i1 : (k : Int) + 1 ≤ (c : Int) := by omega
            have i2 : k + 1 ≤ c := by omega
            have hw : IntKind.i64.wrap ((k : Int) + 1) = (k : Int) + 1 := by rw [IntKind.wrap_i64]; omega
            have hck : ¬ (c = k) := by omega
            have HND : Hid (setE C l = 0 → Kp (setC C l)) := fun e => by
              have := kp_set C l HKP.out HLO.out
              unfold nextS at this
              rwa [if_pos e] at this
            have hdl : (setC C l).length ≤ 64 := by
              unfold setC
              split
              · rename_i e; exact (setE_ok C l e).2.2.1
              · exact Nat.zero_le _
            clear HTO hsb
            generalize hSD : setC C l = D at *
            generalize hSE : setE C l = E at *
            have HSD := hid hSD
            have HSE := hid hSE
            clear hSD hSE
            go_wp2_with fail
            refine HT1.out.mono ?_
            rintro e w4 ⟨⟨b4, off4, c4, rfl, hbl4, hcl4, hc41⟩, hb4⟩
            have hbw4 := hbwx.trans (hb4.mono hbwx.size)
            have hcl4' := range_below hclx hblx hb4
            have hb4l := Nat.lt_of_lt_of_le hblx hb4.size
            replace HW1 := hid (HW1.out.below hb4)
            replace HS1 := hid (HS1.out.below hb4)
            replace HS2 := hid (HS2.out.below hb4)
            have HBX4 : Hid (Below w1.heap.size w1 w4) := hbx.trans (hb4.mono hbx.size)
            have HD1 := HST.out C l A1 c1 w4 HKP.out.2 HLO.out hbw4 HS1.out
            rw [HSD.out, HSE.out] at HD1
            replace HD1 := hid HD1
            clear HT1 HST hb4 hclx hblx hbx
            go_wp2_with (refine wpList_load_mid rfl 29 (.tmp 108) rfl b4 off4 rfl (lnC l) _ hcl4 Tryz.underlying29 rfl i4 ?_)
            refine HD1.out.mono ?_
            rintro e w5 ⟨⟨A5, c5, rfl, hs5⟩, hb5⟩
            have hbw5 := hbw4.trans (hb5.mono hbw4.size)
            have hcl5 := range_below hcl4' hb4l hb5
            replace HW1 := hid (HW1.out.below hb5)
            replace HS1 := hid (HS1.out.below hb5)
            replace HS2 := hid (HS2.out.below hb5)
            have HS5 := hid hs5
            have HBX5 : Hid (Below w1.heap.size w1 w5) := HBX4.out.trans (hb5.mono HBX4.out.size)
            have HR1 := HRS.out C l A3 c3 w5 HKP.out.2 HLO.out hbw5 HS2.out
            rw [HSD.out, HSE.out] at HR1
            replace HR1 := hid HR1
            clear HD1 HRS hb5 hcl4 hcl4' hs5 HBX4 HSD HSE hbw4
            go_wp2_with (refine wpList_load_mid rfl 48 (.tmp 117) rfl b (off + k * 4) rfl (lnC l) _ hcl5 Tryz.underlying48 rfl k4 ?_)
            refine HR1.out.mono ?_
            rintro e w6 ⟨⟨A6, c6, rfl, hs6⟩, hb6⟩
            replace HW1 := hid (HW1.out.below hb6)
            replace HS1 := hid (HS1.out.below hb6)
            replace HS2 := hid (HS2.out.below hb6)
            replace HS5 := hid (HS5.out.below hb6)
            have HS6 := hid hs6
            have HBX6 : Hid (Below w1.heap.size w1 w6) := HBX5.out.trans (hb6.mono HBX5.out.size)
            have HF6 := hid (HFR.out D A5 c5 w6 (by omega) HS5.out)
            clear HR1 hcl5 hb6 hs6 HBX5 hbw5
            as_aux_lemma =>
              go_wp2_with fail
              refine HF6.out.mono ?_
              rintro e w7 ⟨⟨A7, c7, rfl, hs7⟩, hb7⟩
              have HM7 := hid (HSM.out D A7 c7 A6 c6 w7 hs7 (HS6.out.below hb7))
              clear HF6 hs7
              go_wp2_with fail
              refine HM7.out.mono ?_
              rintro e w8 ⟨rfl, hb8⟩
              have hb68 := hb7.trans (hb8.mono hb7.size)
              have HF8 := hid (HFR.out C A1 c1 w8 (by omega) (HS1.out.below hb68))
              clear HM7 hb7 hb8
              go_wp2_with fail
              refine HF8.out.mono ?_
              rintro e w9 ⟨⟨A9, c9, rfl, hs9⟩, hb9⟩
              have hb69 := hb68.trans (hb9.mono hb68.size)
              have HM9 := hid (HSM.out C A9 c9 Aw cw w9 hs9 (HW1.out.below hb69))
              clear HF8 hs9 hb9 hb68
              go_wp2_with fail
              refine HM9.out.mono ?_
              rintro e w10 ⟨rfl, hb10⟩
              have hb610 := hb69.trans (hb10.mono hb69.size)
              have hbz := HBX6.out.trans (hb610.mono HBX6.out.size)
              clear HM9 hb69 hb10
              by_cases hE : E = 0
              · have te : (E == 0) = true := by simpa using hE
                have HT := hid (HND.out hE)
                have HT2 : Hid (Two D (.slice A5 D.length c5) (.slice A6 D.length c6) w10) := ⟨HT.out, A5, c5, A6, c6, rfl, rfl, HS5.out.below hb610, HS6.out.below hb610⟩
                clear hE HT
                go_wp2_with fail
                go_meet
                all_goals go_light
                exact ⟨D, HT2, hbz⟩
              · have te : (E == 0) = false := by simpa using hE
                have HT2 : Hid (Two C (.slice A1 C.length c1) (.slice A3 C.length c3) w10) := ⟨HKP.out, A1, c1, A3, c3, rfl, rfl, HS1.out.below hb610, HS2.out.below hb610⟩
                clear hE
                go_wp2_with fail
                go_meet
                all_goals go_light
                exact ⟨C, HT2, hbz⟩
      case rest =>
        obtain ⟨D, HT, hbx⟩ := hcut
        obtain ⟨hkp, A5, c5, A6, c6, rfl, rfl, hs5, hs6⟩ := HT.out
        have hbwx := hbw1.trans (hbx.mono hbw1.size)
        have hblx := Nat.lt_of_lt_of_le hbl hbx.size
        have hclx := range_below HCL.out hbl hbx
        have y0 := fun z : WK (fun _ => False) wc => (wat_cell (p := ⟨b, off + k * 4, none⟩) hblx (by simp) z).trans (hclx 0 _ rfl)
        have y1 := fun z : WK (fun _ => False) wc => (wat_cell (p := ⟨b, off + k * 4 + 1, none⟩) hblx (by simp) z).trans (hclx 1 _ rfl)
        have y2 := fun z : WK (fun _ => False) wc => (wat_cell (p := ⟨b, off + k * 4 + 2, none⟩) hblx (by simp) z).trans (hclx 2 _ rfl)
        have HV1 := hid (fun w' (hb : Below wc.heap.size wc w') => HVP.out D l A5 c5 w' hkp.2 (hbwx.trans (hb.mono hbwx.size)) (hs5.below hb))
        have HV2 := hid (fun w' (hb : Below wc.heap.size wc w') => HVR.out D l A6 c6 w' hkp.2 (hbwx.trans (hb.mono hbwx.size)) (hs6.below hb))
        clear HFR HSM HDL HRD HST HRS HVP HVR HTO HCL HW1 HS1 HS2 hkp hs5 hs6 hbl hclx
        obtain ⟨nD, hnD⟩ : ∃ nD, nD = D.length := ⟨_, rfl⟩
        generalize valC D l.head l.name l.leaf = V at *
        have qv : (!((S8 V).toList == (S8 V).toList)) = false := by simp
        go_upto_region 23 with fail
        refine wp_region_loud (fun _ => False) [(16, plainL [] (.string (S8 V))), (33, plainL [] (.string (S8 V)))] (fun _ => Fact.none) (by kernel_rfl) (by kernel_rfl) (.cons (plainL_ok _ _) (.cons (plainL_ok _ _) .nil)) good_nothing sat_none (WX.out ?_)
        repeat (first | (refine wx_quietU (by rfl) (by rfl) (by rfl) (fun K hK => ?_); go_big_quiet_op; refine hK _ ?_; clear hK K) | (refine wx_quietG (by rfl) (by rfl) (by rfl) (by rfl) (by rfl) (fun K hK => ?_); go_big_quiet_op; refine hK _ ?_; clear hK K) | (refine wx_skipG (by rfl) (by rfl) (by rfl) (fun K hK => ?_); go_simp; refine hK _ ?_; clear hK K) | (refine wx_skipN (by rfl) (by rfl) (by rfl) (fun K hK => ?_); go_simp; refine hK _ ?_; clear hK K))
        refine wx_loudU (us := []) (by rfl) (by rfl) (fun S wS hC hS hU => runs_enter (f := 16) (by go_simp <;> rfl) ?_) (fun v hv K hK => ?_)
        · refine (HV1.out wS hC.below).mono ?_
          rintro e w' ⟨rfl, hb⟩
          exact ⟨_, rfl, rfl, Kept.of_below hb, trivial⟩
        obtain rfl := hv; (go_simp; refine hK _ ?_; clear hK K)
        repeat (first | (refine wx_quietU (by rfl) (by rfl) (by rfl) (fun K hK => ?_); go_big_quiet_op; refine hK _ ?_; clear hK K) | (refine wx_quietG (by rfl) (by rfl) (by rfl) (by rfl) (by rfl) (fun K hK => ?_); go_big_quiet_op; refine hK _ ?_; clear hK K) | (refine wx_skipG (by rfl) (by rfl) (by rfl) (fun K hK => ?_); go_simp; refine hK _ ?_; clear hK K) | (refine wx_skipN (by rfl) (by rfl) (by rfl) (fun K hK => ?_); go_simp; refine hK _ ?_; clear hK K))
        refine wx_loudU (us := []) (by rfl) (by rfl) (fun S wS hC hS hU => runs_enter (f := 28) (by go_simp <;> rfl) ?_) (fun v hv K hK => ?_)
        · refine (HV2.out wS hC.below).mono ?_
          rintro e w' ⟨rfl, hb⟩
          exact ⟨_, rfl, rfl, Kept.of_below hb, trivial⟩
        obtain rfl := hv; (go_simp; refine hK _ ?_; clear hK K)
        repeat (first | (refine wx_quietU (by rfl) (by rfl) (by rfl) (fun K hK => ?_); go_big_quiet_op; refine hK _ ?_; clear hK K) | (refine wx_quietG (by rfl) (by rfl) (by rfl) (by rfl) (by rfl) (fun K hK => ?_); go_big_quiet_op; refine hK _ ?_; clear hK K) | (refine wx_skipG (by rfl) (by rfl) (by rfl) (fun K hK => ?_); go_simp; refine hK _ ?_; clear hK K) | (refine wx_skipN (by rfl) (by rfl) (by rfl) (fun K hK => ?_); go_simp; refine hK _ ?_; clear hK K))
        refine wx_nil fun w9 hsat => ?_
        have hb9 := sat_below hsat
        clear hsat y0 y1 y2 HV1 HV2
        have HT9 : Hid (Two D (.slice A5 D.length c5) (.slice A6 D.length c6) w9) := by
          obtain ⟨g1, _, _, _, _, g2, g3, g4, g5⟩ := HT.out
          injection g2 with g6 g7 g8
          injection g3 with g9 g10 g11
          subst g6; subst g8; subst g9; subst g11
          exact ⟨g1, _, _, _, _, rfl, rfl, g4.below hb9, g5.below hb9⟩
        clear HT
        have hbz := hbwx.trans (hb9.mono hbwx.size)
        go_wp2_with fail
        go_light
        exact ⟨⟨k + 1, D, by omega, by omega, by go_num, HT9, hbz⟩, by simp [intOf]; omega⟩
    · have HNP : Hid (∀ (h : Int) w', Below wr.heap.size wr w' → Calls Tryz.prog 17 #[.slice A1 C.length c1, .int .i64 h] w' fun e w'' => NamPost w'.heap.size (namC C h) e w'' ∧ Below w'.heap.size w' w'') := fun h w' hb => Names_any C h A1 C.length c1 w' (HS1.out.below hb) HKP.out.2 (HEN.out w' (hbr.trans (hb.mono hbr.size)))
      have HNR : Hid (∀ (h : Int) w', Below wr.heap.size wr w' → Calls Tryz.prog 30 #[.slice A3 C.length c3, .int .i64 h] w' fun e w'' => NamPost w'.heap.size (namC C h) e w'' ∧ Below w'.heap.size w' w'') := fun h w' hb => refNames_any C h A3 C.length c3 w' (HS2.out.below hb) HKP.out.2 (HEN.out w' (hbr.trans (hb.mono hbr.size)))
      have HTP : Hid (∀ w', Below wr.heap.size wr w' → Calls Tryz.prog 31 #[.slice A1 C.length c1] w' fun e w'' => e = .returned (.string (S8 (textC C))) ∧ Below w'.heap.size w' w'') := fun w' hb => Text_any C A1 C.length c1 w' (HS1.out.below hb) HKP.out.2 (HEN.out w' (hbr.trans (hb.mono hbr.size)))
      have HTR : Hid (∀ w', Below wr.heap.size wr w' → Calls Tryz.prog 32 #[.slice A3 C.length c3] w' fun e w'' => e = .returned (.string (S8 (textC C))) ∧ Below w'.heap.size w' w'') := fun w' hb => refText_any C A3 C.length c3 w' (HS2.out.below hb) HKP.out.2 (HEN.out w' (hbr.trans (hb.mono hbr.size)))
      have HRC : Hid (∀ w', Below wr.heap.size wr w' → Calls Tryz.prog 33 #[.slice A1 C.length c1] w' fun e w'' => e = .returned (.bool true) ∧ Below w'.heap.size w' w'') := fun w' hb => by
        have := Right_any C A1 C.length c1 w' (HS1.out.below hb) HKP.out.2 (HEN.out w' (hbr.trans (hb.mono hbr.size)))
        rwa [HKP.out.1] at this
      have HWR : Hid (∀ w', Below wr.heap.size wr w' → Calls Tryz.prog 15 #[] w' fun e w'' => e = .returned (.bool true) ∧ Below w'.heap.size w' w'') := fun w' hb => writes_any w' (HEN.out w' (hbr.trans (hb.mono hbr.size)))
      have HFI : Hid (∀ w', Below wr.heap.size wr w' → Below w.heap.size w w') := fun w' hb => hbr.trans (hb.mono hbr.size)
      clear HFR HSL HZL HOK HSM HDL HRD HST HRS HVP HVR HTO HKP HS1 HS2 HEN hlc hbr
      generalize textC C = TX at *
      have qx : ((S8 TX).toList == (S8 TX).toList) = true := by simp
      by_cases hkn : k < n
      · obtain rfl : k = 80 := by omega
        clear hlt
        as_aux_lemma =>
          go_wp2_with fail
          go_loopw [18] (fun i wq => ∃ z : Int, -1 ≤ z ∧ z ≤ 4 ∧ i = .int .i64 z ∧ Below wr.heap.size wr wq) (fun i _ => (4 - intOf i).toNat)
          case atStart => exact ⟨-1, by omega, by omega, rfl, Below.refl _ _⟩
          case round =>
            obtain ⟨z, hz1, hz2, rfl, hbq⟩ := hrel
            by_cases hz : z < 4
            · have HN1 := hid (HNP.out z _ hbq)
              have HN2 := hid (HNR.out z)
              clear HTP HTR HRC HWR HNP HNR
              generalize namC C z = NL at *
              go_wp2_with fail
              refine HN1.out.mono ?_
              rintro e w4 ⟨⟨A4, c4, rfl, ho4⟩, hb4⟩
              have hbw4 := hbq.trans (hb4.mono hbq.size)
              have HN3 := hid (HN2.out w4 hbw4)
              have HS4 := hid (own_sl ho4)
              clear HN1 HN2 hb4 hbq ho4
              go_wp2_with fail
              refine HN3.out.mono ?_
              rintro e w5 ⟨⟨A5, c5, rfl, ho5⟩, hb5⟩
              have hbw5 := hbw4.trans (hb5.mono hbw4.size)
              have HM := same3_any A4 NL.length c4 A5 NL.length c5 NL NL w5 (HS4.out.below hb5) (own_sl ho5)
              rw [decide_eq_true rfl] at HM
              replace HM := hid HM
              clear HN3 hb5 hbw4 ho5
              go_wp2_with fail
              refine HM.out.mono ?_
              rintro e w6 ⟨rfl, hb6⟩
              have hbw6 := hbw5.trans (hb6.mono hbw5.size)
              clear HM hb6 hbw5
              go_wp2_with fail
              go_light
              exact ⟨⟨z + 1, by omega, by omega, by go_num, hbw6⟩, by simp [intOf]; omega⟩
            · obtain rfl : z = 4 := by omega
              have HW1 := hid (HWR.out _ hbq)
              clear HNP HNR HWR
              go_wp2_with fail
              refine HW1.out.mono ?_
              rintro e w4 ⟨rfl, hb4⟩
              have hbw4 := hbq.trans (hb4.mono hbq.size)
              have HT1 := hid (HTP.out w4 hbw4)
              clear HW1 hb4 hbq HTP
              go_wp2_with fail
              refine HT1.out.mono ?_
              rintro e w5 ⟨rfl, hb5⟩
              have hbw5 := hbw4.trans (hb5.mono hbw4.size)
              have HT2 := hid (HTR.out w5 hbw5)
              clear HT1 hb5 hbw4 HTR
              go_wp2_with fail
              refine HT2.out.mono ?_
              rintro e w6 ⟨rfl, hb6⟩
              have hbw6 := hbw5.trans (hb6.mono hbw5.size)
              have HT3 := hid (HRC.out w6 hbw6)
              clear HT2 hb6 hbw5 HRC
              go_wp2_with fail
              refine HT3.out.mono ?_
              rintro e w7 ⟨rfl, hb7⟩
              have hbw7 := HFI.out w7 (hbw6.trans (hb7.mono hbw6.size))
              clear HT3 hb7 hbw6 HFI
              go_wp2_with fail
              go_ret
              exact ⟨rfl, hbw7⟩
      · obtain rfl : k = n := by omega
        clear hlt
        as_aux_lemma =>
          go_wp2_with fail
          go_loopw [18] (fun i wq => ∃ z : Int, -1 ≤ z ∧ z ≤ 4 ∧ i = .int .i64 z ∧ Below wr.heap.size wr wq) (fun i _ => (4 - intOf i).toNat)
          case atStart => exact ⟨-1, by omega, by omega, rfl, Below.refl _ _⟩
          case round =>
            obtain ⟨z, hz1, hz2, rfl, hbq⟩ := hrel
            by_cases hz : z < 4
            · have HN1 := hid (HNP.out z _ hbq)
              have HN2 := hid (HNR.out z)
              clear HTP HTR HRC HWR HNP HNR
              generalize namC C z = NL at *
              go_wp2_with fail
              refine HN1.out.mono ?_
              rintro e w4 ⟨⟨A4, c4, rfl, ho4⟩, hb4⟩
              have hbw4 := hbq.trans (hb4.mono hbq.size)
              have HN3 := hid (HN2.out w4 hbw4)
              have HS4 := hid (own_sl ho4)
              clear HN1 HN2 hb4 hbq ho4
              go_wp2_with fail
              refine HN3.out.mono ?_
              rintro e w5 ⟨⟨A5, c5, rfl, ho5⟩, hb5⟩
              have hbw5 := hbw4.trans (hb5.mono hbw4.size)
              have HM := same3_any A4 NL.length c4 A5 NL.length c5 NL NL w5 (HS4.out.below hb5) (own_sl ho5)
              rw [decide_eq_true rfl] at HM
              replace HM := hid HM
              clear HN3 hb5 hbw4 ho5
              go_wp2_with fail
              refine HM.out.mono ?_
              rintro e w6 ⟨rfl, hb6⟩
              have hbw6 := hbw5.trans (hb6.mono hbw5.size)
              clear HM hb6 hbw5
              go_wp2_with fail
              go_light
              exact ⟨⟨z + 1, by omega, by omega, by go_num, hbw6⟩, by simp [intOf]; omega⟩
            · obtain rfl : z = 4 := by omega
              have HW1 := hid (HWR.out _ hbq)
              clear HNP HNR HWR
              go_wp2_with fail
              refine HW1.out.mono ?_
              rintro e w4 ⟨rfl, hb4⟩
              have hbw4 := hbq.trans (hb4.mono hbq.size)
              have HT1 := hid (HTP.out w4 hbw4)
              clear HW1 hb4 hbq HTP
              go_wp2_with fail
              refine HT1.out.mono ?_
              rintro e w5 ⟨rfl, hb5⟩
              have hbw5 := hbw4.trans (hb5.mono hbw4.size)
              have HT2 := hid (HTR.out w5 hbw5)
              clear HT1 hb5 hbw4 HTR
              go_wp2_with fail
              refine HT2.out.mono ?_
              rintro e w6 ⟨rfl, hb6⟩
              have hbw6 := hbw5.trans (hb6.mono hbw5.size)
              have HT3 := hid (HRC.out w6 hbw6)
              clear HT2 hb6 hbw5 HRC
              go_wp2_with fail
              refine HT3.out.mono ?_
              rintro e w7 ⟨rfl, hb7⟩
              have hbw7 := HFI.out w7 (hbw6.trans (hb7.mono hbw6.size))
              clear HT3 hb7 hbw6 HFI
              go_wp2_with fail
              go_ret
              exact ⟨rfl, hbw7⟩
end CF
end Go.Proofs.YtecfkhgocjbocaaGreatDoor
