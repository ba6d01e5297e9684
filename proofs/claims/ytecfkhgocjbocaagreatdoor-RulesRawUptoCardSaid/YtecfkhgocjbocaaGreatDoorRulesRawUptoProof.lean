/-
  Layer 8's law: RulesRaw.
  The statement RulesRaw: of lines that cannot be a configuration nothing is told; of all faults the text. The second form: arguments of bulk at most 1048576.
-/
import Derived.Test.YtecfkhgocjbocaaGreatDoorRtZ
import Derived.Test.YtecfkhgocjbocaaGreatDoorRows
import Derived.Test.YtecfkhgocjbocaaGreatDoorCards
import Derived.Test.YtecfkhgocjbocaaGreatDoorTie
import Derived.WalkKit
import Derived.ProofKit
import Derived.OpenShut
import Derived.ShutString
import Derived.ChangeOld
import Derived.Below
import Derived.SizedLaws
import Derived.Lay
import Derived.LaidLaws
import Derived.LaidSub
import Derived.MakeChecks
import Derived.Lib.LaidTab
import Derived.Deep.DeepHandedRow
import Derived.LaidOnce
import Derived.SevenTiedAt
namespace Go.Proofs.YtecfkhgocjbocaaGreatDoor
set_option linter.unusedVariables false
set_option linter.unusedSimpArgs false
open Go Go.RowKit

namespace RL
open CF
theorem sl_take8 {w : World} {A : Option Addr} {n c : Nat} {L : List Ln} (h : Sl w 4 (.slice A n c) (LNS L)) (k : Nat) (hk : k ≤ n) : Sl w 4 (.slice A k c) (LNS (L.take k)) := by
  have hl := (sl_lns h).1
  obtain ⟨A', n', c', he, _, hnc, hcm, hr⟩ := h
  injection he with e1 e2 e3
  subst e1; subst e2; subst e3
  refine ⟨_, _, _, rfl, by rw [LNS_length, List.length_take]; omega, by omega, hcm, fun h0 => ?_⟩
  obtain ⟨b, off, rfl, hlt, hc⟩ := hr (by omega)
  refine ⟨b, off, rfl, hlt, fun i hi => ?_⟩
  rw [hc i (by omega)]
  have e : LNS L = LNS (L.take k) ++ LNS (L.drop k) := by rw [← LNS_append, List.take_append_drop]
  rw [e, List.getElem?_append_left (by rw [LNS_length, List.length_take]; omega)]
theorem sl_takeF {w : World} {A : Option Addr} {n c : Nat} {L : List Ft} (h : Sl w 2 (.slice A n c) (FTS L)) (k : Nat) (hk : k ≤ n) : Sl w 2 (.slice A k c) (FTS (L.take k)) := by
  have hl := (sl_fts h).1
  obtain ⟨A', n', c', he, _, hnc, hcm, hr⟩ := h
  injection he with e1 e2 e3
  subst e1; subst e2; subst e3
  refine ⟨_, _, _, rfl, by rw [FTS_length, List.length_take]; omega, by omega, hcm, fun h0 => ?_⟩
  obtain ⟨b, off, rfl, hlt, hc⟩ := hr (by omega)
  refine ⟨b, off, rfl, hlt, fun i hi => ?_⟩
  rw [hc i (by omega)]
  have e : FTS L = FTS (L.take k) ++ FTS (L.drop k) := by rw [← FTS_append, List.take_append_drop]
  rw [e, List.getElem?_append_left (by rw [FTS_length, List.length_take]; omega)]
theorem FTS_take (C : List Ft) (k : Nat) (hk : k < C.length) : FTS (C.take (k + 1)) = FTS (C.take k) ++ FTS [RS.nth C k] := by
  rw [← FTS_append, List.take_succ_eq_append_getElem hk, ← RS.nth_get hk]
theorem Check_code (C : List Ln) (A : Option Addr) (n c : Nat) (w : World) (hsl : Sl w 4 (.slice A n c) (LNS C)) (hC : ∀ l ∈ C, LnOk l) (hen : Env w) :
    Calls Tryz.prog 36 #[.slice A n c] w fun e w' => (∃ v, e = .returned (.tuple #[v, .int .i64 (if RightC C = true then 0 else 1)])) ∧ Below w.heap.size w w' := by
  cases hr : RightC C with
  | true =>
    refine (Check_yes C A n c w hsl hC hen hr).mono ?_
    rintro e w' ⟨⟨Ao, co, rfl, _⟩, hb⟩
    exact ⟨⟨_, rfl⟩, hb⟩
  | false =>
    refine (Check_no C A n c w hsl hC hen hr).mono ?_
    rintro e w' ⟨rfl, hb⟩
    exact ⟨⟨_, rfl⟩, hb⟩
set_option maxRecDepth 100000 in
set_option maxHeartbeats 6000000 in
theorem rulesRaw_walk (L : List Ln) (A : Option Addr) (n c : Nat) (F : List Ft) (A2 : Option Addr) (n2 c2 : Nat) (w : World) (h : Sl w 4 (.slice A n c) (LNS L)) (hL : ∀ l ∈ L, LnOk l) (h2 : Sl w 2 (.slice A2 n2 c2) (FTS F)) (hF : ∀ f ∈ F, f.name.length ≤ 2000000) (hen : Env w) :
    Calls Tryz.prog 8 #[.slice A n c, .slice A2 n2 c2] w fun e w' => e = .returned (.bool true) ∧ Below w.heap.size w w' := by
  obtain ⟨hl1, hc1, hc2⟩ := sl_lns h
  obtain ⟨hl2, hd1, hd2⟩ := sl_fts h2
  have HEN : Hid (∀ w', Below w.heap.size w w' → Env w') := fun w' hb => hen.below hb
  have HT : Hid (∀ m, m ≤ n → ∀ w', Below w.heap.size w w' → Sl w' 4 (.slice A m c) (LNS (L.take m))) := fun m hm w' hb => (sl_take8 h m hm).below hb
  have HT2 : Hid (∀ m, m ≤ n2 → ∀ w', Below w.heap.size w w' → Sl w' 2 (.slice A2 m c2) (FTS (F.take m))) := fun m hm w' hb => (sl_takeF h2 m hm).below hb
  have HOK : Hid (∀ m, ∀ l ∈ L.take m, LnOk l) := fun m l hl => hL l (List.mem_of_mem_take hl)
  have HOF : Hid (∀ m, ∀ f ∈ F.take m, f.name.length ≤ 2000000) := fun m f hf => hF f (List.mem_of_mem_take hf)
  clear h hL hen h2 hF
  go_enter Tryz.func8, Tryz.ntmps8
  go_upto_region 1 with fail
  go_cut [0, 1] (fun s s2 wx => ∃ m m2 : Nat, m ≤ n ∧ m ≤ 20 ∧ m2 ≤ n2 ∧ m2 ≤ 20 ∧ s = .slice A m c ∧ s2 = .slice A2 m2 c2 ∧ Below w.heap.size w wx)
  case first =>
    by_cases hn : n ≤ 20
    · by_cases hn2 : n2 ≤ 20
      ·
        as_aux_lemma =>
          go_big_region
          all_goals go_wp2_with fail
          all_goals go_meet
          all_goals go_light
          exact ⟨n, n2, by omega, by omega, by omega, by omega, by rw [show (min (n : Int) 20).toNat = n by omega], by rw [show (min (n2 : Int) 20).toNat = n2 by omega], (Below.refl _ _).drew⟩
      ·
        as_aux_lemma =>
          go_big_region
          all_goals go_wp2_with fail
          all_goals go_meet
          all_goals go_light
          exact ⟨n, 20, by omega, by omega, by omega, by omega, by rw [show (min (n : Int) 20).toNat = n by omega], by rw [show (min (n2 : Int) 20).toNat = 20 by omega], (Below.refl _ _).drew⟩
    · by_cases hn2 : n2 ≤ 20
      ·
        as_aux_lemma =>
          go_big_region
          all_goals go_wp2_with fail
          all_goals go_meet
          all_goals go_light
          exact ⟨20, n2, by omega, by omega, by omega, by omega, by rw [show (min (n : Int) 20).toNat = 20 by omega], by rw [show (min (n2 : Int) 20).toNat = n2 by omega], (Below.refl _ _).drew⟩
      ·
        as_aux_lemma =>
          go_big_region
          all_goals go_wp2_with fail
          all_goals go_meet
          all_goals go_light
          exact ⟨20, 20, by omega, by omega, by omega, by omega, by rw [show (min (n : Int) 20).toNat = 20 by omega], by rw [show (min (n2 : Int) 20).toNat = 20 by omega], (Below.refl _ _).drew⟩
  case rest =>
    obtain ⟨m, m2, hm, hm20, hm2, hm220, rfl, rfl, hbc⟩ := hcut
    obtain ⟨M, hM⟩ : ∃ M, M = L.take m := ⟨_, rfl⟩
    obtain ⟨G, hG⟩ : ∃ G, G = F.take m2 := ⟨_, rfl⟩
    have HS : Hid (∀ w', Below w.heap.size w w' → Sl w' 4 (.slice A m c) (LNS M)) := by rw [hM]; exact HT.out m hm
    have HS2 : Hid (∀ w', Below w.heap.size w w' → Sl w' 2 (.slice A2 m2 c2) (FTS G)) := by rw [hG]; exact HT2.out m2 hm2
    have HOM : Hid (∀ l ∈ M, LnOk l) := by rw [hM]; exact HOK.out m
    have HOG : Hid (∀ f ∈ G, f.name.length ≤ 2000000) := by rw [hG]; exact HOF.out m2
    have hMl : M.length = m := by rw [hM, List.length_take]; omega
    have hGl : G.length = m2 := by rw [hG, List.length_take]; omega
    have HTO := hid (to_any M A m c wc (HS.out wc hbc) (by omega))
    have HGL := hid hGl
    clear HT HT2 HOK HOF hM hG hl1 hl2 hMl hGl
    go_wp2_with fail
    refine HTO.out.mono ?_
    rintro e w1 ⟨A1, c1, rfl, ho1, hb1⟩
    have hbw1 := hbc.trans (hb1.mono hbc.size)
    have HCK := hid (Check_code M A1 m c1 w1 (own_sl ho1) HOM.out (HEN.out w1 hbw1))
    obtain ⟨code, hcode⟩ : ∃ z : Int, z = if RightC M = true then 0 else 1 := ⟨_, rfl⟩
    rw [← hcode] at HCK
    have HCO := hid hcode
    clear HTO ho1 hb1 hbc hcode
    go_wp2_with fail
    refine HCK.out.mono ?_
    rintro e w2 ⟨⟨vf, rfl⟩, hb2⟩
    have hbw2 := hbw1.trans (hb2.mono hbw1.size)
    clear HCK hbw1 hb2
    go_wp2_with fail
    have HTK : Hid (∀ k < m2, FTS (G.take (k + 1)) = FTS (G.take k) ++ FTS [RS.nth G k]) := fun k hk => FTS_take G k (by have := HGL.out; omega)
    have HTZ : Hid (FTS (G.take m2) = FTS G) := by show _ = _; rw [List.take_of_length_le (by have := HGL.out; omega)]
    have HSL := hid (HS2.out w2 hbw2)
    have HBW2 := hid hbw2
    clear hbw2
    go_loopw [7, 8] (fun v i wr => ∃ (k : Nat) (A1 : Option Addr) (c1 : Nat), k ≤ m2 ∧ i = .int .i64 k ∧ v = .slice A1 k c1 ∧ wr.ownsRow w2.heap.size 75 2 (.slice A1 k c1) k (FTS (G.take k)) ∧ Below w2.heap.size w2 wr) (fun _ i _ => m2 - (intOf i).toNat)
    case atStart => exact ⟨0, none, 0, Nat.zero_le _, rfl, rfl, own_nilE _ _ _ _, Below.refl _ _⟩
    case round =>
      obtain ⟨k, A3, c3, hk, rfl, rfl, ho, hbr⟩ := hrel
      by_cases hlt : k < m2
      · obtain ⟨b, off, rfl, hbl, hcl⟩ := sl_ft HSL.out hlt
        have hcr := range_below hcl hbl hbr
        have hszr := hbr.size
        have HTK1 := hid (HTK.out k hlt)
        clear HTK HTZ hcl HS HS2
        generalize RS.nth G k = x at *
        generalize FTS (G.take k) = R at *
        have hnb : ¬ (fun g => Value.ownBlock (.slice A3 k c3) = some g) b := fun e => by have := ownF_ge ho b e; omega
        have y0 := fun (z : WK (fun g => Value.ownBlock (.slice A3 k c3) = some g) wr) => (wat_cell (p := ⟨b, off + k * 2, none⟩) (Nat.lt_of_lt_of_le hbl hszr) hnb z).trans (hcr 0 _ rfl)
        have y1 := fun (z : WK (fun g => Value.ownBlock (.slice A3 k c3) = some g) wr) => (wat_cell (p := ⟨b, off + k * 2 + 1, none⟩) (Nat.lt_of_lt_of_le hbl hszr) hnb z).trans (hcr 1 _ rfl)
        have HBL := hid (ft_built x.kind (S8 x.name))
        obtain ⟨Lx, hLx⟩ : ∃ z, z = FTS [x] := ⟨_, rfl⟩
        obtain ⟨vx, hvx⟩ : ∃ z, z = ftV x := ⟨_, rfl⟩
        rw [show (#[.int .i64 x.kind, .string (S8 x.name)] : Array Value) = ftV x from rfl, ← hvx] at HBL
        rw [← hLx] at HTK1
        have HVX : Hid (vx = Lx.toArray) := by show _ = _; rw [hvx, hLx]; rfl
        have HL4 : Hid (Lx.length = 1 * 2) := by show _ = _; rw [hLx]; rfl
        have HO1 : Hid (∀ u ∈ Lx, u.oneCell' = true) := by rw [hLx]; exact FTS_one _
        clear hLx hvx hcr hnb
        have hbase := hbr.size
        go_upto_region 7 with fail
        refine wp_region_loud (fun g => Value.ownBlock (.slice A3 k c3) = some g) [(11, plainL [] (.agg vx)), (12, rowL [] w2.heap.size 75 2 1 Lx), (13, rowL [100, 12] w2.heap.size 75 2 (k + 1) (FTS (G.take (k + 1))))]
          (labelled 100 (OwnF w2.heap.size 75 2 k R (.slice A3 k c3))) (by kernel_rfl) (by kernel_rfl)
          (.cons (plainL_ok _ _) (.cons (rowL_ok _ _ _ _ _ _) (.cons (rowL_ok _ _ _ _ _ _) .nil))) (good_one 100 (good_own _ _ _ _ _ _)) (sat_one 100 _ (ownF_lt ho) (ownF_in ho)) (WX.out ?_)
        repeat (first | (refine wx_quietU (by rfl) (by rfl) (by rfl) (fun K hK => ?_); go_big_quiet_op; refine hK _ ?_; clear hK K) | (refine wx_quietG (by rfl) (by rfl) (by rfl) (by rfl) (by rfl) (fun K hK => ?_); go_big_quiet_op; refine hK _ ?_; clear hK K) | (refine wx_skipG (by rfl) (by rfl) (by rfl) (fun K hK => ?_); go_simp; refine hK _ ?_; clear hK K) | (refine wx_skipN (by rfl) (by rfl) (by rfl) (fun K hK => ?_); go_simp; refine hK _ ?_; clear hK K))
        refine wx_loudU (us := []) (by rfl) (by rfl) (fun S wS hC hS hU => ?_) (fun v hv K hK => ?_)
        · exact runs_buildV 75 [(0, .tmp 36), (1, .tmp 41)] rfl [(0, .int .i64 x.kind), (1, .string (S8 x.name))] rfl vx HBL.out ⟨rfl, Kept.refl _ _, trivial⟩
        obtain rfl := hv; (go_simp; refine hK _ ?_; clear hK K)
        repeat (first | (refine wx_quietU (by rfl) (by rfl) (by rfl) (fun K hK => ?_); go_big_quiet_op; refine hK _ ?_; clear hK K) | (refine wx_quietG (by rfl) (by rfl) (by rfl) (by rfl) (by rfl) (fun K hK => ?_); go_big_quiet_op; refine hK _ ?_; clear hK K) | (refine wx_skipG (by rfl) (by rfl) (by rfl) (fun K hK => ?_); go_simp; refine hK _ ?_; clear hK K) | (refine wx_skipN (by rfl) (by rfl) (by rfl) (fun K hK => ?_); go_simp; refine hK _ ?_; clear hK K))
        refine wx_loudU (us := []) (by rfl) (by rfl) (fun S wS hC hS hU => ?_) (fun v hv K hK => ?_)
        · exact runs_build1 st_ft (.tmp 42) rfl vx rfl (by rw [HVX.out]; simp [HL4.out]) (by omega) (by omega) (made_x rfl (Nat.le_trans hbase hC.size) HVX.out HL4.out (by omega) (by omega))
        obtain ⟨A9, c9, rfl⟩ := hv; (go_simp; refine hK _ ?_; clear hK K)
        repeat (first | (refine wx_quietU (by rfl) (by rfl) (by rfl) (fun K hK => ?_); go_big_quiet_op; refine hK _ ?_; clear hK K) | (refine wx_quietG (by rfl) (by rfl) (by rfl) (by rfl) (by rfl) (fun K hK => ?_); go_big_quiet_op; refine hK _ ?_; clear hK K) | (refine wx_skipG (by rfl) (by rfl) (by rfl) (fun K hK => ?_); go_simp; refine hK _ ?_; clear hK K) | (refine wx_skipN (by rfl) (by rfl) (by rfl) (fun K hK => ?_); go_simp; refine hK _ ?_; clear hK K))
        refine wx_loudU (us := [100, 12]) (by rfl) (by rfl) (fun S wS hC hS hU => ?_) (fun v hv K hK => ?_)
        · exact appS_x (.tmp 31) (.tmp 43) st_ft (by rfl) (by rfl) (by rfl) (hU 100 (by simp)) (own_sl (hU 12 (by simp)).2) HO1.out (by simp [maxLen]; omega) (by omega) (Nat.le_trans hbase hC.size) HTK1.out
        obtain ⟨A8, c8, rfl⟩ := hv; (go_simp; refine hK _ ?_; clear hK K)
        repeat (first | (refine wx_quietU (by rfl) (by rfl) (by rfl) (fun K hK => ?_); go_big_quiet_op; refine hK _ ?_; clear hK K) | (refine wx_quietG (by rfl) (by rfl) (by rfl) (by rfl) (by rfl) (fun K hK => ?_); go_big_quiet_op; refine hK _ ?_; clear hK K) | (refine wx_skipG (by rfl) (by rfl) (by rfl) (fun K hK => ?_); go_simp; refine hK _ ?_; clear hK K) | (refine wx_skipN (by rfl) (by rfl) (by rfl) (fun K hK => ?_); go_simp; refine hK _ ?_; clear hK K))
        refine wx_nil fun w3 hsat => ?_
        have ho3 := sat_row hsat 13 (by rfl)
        have hb3 := hbr.trans (hsat.1.below_of (B := w2.heap.size) hbase (fun g hg => ownF_ge ho g hg))
        clear hsat y0 y1 HBL HO1 ho
        go_wp2_with fail
        go_light
        exact ⟨⟨k + 1, A8, c8, by omega, by go_num, rfl, ho3, hb3⟩, by simp [intOf]; omega⟩
      · obtain rfl : k = m2 := by omega
        rw [HTZ.out] at ho
        have hbw3 := HBW2.out.trans (hbr.mono HBW2.out.size)
        have HSX := hid (own_sl ho)
        have HTE := hid (tells8_any wr (HEN.out wr hbw3))
        have HRR : Hid (∀ w', Below w.heap.size w w' → Calls Tryz.prog 43 #[.slice A m c] w' fun e w'' => e = .returned (.bool (RightC M)) ∧ Below w'.heap.size w' w'') := fun w' hb => refRight_all M A m c w' (HS.out w' hb) HOM.out (HEN.out w' hb)
        have HT1 : Hid (∀ w', Below wr.heap.size wr w' → Calls Tryz.prog 41 #[.slice A3 k c3] w' fun e w'' => e = .returned (.string (S8 (textF G))) ∧ Below w'.heap.size w' w'') := fun w' hb => Text8_any G A3 k c3 w' (HSX.out.below hb) HOG.out (by omega)
        have HT2 : Hid (∀ w', Below w.heap.size w w' → Calls Tryz.prog 42 #[.slice A2 k c2] w' fun e w'' => e = .returned (.string (S8 (textF G))) ∧ Below w'.heap.size w' w'') := fun w' hb => refText8_any G A2 k c2 w' (HS2.out w' hb) HOG.out (by omega)
        have t1 := tl_eq (textF G) (textF G)
        rw [decide_eq_true rfl] at t1
        generalize textF G = T at *
        have HBR := hid hbw3
        clear HTK HTZ ho hbr hbw3 HSL
        go_wp2_with fail
        refine HTE.out.mono ?_
        rintro e w4 ⟨rfl, hb4⟩
        have hbw4 := HBR.out.trans (hb4.mono HBR.out.size)
        have HR4 := hid (HRR.out w4 hbw4)
        have HB4 := hid hb4
        clear HTE HRR hb4
        cases hr : RightC M with
        | true =>
          rw [hr] at HR4
          have hc0 : code = 0 := by rw [HCO.out, hr]; rfl
          subst hc0
          clear hr HCO
          go_wp2_with fail
          refine HR4.out.mono ?_
          rintro e w5 ⟨rfl, hb5⟩
          have hbw5 := hbw4.trans (hb5.mono hbw4.size)
          have HT15 := hid (HT1.out w5 (HB4.out.trans (hb5.mono HB4.out.size)))
          clear HR4 hb5 hbw4 HB4 HT1
          go_wp2_with fail
          refine HT15.out.mono ?_
          rintro e w6 ⟨rfl, hb6⟩
          have hbw6 := hbw5.trans (hb6.mono hbw5.size)
          have HT26 := hid (HT2.out w6 hbw6)
          clear HT15 hb6 hbw5 HT2
          go_wp2_with fail
          refine HT26.out.mono ?_
          rintro e w7 ⟨rfl, hb7⟩
          have hbw7 := hbw6.trans (hb7.mono hbw6.size)
          clear HT26 hb7 hbw6
          go_wp2_with fail
          go_ret
          exact ⟨rfl, hbw7⟩
        | false =>
          rw [hr] at HR4
          have hc0 : code = 1 := by rw [HCO.out, hr]; rfl
          subst hc0
          clear hr HCO
          go_wp2_with fail
          refine HR4.out.mono ?_
          rintro e w5 ⟨rfl, hb5⟩
          have hbw5 := hbw4.trans (hb5.mono hbw4.size)
          have HT15 := hid (HT1.out w5 (HB4.out.trans (hb5.mono HB4.out.size)))
          clear HR4 hb5 hbw4 HB4 HT1
          go_wp2_with fail
          refine HT15.out.mono ?_
          rintro e w6 ⟨rfl, hb6⟩
          have hbw6 := hbw5.trans (hb6.mono hbw5.size)
          have HT26 := hid (HT2.out w6 hbw6)
          clear HT15 hb6 hbw5 HT2
          go_wp2_with fail
          refine HT26.out.mono ?_
          rintro e w7 ⟨rfl, hb7⟩
          have hbw7 := hbw6.trans (hb7.mono hbw6.size)
          clear HT26 hb7 hbw6
          go_wp2_with fail
          go_ret
          exact ⟨rfl, hbw7⟩
end RL
end Go.Proofs.YtecfkhgocjbocaaGreatDoor
namespace Go.Proofs.YtecfkhgocjbocaaGreatDoor.rulesRaw
open Go.ChangeShapes Go.WideShapes Go.ChangeAt Go.RowKit
open Go.ChangeMaps (open_string shut_string)
set_option linter.unusedVariables false

theorem own : ownKnob Tryz.prog.godebug = none := by kernel_rfl
theorem laidOut : laidOutB Tryz.prog = true := by kernel_rfl
theorem one_laid : Rows.rulesRawUptoRow.laid.filter (fun x => x.1 == "internal/strconv.uint64pow10") = [("internal/strconv.uint64pow10", Lib.tabData .u64 Lib.pow10Tab)] := by kernel_rfl
theorem tab_of {W : World} (hL : laidMetH Tryz.prog Rows.rulesRawUptoRow.laid W) : Lib.TabIs Tryz.prog W "internal/strconv.uint64pow10" .u64 Lib.pow10Tab := by
  have h1 := laidMetH.filter (fun x => x.1 == "internal/strconv.uint64pow10") hL
  rw [one_laid, MakeChecks.laidMetH_plain _ _ _ (by kernel_rfl)] at h1
  exact Lib.tabIs_of_head (g := (Tryz.prog.globalNamed "internal/strconv.uint64pow10").getD 0) (t := 230) (e := 30) (n := 20) (by kernel_rfl) (by kernel_rfl) Tryz.underlying230 Tryz.underlying30 (by kernel_rfl) (by kernel_rfl) h1
theorem reads (os : Os) {H : Type} (enc : TypeId × Value → H) : ∃ places, DataW.whole enc Tryz.prog ((World.laidAll Tryz.prog os Rows.rulesRawUptoRow.laid).forCall (fun _ _ => 0) ⟨#[], #[.slice none 0 0, .slice none 0 0], []⟩).memory Tryz.f8.params.toList Rows.rulesRawSpec.vars false #[.slice none 0 0, .slice none 0 0].toList 8 = some ([.nil, .nil], [], places) :=
  ⟨[], by kernel_rfl⟩
theorem witness_laid {H : Type} {enc : TypeId × Value → H} {C : Checked} {os : Os} {f : FuncId} {fn : Func} {s : OpenSpec} {conds : List PathCond} {apart : Bool} {laid : List (String × DataW Unit)} (w0 : World) (args : Array Value) (hos : w0.os = os)
    (hsh : (w0.forCall (fun _ _ => 0) ⟨#[], args, []⟩).Shaped C.prog)
    (hok : Input.okWideB C.prog (w0.forCall (fun _ _ => 0) ⟨#[], args, []⟩) f ⟨#[], args, []⟩ = true)
    (hrow : s.preRow enc C.prog fn conds apart laid (w0.forCall (fun _ _ => 0) ⟨#[], args, []⟩).memory args) :
    ∃ (w : World) (tape : Tape) (i : Input), w.os = os ∧ (w.forCall tape i).Shaped C.prog ∧ i.vars = [] ∧ Input.okWide C.prog (w.forCall tape i) .any w.heap.size f i ∧
      s.preRow enc C.prog fn conds apart laid (w.forCall tape i).memory i.args ∧ ({} : Assume).holds C.prog (lone (Frame.enter C.prog f i.args .normal) [] (w.forCall tape i)) :=
  ⟨w0, fun _ _ => 0, ⟨#[], args, []⟩, hos, hsh, (Input.okWide_of_okWideB (base := 0) hok).1, (Input.okWide_of_okWideB hok).2, hrow, by
    simp only [Assume.holds]
    exact ⟨by simp, by simp, fun _ => Modest.zero, by simp, by simp⟩⟩
set_option maxRecDepth 100000 in
theorem lifted (os : Os) (started : os.Started) (H : Type) (enc : TypeId × Value → H) (F : Stop.Interp) :
    ReturnsInHanded {} Tryz.checked os 8 .any ((Rows.OpenSpec.upto Rows.rulesRawSpec).preRow enc Tryz.prog Tryz.f8 Rows.rulesRawUptoRow.domain false Rows.rulesRawUptoRow.laid) (((Rows.OpenSpec.upto Rows.rulesRawSpec).at F).post enc Tryz.prog Tryz.f8 false true false false) := by
  obtain ⟨places, hx⟩ := reads os enc
  refine returnsInHanded_of_row (C := Tryz.checked) (s := Rows.OpenSpec.upto Rows.rulesRawSpec) own started (by kernel_rfl) Tryz.func8
    (witness_laid (World.laidAll Tryz.prog os Rows.rulesRawUptoRow.laid) #[.slice none 0 0, .slice none 0 0] (World.laidAll_os _ _ _)
      (World.shaped_of_ZipB (by kernel_rfl) (by kernel_rfl)) (by kernel_rfl)
      (OpenSpec.preRow_of_cond 8 hx (by kernel_rfl) (fun k hk => by cases hk; kernel_rfl) (by kernel_rfl) (by rw [MakeChecks.laidMetH_plain _ _ _ (by kernel_rfl)]; exact laidMet_laidAll _ (by kernel_rfl) (by kernel_rfl)))) ?_
  clear hx
  intro W base args ds gs before hval0 hW _ hcond hsz0 hL hsh _
  have hval : ∀ (j : Nat) t v, Tryz.f8.params[j]? = some t → args[j]? = some v → Value.okWide Tryz.prog W .any base t v := hval0
  have hen : Env W := ⟨hsh, tab_of hL⟩
  have hbk := CF.bulk_small (hcond _ rfl)
  have hW' := hW
  obtain ⟨p, q, hA0, hV, rfl, _, _⟩ := hW
  have hA : DataW.TrodAll enc Tryz.prog W 0 (fun _ => true) true Tryz.f8.params.toList args.toList ds p := hA0
  rw [Tryz.params8] at hA hval
  obtain ⟨v0, vs0, d0, ds0, p0, q0, hargs, rfl, rfl, h0, r0⟩ := trodAll_cons hA
  obtain ⟨v1, vs1, d1, ds1, p1, q1, rfl, rfl, rfl, h1, r1⟩ := trodAll_cons r0
  obtain ⟨rfl, rfl, rfl⟩ := trodAll_nil r1
  obtain rfl : args = #[v0, v1] := by cases args; simp_all
  obtain ⟨rfl, rfl⟩ := trodVars_none hV
  have k0 := h0
  have lt0 : ∀ x ∈ p0, x.block < W.heap.size := by obtain ⟨m, hm⟩ := k0; exact DataW.trod_lt m _ _ _ hm
  have bk0 : Rows.uptoBulk d0 ≤ 1048576 := Nat.le_trans (CF.bulk_part (by simp)) hbk
  have k1 := h1
  have lt1 : ∀ x ∈ p1, x.block < W.heap.size := by obtain ⟨m, hm⟩ := k1; exact DataW.trod_lt m _ _ _ hm
  have bk1 : Rows.uptoBulk d1 ≤ 1048576 := Nat.le_trans (CF.bulk_part (by simp)) hbk
  obtain ⟨A0, n0, c0, L0, rfl, hl0, ok0, hd0⟩ := CF.open_lines Tryz.underlying36 Tryz.underlying48 (by kernel_rfl) (by kernel_rfl) (by kernel_rfl) (by kernel_rfl) (by kernel_rfl) (by kernel_rfl) (hval 0 36 v0 rfl rfl) h0 bk0
  obtain ⟨A1, n1, c1, L1, rfl, hl1, ok1, hd1⟩ := RL.open_faults Tryz.underlying66 Tryz.underlying74 (by kernel_rfl) (by kernel_rfl) (by kernel_rfl) (by kernel_rfl) (hval 1 66 v1 rfl rfl) h1 bk1
  clear hA0 hval0 hval hcond
  refine (RL.rulesRaw_walk L0 A0 n0 c0 L1 A1 n1 c1 W hl0 ok0 hl1 ok1 hen).mono fun e W' ⟨he, bel⟩ => ?_
  subst he
  exact ⟨_, rfl, _, _, _, [], _, [], hW', trodAll_mk1 (shut_bool Tryz.underlying4 _), (trodAll_cons_mk (Below.trod laidOut (by kernel_rfl) (of_decide_eq_true (by kernel_rfl)) k0 bel lt0) (trodAll_cons_mk (Below.trod laidOut (by kernel_rfl) (of_decide_eq_true (by kernel_rfl)) k1 bel lt1) trodAll_mk0)), rfl, bel.frame _, fun h => by cases h⟩

theorem holds : Rows.RulesRawUptoSaid :=
  OpenClaim.holds_of_cond 8 Tryz.f8 rfl rfl rfl rfl rfl rfl rfl ⟨rfl, rfl, rfl, rfl, rfl⟩ rfl rfl rfl rfl rfl (by kernel_rfl) Tryz.func8 (by kernel_rfl)
    (of_decide_eq_true (by kernel_rfl)) (by unfold Func.isWrapper; first | (rw [if_pos (by decide +kernel)]; kernel_rfl) | (rw [if_neg (by decide +kernel)]; exact ⟨rfl, rfl⟩))
    (fun os started H enc _ F => by rw [OpenClaim.pre_eq_preRow]; exact lifted os started H enc F)
/-- THE STATEMENT -/
theorem proved : Rows.RulesRawUptoCardSaid :=
  Claim7.holds_tied_plain_at .later [] Rows.rulesRawUptoCard.laidKinds true Rows.rulesRawUptoCard.stood.harness Rows.rulesRawUptoCard.stood.looks holds (fun _ h => by cases h) (by kernel_rfl) (fun _ h => by cases h) rulesRawUpto_row_tie rfl ⟨rfl, rfl⟩ (by kernel_rfl) rfl
    (fun f fn hf hfn => by
      obtain rfl : f = 8 := Option.some.inj ((show Tryz.prog.funcNamed "waystone/waystonelaw08.RulesRaw" = some 8 by kernel_rfl).symm.trans hf) |>.symm
      obtain rfl : fn = Tryz.f8 := (Option.some.inj (Tryz.func8.symm.trans hfn)).symm
      exact ⟨by kernel_rfl, fun j t ht => by
        rw [Tryz.params8] at ht
        have hm : t ∈ [36, 66] := by simpa using Array.mem_of_getElem? ht
        have hall : ([36, 66].all fun u => !Tryz.prog.wantsStandIn u) = true := by kernel_rfl
        exact (show Tryz.prog.wantsStandIn t = false by simpa using List.all_eq_true.1 hall t hm)⟩)
    (by kernel_rfl)
#print axioms proved
end Go.Proofs.YtecfkhgocjbocaaGreatDoor.rulesRaw
