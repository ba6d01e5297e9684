/-
  For every string the law ParseTexts returns true, panics nowhere, and its argument reads as it did.
  No condition.
  (The walk of ParseTexts stands in this text, too.)
-/
import Derived.Test.YtecfkhgocjbocaaGreatDoorPtZ
import Derived.Test.YtecfkhgocjbocaaGreatDoorRows
import Derived.Test.YtecfkhgocjbocaaGreatDoorCards
import Derived.Test.YtecfkhgocjbocaaGreatDoorTie
import Derived.Test.YtecfkhgocjbocaaGreatDoorWrap
import Derived.WalkKit
import Derived.ProofKit
import Derived.OpenShut
import Derived.ShutString
import Derived.ChangeOld
import Derived.Below
import Derived.SizedLaws
import Derived.Lay
import Derived.LaidOnce
import Derived.SevenTiedAt
namespace Go.Proofs.YtecfkhgocjbocaaGreatDoor
set_option linter.unusedVariables false
set_option linter.unusedSimpArgs false
open Go Go.RowKit

namespace PT
theorem cut_minT (s : ByteArray) (k : Nat) : ∃ m : Nat, m ≤ k ∧ m ≤ s.size ∧ min (s.size : Int) (k : Int) = (m : Int) := ⟨min s.size k, by omega, by omega, by omega⟩
theorem ext_sizeT (s : ByteArray) (m : Nat) (h : m ≤ s.size) : (s.extract 0 m).size = m := by
  rw [← bl_len, bl_ext, List.length_take, List.drop_zero, bl_len]
  omega
theorem runP_len (f : Nat) (S : Rdr) (h : Ok S) : (runP f S).1.length ≤ 64 := by
  induction f generalizing S with
  | zero => exact Nat.zero_le _
  | succ f ih =>
    unfold runP
    split
    · split
      · exact Nat.zero_le _
      · split
        · exact Nat.zero_le _
        · exact CF.right_len h.1
    · cases hs : stepP S with
      | none => exact Nat.zero_le _
      | some T => exact ih T (step_ok S T hs h)
theorem textP_len (s : List UInt8) : (textP s).1.length ≤ 64 := by
  unfold textP
  split
  · exact runP_len _ _ ⟨rfl, (fun l h => by cases h), toks31 s, Nat.zero_le _⟩
  · exact Nat.zero_le _
set_option maxRecDepth 100000 in
set_option maxHeartbeats 1600000 in
theorem parseTexts_walk (a0 : ByteArray) (w : World) (ha0 : a0.size ≤ 9223372036854775807) (hen : Env w) : Calls Tryz.prog 11 #[.string a0] w fun e w' => e = .returned (.bool true) ∧ Below w.heap.size w w' := by
  obtain ⟨m, hm1, hm2, hm⟩ := cut_minT a0 4000
  have hsz := ext_sizeT a0 m hm2
  rw [show ((4000 : Nat) : Int) = 4000 from rfl] at hm
  have hs : (a0.extract 0 m).size ≤ 2000000 := by omega
  have HEN : Hid (∀ w', Below w.heap.size w w' → Env w') := fun w' hb => hen.below hb
  clear hen
  go_enter Tryz.func11, Tryz.ntmps11
  go_upto_region 2 with fail
  clear hm hsz hm2 ha0 hm1
  generalize a0.extract 0 m = s at *
  have HP1 : Hid (∀ w', Below w.heap.size w w' → Calls Tryz.prog 47 #[.string s] w' fun e w'' => CF.ConfPost (textP (bl s)).1 (textP (bl s)).2 e w'' ∧ Below w'.heap.size w' w'') := fun w' hb => parseText_any s w' hs (HEN.out w' hb)
  have HP2 : Hid (∀ w', Below w.heap.size w w' → Calls Tryz.prog 48 #[.string s] w' fun e w'' => CF.ConfPost (textP (bl s)).1 (textP (bl s)).2 e w'' ∧ Below w'.heap.size w' w'') := fun w' hb => refText6_any s w' hs (HEN.out w' hb)
  have hl := textP_len (bl s)
  generalize textP (bl s) = T at *
  obtain ⟨C, E⟩ := T
  simp only at HP1 HP2 hl
  go_wp2_with fail
  refine (HP1.out w (Below.refl _ _)).mono ?_
  rintro e w1 ⟨⟨A1, c1, rfl, hs1⟩, hb1⟩
  have HS1 := hid hs1
  clear HP1 hs1
  go_wp2_with fail
  refine (HP2.out w1 hb1).mono ?_
  rintro e w2 ⟨⟨A2, c2, rfl, hs2⟩, hb2⟩
  have hbw2 := hb1.trans (hb2.mono hb1.size)
  have HS12 := hid (HS1.out.below hb2)
  have HS2 := hid hs2
  have HRL := hid (readsLaw_any w2 (HEN.out w2 hbw2))
  have qe : (E == E) = true := by simp
  clear HP2 hs2 HS1 hb1 hb2
  go_wp2_with fail
  refine HRL.out.mono ?_
  rintro e w3 ⟨rfl, hb3⟩
  have hbw3 := hbw2.trans (hb3.mono hbw2.size)
  have HF := hid (CF.from_any C A1 C.length c1 w3 (HS12.out.below hb3) (by omega))
  have HS3 := hid (HS2.out.below hb3)
  clear HRL HS12 HS2 hb3 hbw2
  go_wp2_with fail
  refine HF.out.mono ?_
  rintro e w4 ⟨A4, c4, rfl, ho4, hb4⟩
  have hbw4 := hbw3.trans (hb4.mono hbw3.size)
  have HSM := CF.refSame_any C C A4 A2 C.length c4 C.length c2 w4 (own_sl ho4) (HS3.out.below hb4)
  rw [CF.sameC_refl] at HSM
  replace HSM := hid HSM
  clear HF HS3 hb4 hbw3 ho4
  go_wp2_with fail
  refine HSM.out.mono ?_
  rintro e w5 ⟨rfl, hb5⟩
  have hbw5 := hbw4.trans (hb5.mono hbw4.size)
  clear HSM hb5 hbw4
  go_wp2_with fail
  go_ret
  exact ⟨rfl, hbw5⟩
end PT
end Go.Proofs.YtecfkhgocjbocaaGreatDoor
namespace Go.Proofs.YtecfkhgocjbocaaGreatDoor.parseTexts
open Go.ChangeShapes Go.WideShapes Go.ChangeAt Go.RowKit
open Go.ChangeMaps (open_string shut_string)
set_option linter.unusedVariables false

theorem own : ownKnob Tryz.prog.godebug = none := by kernel_rfl
theorem laidOut : laidOutB Tryz.prog = true := by kernel_rfl
theorem one_laid : Rows.parseTextsRow.laid.filter (fun x => x.1 == "internal/strconv.uint64pow10") = [("internal/strconv.uint64pow10", Lib.tabData .u64 Lib.pow10Tab)] := by kernel_rfl
theorem tab_of {W : World} (hL : laidMetH Tryz.prog Rows.parseTextsRow.laid W) : Lib.TabIs Tryz.prog W "internal/strconv.uint64pow10" .u64 Lib.pow10Tab := by
  have h1 := laidMetH.filter (fun x => x.1 == "internal/strconv.uint64pow10") hL
  rw [one_laid, MakeChecks.laidMetH_plain _ _ _ (by kernel_rfl)] at h1
  exact Lib.tabIs_of_head (g := (Tryz.prog.globalNamed "internal/strconv.uint64pow10").getD 0) (t := 230) (e := 30) (n := 20) (by kernel_rfl) (by kernel_rfl) Tryz.underlying230 Tryz.underlying30 (by kernel_rfl) (by kernel_rfl) h1
set_option maxRecDepth 100000 in
theorem lifted (os : Os) (started : os.Started) (H : Type) (enc : TypeId × Value → H) :
    ReturnsInHanded {} Tryz.checked os 11 .any (fun w args => (Rows.parseTextsSpec.pre enc Tryz.prog Tryz.f11 [] false w args ∧ laidMetH Tryz.prog Rows.parseTextsRow.laid w) ∧ sizedMet enc Tryz.prog Tryz.f11 (OpenSpec.ofChange Rows.parseTextsSpec) false w args)
      (Rows.parseTextsSpec.post enc Tryz.prog Tryz.f11 false true false false) := by
  refine wrap_laid (C := Tryz.checked) (X := fun w _ => laidMetH Tryz.prog Rows.parseTextsRow.laid w) (fun _ _ _ hh h => h.of_heap hh) own started (by kernel_rfl) Tryz.func11
    (ChangeSpec.witness_shaped (enc := enc) (C := Tryz.checked) (os := os) (X := fun w _ => laidMetH Tryz.prog Rows.parseTextsRow.laid w) false (World.laidAll Tryz.prog os Rows.parseTextsRow.laid) #[.string ByteArray.empty] 8 (World.laidAll_os _ _ _)
      (World.shaped_of_ZipB (by kernel_rfl) (by kernel_rfl)) (by kernel_rfl) (by kernel_rfl) (by kernel_rfl)
      (by rw [MakeChecks.laidMetH_plain _ _ _ (by kernel_rfl)]; exact laidMet_laidAll _ (by kernel_rfl) (by kernel_rfl))) ?_
  intro W base args ds gs before hval0 hW hsz0 hL hsh
  have hval : ∀ (j : Nat) t v, Tryz.f11.params[j]? = some t → args[j]? = some v → Value.okWide Tryz.prog W .any base t v := hval0
  have hen : Env W := ⟨hsh, tab_of hL⟩
  have hW' := hW
  obtain ⟨p, q, hA0, hV, rfl, _, _⟩ := hW
  have hA : DataW.TrodAll enc Tryz.prog W 0 (fun _ => true) true Tryz.f11.params.toList args.toList ds p := hA0
  rw [Tryz.params11] at hA hval
  obtain ⟨v0, vs0, d0, ds0, p0, q0, hargs, rfl, rfl, h0, r0⟩ := trodAll_cons hA
  obtain ⟨rfl, rfl, rfl⟩ := trodAll_nil r0
  obtain rfl : args = #[v0] := by cases args; simp_all
  obtain ⟨rfl, rfl⟩ := trodVars_none hV
  have k0 := h0
  have lt0 : ∀ x ∈ p0, x.block < W.heap.size := by obtain ⟨m, hm⟩ := k0; exact DataW.trod_lt m _ _ _ hm
  obtain ⟨s0, rfl, rfl, rfl, ws0⟩ := open_string Tryz.underlying9 (hval 0 9 v0 rfl rfl) h0
  have w0 : s0.size ≤ 9223372036854775807 := by simpa [maxLen] using ws0
  clear hA0 hval0
  refine (PT.parseTexts_walk s0 W w0 hen).mono fun e W' ⟨he, bel⟩ => ?_
  subst he
  exact ⟨_, rfl, _, _, _, [], _, [], hW', trodAll_mk1 (shut_bool Tryz.underlying4 _), (trodAll_cons_mk (Below.trod laidOut (by kernel_rfl) (of_decide_eq_true (by kernel_rfl)) k0 bel lt0) trodAll_mk0), rfl, bel.frame _, fun h => by cases h⟩

theorem holds : Rows.ParseTextsSaid :=
  OpenClaim.holds_of_wide 11 Tryz.f11 rfl rfl rfl rfl rfl rfl rfl ⟨rfl, rfl, rfl, rfl, rfl⟩ rfl rfl rfl rfl rfl (by kernel_rfl) Tryz.func11 (by kernel_rfl)
    (of_decide_eq_true (by kernel_rfl)) (by unfold Func.isWrapper; first | (rw [if_pos (by decide +kernel)]; kernel_rfl) | (rw [if_neg (by decide +kernel)]; exact ⟨rfl, rfl⟩))
    (fun os started H enc _ => lifted os started H enc)
/-- THE STATEMENT -/
theorem proved : Rows.ParseTextsCardSaid :=
  Claim7.holds_tied_plain_at .later [] Rows.parseTextsCard.laidKinds true Rows.parseTextsCard.stood.harness Rows.parseTextsCard.stood.looks holds (fun _ h => by cases h) (by kernel_rfl) (fun _ h => by cases h) parseTexts_row_tie rfl ⟨rfl, rfl⟩ (by kernel_rfl) rfl
    (fun f fn hf hfn => by
      obtain rfl : f = 11 := Option.some.inj ((show Tryz.prog.funcNamed "waystone/waystonelaw06.ParseTexts" = some 11 by kernel_rfl).symm.trans hf) |>.symm
      obtain rfl : fn = Tryz.f11 := (Option.some.inj (Tryz.func11.symm.trans hfn)).symm
      exact ⟨by kernel_rfl, fun j t ht => by
        rw [Tryz.params11] at ht
        have hm : t ∈ [9] := by simpa using Array.mem_of_getElem? ht
        have hall : ([9].all fun u => !Tryz.prog.wantsStandIn u) = true := by kernel_rfl
        exact (show Tryz.prog.wantsStandIn t = false by simpa using List.all_eq_true.1 hall t hm)⟩)
    (by kernel_rfl)
#print axioms proved
end Go.Proofs.YtecfkhgocjbocaaGreatDoor.parseTexts
