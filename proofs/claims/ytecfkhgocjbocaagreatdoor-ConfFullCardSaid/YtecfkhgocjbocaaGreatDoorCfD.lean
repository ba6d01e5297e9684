/-
  The walk of ConfFull.
-/
import Derived.Test.YtecfkhgocjbocaaGreatDoorCfC
namespace Go.Proofs.YtecfkhgocjbocaaGreatDoor
set_option linter.unusedVariables false
set_option linter.unusedSimpArgs false
open Go Go.RowKit

namespace CF
/-- the digits of a number below 200, reckoned -/
def dg2 (k : Nat) : List UInt8 := if k < 10 then [SC.dg k] else if k < 100 then [SC.dg (k / 10), SC.dg (k % 10)] else [SC.dg (k / 100), SC.dg (k / 10 % 10), SC.dg (k % 10)]
theorem digs_two (k : Nat) (h : k < 1000) : SC.digs k = dg2 k := by
  unfold dg2
  by_cases h1 : k < 10
  · rw [if_pos h1, SC.digs, if_pos h1]
  · rw [if_neg h1, SC.digs, if_neg h1]
    by_cases h2 : k < 100
    · rw [if_pos h2, SC.digs, if_pos (by omega)]; rfl
    · rw [if_neg h2, SC.digs, if_neg (by omega), SC.digs, if_pos (by omega), show k / 10 / 10 = k / 100 by omega]; rfl
def fN (k : Nat) : List UInt8 := [48, 46, 48, 46, 48, 46] ++ dg2 k
def fL (k : Nat) (v : List UInt8) : Ln := ⟨1, fN k, [99, 111, 115, 116], v⟩
def fullC : Nat → List Ln
  | 0 => []
  | i + 1 => insC (fullC i) (fL i [53])
theorem full_right : (List.range 64).all (fun i => rightL (fL i [53])) = true := by kernel_rfl
theorem full_len : (List.range 65).all (fun i => decide ((fullC i).length = i)) = true := by kernel_rfl
theorem full_ok (i : Nat) (hi : i ≤ 64) : RightC (fullC i) = true ∧ (fullC i).length = i := by
  have hl : ∀ j, j ≤ 64 → (fullC j).length = j := fun j hj => by simpa using List.all_eq_true.1 full_len j (List.mem_range.2 (by omega))
  refine ⟨?_, hl i hi⟩
  induction i with
  | zero => rfl
  | succ i ih =>
    have h1 := List.all_eq_true.1 full_right i (List.mem_range.2 (by omega))
    exact right_ins (fullC i) (fL i [53]) (ih (by omega)) h1 (by have := hl (i + 1) hi; show (fullC (i + 1)).length ≤ 64; omega)
theorem full_set (i : Nat) (hi : i < 64) : setE (fullC i) (fL i [53]) = 0 ∧ setC (fullC i) (fL i [53]) = fullC (i + 1) := by
  have h1 := (full_ok i (by omega)).1
  have h2 := List.all_eq_true.1 full_right i (List.mem_range.2 hi)
  have h3 := (full_ok (i + 1) (by omega)).2
  have h4 : setE (fullC i) (fL i [53]) = 0 := by
    unfold setE
    have h2' : rightL (fL i [53]) = true := h2
    rw [h1, h2', if_pos (show (true && true) = true from rfl), if_pos (by show (fullC (i + 1)).length ≤ 64; omega)]
  refine ⟨h4, ?_⟩
  unfold setC
  rw [if_pos h4]
  rfl
theorem dg2_len (k : Nat) : (dg2 k).length ≤ 3 := by unfold dg2; split <;> (try split) <;> simp
theorem fL_ok (k : Nat) (v : List UInt8) (hv : v.length ≤ 10) : LnOk (fL k v) := by
  have := dg2_len k
  refine ⟨?_, by show ([99, 111, 115, 116] : List UInt8).length ≤ _; decide, by show v.length ≤ _; omega⟩
  show ([48, 46, 48, 46, 48, 46] ++ dg2 k).length ≤ _
  rw [List.length_append]
  simp only [List.length_cons, List.length_nil]
  omega
theorem full_lnok (i : Nat) : ∀ l ∈ fullC i, LnOk l := by
  induction i with
  | zero => intro l hl; cases hl
  | succ i ih =>
    intro l hl
    rcases ins_mem _ _ _ hl with h | h
    · rw [h]; exact fL_ok i _ (by decide)
    · exact ih l h
def chkA (k : Nat) : Bool := if k < 64 then decide (setE (fullC 64) (fL k [55]) = 0) && decide ((setC (fullC 64) (fL k [55])).length = 64) && decide (valC (setC (fullC 64) (fL k [55])) 1 (fN k) [99, 111, 115, 116] = [55]) else decide (setE (fullC 64) (fL k [55]) = 5)
theorem chk_all : (List.range 200).all chkA = true := by kernel_rfl
theorem full_names : (namC (fullC 64) 1).length = 64 := by kernel_rfl
theorem mod200 (x : Int) : ∃ m : Nat, m < 200 ∧ wrap64 ((IntKind.u64.wrap x).tmod 200) = (m : Int) := by
  have h1 : 0 ≤ IntKind.u64.wrap x := by rw [IntKind.wrap_u64]; omega
  have h2 : (IntKind.u64.wrap x).tmod 200 = IntKind.u64.wrap x % 200 := Int.tmod_eq_emod_of_nonneg h1
  refine ⟨(IntKind.u64.wrap x % 200).toNat, by omega, ?_⟩
  rw [h2]
  unfold wrap64
  omega
theorem chk_lt (k : Nat) (hk : k < 64) : setE (fullC 64) (fL k [55]) = 0 ∧ (setC (fullC 64) (fL k [55])).length = 64 ∧ valC (setC (fullC 64) (fL k [55])) 1 (fN k) [99, 111, 115, 116] = [55] := by
  have := List.all_eq_true.1 chk_all k (List.mem_range.2 (by omega))
  unfold chkA at this
  rw [if_pos hk] at this
  simpa [and_assoc] using this
theorem chk_ge (k : Nat) (hk : ¬ k < 64) (h2 : k < 200) : setE (fullC 64) (fL k [55]) = 5 := by
  have := List.all_eq_true.1 chk_all k (List.mem_range.2 h2)
  unfold chkA at this
  rw [if_neg hk] at this
  simpa using this
theorem fl_built (k : Nat) (v : List UInt8) : (Tryz.prog).built 29 [(0, .int .i64 1), (1, .string (S8 (fN k))), (2, .string ⟨#[99, 111, 115, 116]⟩), (3, .string (S8 v))] = some (lnV (fL k v)) := by kernel_rfl
set_option maxRecDepth 100000 in
set_option maxHeartbeats 3200000 in
theorem confFull_walk (x : Int) (w : World) (hen : Env w) :
    Calls Tryz.prog 3 #[.int .i64 x] w fun e w' => e = .returned (.bool true) ∧ Below w.heap.size w w' := by
  have HEN : Hid (∀ w', Below w.heap.size w w' → Env w') := fun w' hb => hen.below hb
  have HST : Hid (∀ k < 64, ∀ A c w', Below w.heap.size w w' → Sl w' 4 (.slice A k c) (LNS (fullC k)) → Calls Tryz.prog 13 #[.slice A k c, .agg (lnV (fL k [53]))] w' fun e w'' => (∃ A' c', e = .returned (.tuple #[.slice A' (k + 1) c', .int .i64 0]) ∧ Sl w'' 4 (.slice A' (k + 1) c') (LNS (fullC (k + 1)))) ∧ Below w'.heap.size w' w'') := fun k hk A c w' hb hs => by
    have := Set_any (fullC k) (fL k [53]) A k c w' hs (full_lnok k) (fL_ok k _ (by decide)) (HEN.out w' hb)
    rw [(full_set k hk).1, (full_set k hk).2] at this
    refine this.mono fun e w'' ⟨⟨A', c', h1, h2⟩, h3⟩ => ⟨⟨A', c', ?_, ?_⟩, h3⟩
    · rw [(full_ok (k + 1) (by omega)).2] at h1; exact h1
    · rw [(full_ok (k + 1) (by omega)).2] at h2; exact h2
  clear hen
  go_enter Tryz.func3, Tryz.ntmps3
  go_wp2_with fail
  go_loopw [3, 4] (fun v i wr => ∃ (k : Nat) (A' : Option Addr) (c' : Nat), k ≤ 64 ∧ i = .int .i64 k ∧ v = .slice A' k c' ∧ Hid (Sl wr 4 (.slice A' k c') (LNS (fullC k))) ∧ Below w.heap.size w wr) (fun _ i _ => 64 - (intOf i).toNat)
  case atStart => exact ⟨0, none, 0, Nat.zero_le _, rfl, rfl, sl_nil _ _ _ (by omega), Below.refl _ _⟩
  case round =>
    obtain ⟨k, A1, c1, hk, rfl, rfl, hs, hbr⟩ := hrel
    by_cases hlt : k < 64
    · have HDG := hid (digits_any k wr (by omega))
      have a1 := fun w' : World => cat8 (w := w') [48, 46, 48, 46, 48, 46] (SC.digs k) (fN k) (by rw [digs_two k (by omega)]; rfl) (by rw [digs_two k (by omega)]; have := dg2_len k; simp; omega)
      rw [show S8 [48, 46, 48, 46, 48, 46] = (⟨#[48, 46, 48, 46, 48, 46]⟩ : ByteArray) from rfl] at a1
      have HBL := hid (fl_built k [53])
      have HS1 := hid (HST.out k hlt A1 c1)
      generalize fL k [53] = l at *
      generalize SC.digs k = dk at *
      go_wp2_with fail
      refine HDG.out.mono ?_
      rintro e w1 ⟨rfl, hb1⟩
      have hbw1 := hbr.trans (hb1.mono hbr.size)
      have HS2 := hid (HS1.out w1 hbw1 (hs.out.below hb1))
      clear HDG hb1 HS1 hs
      go_wp2_with (refine wpList_buildV rfl 29 [(0, .const (.int .i64 1)), (1, .tmp 18), (2, .const (.string ⟨#[99, 111, 115, 116]⟩)), (3, .const (.string ⟨#[53]⟩))] rfl (some 19) rfl [(0, .int .i64 1), (1, .string (S8 (fN k))), (2, .string ⟨#[99, 111, 115, 116]⟩), (3, .string (S8 [53]))] rfl (lnV l) HBL.out ?_)
      refine HS2.out.mono ?_
      rintro e w2 ⟨⟨A2, c2, rfl, hs2⟩, hb2⟩
      have hbw2 := hbw1.trans (hb2.mono hbw1.size)
      have HSZ := hid hs2
      clear HS2 hb2 hs2 a1 HBL
      go_wp2_with fail
      go_light
      exact ⟨⟨k + 1, A2, c2, by omega, by go_num, rfl, HSZ, hbw2⟩, by simp [intOf]; omega⟩
    · obtain rfl : k = 64 := by omega
      go_upto_region 10 with fail
      obtain ⟨m, hm, hme⟩ := mod200 x
      rw [hme]
      clear hme
      have HDG : Hid (∀ w', Calls Tryz.prog 14 #[.int .i64 (m : Int)] w' fun e w'' => e = .returned (.string (S8 (SC.digs m))) ∧ Below w'.heap.size w' w'') := fun w' => digits_any m w' (by omega)
      have a1 := fun w' : World => cat8 (w := w') [48, 46, 48, 46, 48, 46] (SC.digs m) (fN m) (by rw [digs_two m (by omega)]; rfl) (by rw [digs_two m (by omega)]; have := dg2_len m; simp; omega)
      rw [show S8 [48, 46, 48, 46, 48, 46] = (⟨#[48, 46, 48, 46, 48, 46]⟩ : ByteArray) from rfl] at a1
      have HBL := hid (fl_built m [55])
      have HS1 : Hid (∀ w', Below w.heap.size w w' → Sl w' 4 (.slice A1 64 c1) (LNS (fullC 64)) → Calls Tryz.prog 13 #[.slice A1 64 c1, .agg (lnV (fL m [55]))] w' fun e w'' => ConfPost (setC (fullC 64) (fL m [55])) (setE (fullC 64) (fL m [55])) e w'' ∧ Below w'.heap.size w' w'') := fun w' hb hs =>
        Set_any (fullC 64) (fL m [55]) A1 64 c1 w' hs (full_lnok 64) (fL_ok m _ (by decide)) (HEN.out w' hb)
      have HWR : Hid (∀ w', Below w.heap.size w w' → Calls Tryz.prog 15 #[] w' fun e w'' => e = .returned (.bool true) ∧ Below w'.heap.size w' w'') := fun w' hb => writes_any w' (HEN.out w' hb)
      have HCL := hid (chk_lt m)
      have HCG := hid (fun h => chk_ge m h hm)
      have HZ : Hid (setE (fullC 64) (fL m [55]) = 5 → setC (fullC 64) (fL m [55]) = []) := fun h => by unfold setC; rw [h]; rfl
      have HLK : Hid (∀ l ∈ setC (fullC 64) (fL m [55]), LnOk l) := fun l hl => by
        unfold setC at hl
        split at hl
        · rcases ins_mem _ _ _ hl with h | h
          · rw [h]; exact fL_ok m _ (by decide)
          · exact full_lnok 64 l h
        · cases hl
      have HNM : Hid (∀ w', Below w.heap.size w w' → Sl w' 4 (.slice A1 64 c1) (LNS (fullC 64)) → Calls Tryz.prog 17 #[.slice A1 64 c1, .int .i64 1] w' fun e w'' => (∃ A' c', e = .returned (.slice A' 64 c')) ∧ Below w'.heap.size w' w'') := fun w' hb hs => by
        refine (Names_any (fullC 64) 1 A1 64 c1 w' hs (full_lnok 64) (HEN.out w' hb)).mono fun e w'' ⟨⟨A', c', h1, _⟩, h3⟩ => ⟨⟨A', c', ?_⟩, h3⟩
        rw [full_names] at h1
        exact h1
      have HVL : Hid (∀ (D : List Ln) (A : Option Addr) (n c : Nat) w', (∀ l ∈ D, LnOk l) → Below w.heap.size w w' → Sl w' 4 (.slice A n c) (LNS D) → Calls Tryz.prog 16 #[.slice A n c, .int .i64 1, .string (S8 (fN m)), .string ⟨#[99, 111, 115, 116]⟩] w' fun e w'' => e = .returned (.string (S8 (valC D 1 (fN m) [99, 111, 115, 116]))) ∧ Below w'.heap.size w' w'') := fun D A n c w' hD hb hs =>
        Value_any D 1 (fN m) [99, 111, 115, 116] A n c w' hs hD (HEN.out w' hb)
      clear HST HEN
      generalize hFC : fullC 64 = C64 at *
      have HFC := hid hFC
      clear hFC HFC
      generalize fL m [55] = l at *
      generalize SC.digs m = dm at *
      generalize fN m = nm at *
      go_wp2_with fail
      refine (HDG.out wr).mono ?_
      rintro e w1 ⟨rfl, hb1⟩
      have hbw1 := hbr.trans (hb1.mono hbr.size)
      have hs1 := hs.out.below hb1
      have HS2 := hid (HS1.out w1 hbw1 hs1)
      have HC1 := hid hs1
      clear hb1 HS1 hs hs1
      go_wp2_with (refine wpList_buildV rfl 29 [(0, .const (.int .i64 1)), (1, .tmp 34), (2, .const (.string ⟨#[99, 111, 115, 116]⟩)), (3, .const (.string ⟨#[55]⟩))] rfl (some 35) rfl [(0, .int .i64 1), (1, .string (S8 nm)), (2, .string ⟨#[99, 111, 115, 116]⟩), (3, .string (S8 [55]))] rfl (lnV l) HBL.out ?_)
      refine HS2.out.mono ?_
      rintro e w2 ⟨⟨A2, c2, rfl, hs2⟩, hb2⟩
      have hbw2 := hbw1.trans (hb2.mono hbw1.size)
      have HC2 := hid (HC1.out.below hb2)
      clear HS2 hb2 HBL HC1 hbw1
      generalize setC C64 l = D at *
      generalize setE C64 l = E at *
      by_cases hm64 : m < 64
      · obtain ⟨hE, hDl, hDv⟩ := HCL.out hm64
        have HDV := hid hDv
        rw [hE, hDl]
        rw [hDl] at hs2
        have HD2 := hid hs2
        clear HCL HCG hE hDl hDv hs2 HNM HC2 HZ
        go_wp2_with fail
        refine (HWR.out w2 hbw2).mono ?_
        rintro e w3 ⟨rfl, hb3⟩
        have hbw3 := hbw2.trans (hb3.mono hbw2.size)
        have HD3 := hid (HD2.out.below hb3)
        clear hb3 HD2 hbw2 HWR
        go_wp2_with fail
        refine (HDG.out w3).mono ?_
        rintro e w4 ⟨rfl, hb4⟩
        have hbw4 := hbw3.trans (hb4.mono hbw3.size)
        have HV4 := hid (HVL.out D A2 64 c2 w4 HLK.out hbw4 (HD3.out.below hb4))
        rw [HDV.out] at HV4
        clear hb4 HD3 hbw3 HDG HVL HLK HDV
        go_wp2_with fail
        refine HV4.out.mono ?_
        rintro e w5 ⟨rfl, hb5⟩
        have hbw5 := hbw4.trans (hb5.mono hbw4.size)
        rw [show S8 [55] = (⟨#[55]⟩ : ByteArray) from rfl]
        clear hb5 hbw4 HV4 a1
        go_wp2_with fail
        go_ret
        exact ⟨rfl, hbw5⟩
      · have hE := HCG.out hm64
        have hD := HZ.out hE
        subst hD
        rw [hE, List.length_nil]
        clear HCL HCG hE hs2 HZ HVL HLK HDG a1
        go_wp2_with fail
        refine (HWR.out w2 hbw2).mono ?_
        rintro e w3 ⟨rfl, hb3⟩
        have hbw3 := hbw2.trans (hb3.mono hbw2.size)
        have HN3 := hid (HNM.out w3 hbw3 (HC2.out.below hb3))
        clear hb3 HC2 hbw2 HWR HNM
        go_wp2_with fail
        refine HN3.out.mono ?_
        rintro e w4 ⟨⟨A4, c4, rfl⟩, hb4⟩
        have hbw4 := hbw3.trans (hb4.mono hbw3.size)
        clear hb4 hbw3 HN3
        go_wp2_with fail
        go_ret
        exact ⟨rfl, hbw4⟩
end CF
end Go.Proofs.YtecfkhgocjbocaaGreatDoor
