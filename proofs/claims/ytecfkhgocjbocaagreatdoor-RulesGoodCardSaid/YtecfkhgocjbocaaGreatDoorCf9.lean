/-
  Contract of package conf: Names.
-/
import Derived.Test.YtecfkhgocjbocaaGreatDoorCf3
import Derived.Test.YtecfkhgocjbocaaGreatDoorSh3
import Derived.Lib.OwnBridge
namespace Go.Proofs.YtecfkhgocjbocaaGreatDoor
set_option linter.unusedVariables false
set_option linter.unusedSimpArgs false
open Go Go.RowKit

namespace CF
def stepN (out : List (List UInt8)) (x : List UInt8) : List (List UInt8) := if out = [] ∨ out.getLastD [] ≠ x then out ++ [x] else out
def namRaw (C : List Ln) (h : Int) : List (List UInt8) := (C.filter fun x => decide (x.head = h)).map (·.name)
theorem fold_raw (C : List Ln) (h : Int) (out : List (List UInt8)) : C.foldl (nameStep h) out = (namRaw C h).foldl stepN out := by
  induction C generalizing out with
  | nil => rfl
  | cons x r ih =>
    rw [List.foldl_cons, ih]
    unfold namRaw
    by_cases e : x.head = h
    · rw [List.filter_cons_of_pos (by simpa using e), List.map_cons, List.foldl_cons]
      congr 1
      unfold nameStep stepN
      simp only [e, true_and]
    · rw [List.filter_cons_of_neg (by simpa using e)]
      congr 1
      unfold nameStep
      rw [if_neg (fun h => e h.1)]
theorem stepN_new (out : List (List UInt8)) (x : List UInt8) (h : out = [] ∨ out.getLastD [] ≠ x) : stepN out x = out ++ [x] := by unfold stepN; rw [if_pos h]
theorem stepN_old (out : List (List UInt8)) (x : List UInt8) (h1 : out ≠ []) (h2 : out.getLastD [] = x) : stepN out x = out := by unfold stepN; rw [if_neg (fun h => h.elim h1 (fun k => k h2))]
theorem last_snoc (out : List (List UInt8)) (x : List UInt8) : (out ++ [x]).getLastD [] = x := by simp
theorem compact_fold (zs : List (List UInt8)) : Lib.compact zs = zs.foldl stepN [] := by
  have key : ∀ m, m ≤ zs.length → Lib.compactUpTo zs.toArray m = (zs.take m).foldl stepN [] ∧ (0 < m → Lib.compactUpTo zs.toArray m ≠ [] ∧ (Lib.compactUpTo zs.toArray m).getLastD [] = zs.toArray[m - 1]!) := by
    intro m
    induction m with
    | zero => intro _; exact ⟨rfl, fun h => absurd h (by omega)⟩
    | succ m ih =>
      intro hm
      obtain ⟨h1, h2⟩ := ih (by omega)
      have hg : zs.toArray[m]! = zs[m] := by rw [getElem!_pos zs.toArray m (by simp only [List.size_toArray]; omega)]; rfl
      have hs : (zs.take (m + 1)).foldl stepN [] = stepN (Lib.compactUpTo zs.toArray m) zs[m] := by
        rw [List.take_succ_eq_append_getElem (by omega), List.foldl_append, ← h1]
        rfl
      have hnew : ∀ b, b = true → Lib.compactUpTo zs.toArray m ++ (if b = true then [zs.toArray[m]!] else []) = Lib.compactUpTo zs.toArray m ++ [zs[m]] := fun b hb => by rw [hb, if_pos rfl, hg]
      rw [Lib.compactUpTo_succ, hs]
      by_cases h0 : m = 0
      · have e : Lib.compactUpTo zs.toArray m = [] := by rw [h0]; rfl
        have hk : Lib.keeps zs.toArray m = true := by rw [h0]; rfl
        rw [hnew _ hk, stepN_new _ _ (.inl e), last_snoc]
        exact ⟨rfl, fun _ => ⟨by simp, hg.symm⟩⟩
      · obtain ⟨h3, h4⟩ := h2 (by omega)
        by_cases hk : zs.toArray[m]! = zs.toArray[m - 1]!
        · rw [Lib.keeps_neg (by omega) hk, stepN_old _ _ h3 (by rw [h4, ← hk, hg]), if_neg (by decide), List.append_nil]
          exact ⟨rfl, fun _ => ⟨h3, by rw [h4]; exact hk.symm⟩⟩
        · rw [hnew _ (Lib.keeps_pos hk), stepN_new _ _ (.inr (by rw [h4, ← hg]; exact fun e => hk e.symm)), last_snoc]
          exact ⟨rfl, fun _ => ⟨by simp, hg.symm⟩⟩
  have := (key zs.length (Nat.le_refl _)).1
  rw [List.take_of_length_le (Nat.le_refl _)] at this
  exact this
theorem raw_succ (C : List Ln) (h : Int) (k : Nat) (hk : k < C.length) : namRaw (C.take (k + 1)) h = namRaw (C.take k) h ++ (if (lnAt C k).head = h then [(lnAt C k).name] else []) := by
  unfold namRaw
  rw [List.take_succ_eq_append_getElem hk, List.filter_append, List.map_append, ← lnAt_get C k hk]
  congr 1
  by_cases e : (lnAt C k).head = h
  · rw [if_pos e, List.filter_cons_of_pos (by simpa using e)]; rfl
  · rw [if_neg e, List.filter_cons_of_neg (by simpa using e)]; rfl
theorem raw_len (C : List Ln) (h : Int) (k : Nat) : (namRaw (C.take k) h).length ≤ k := by
  unfold namRaw
  rw [List.length_map]
  exact Nat.le_trans (List.length_filter_le _ _) (List.length_take_le _ _)
theorem compact_len (zs : List (List UInt8)) : (Lib.compact zs).length ≤ zs.length := by
  unfold Lib.compact Lib.compactUpTo
  rw [List.length_map]
  exact Nat.le_trans (List.length_filter_le _ _) (by simp)
theorem compact_any (B : Nat) (A : Option Addr) (n c : Nat) (L : List (List UInt8)) (w : World) (h : w.ownsRow B 9 1 (.slice A n c) n (STR L)) (hB : B ≤ w.heap.size) :
    Calls Tryz.prog 56 #[.slice A n c] w fun e w' => ∃ A' c', e = .returned (.slice A' (Lib.compact L).length c') ∧ w'.ownsRow B 9 1 (.slice A' (Lib.compact L).length c') (Lib.compact L).length (STR (Lib.compact L)) ∧ Below B w w' := by
  have hl := h.1
  rw [STR_length, Nat.mul_one] at hl
  rcases Nat.eq_zero_or_pos n with h0 | h0
  · subst h0
    obtain rfl : L = [] := List.eq_nil_of_length_eq_zero hl
    refine (Any.slices_Compact_string_empty Tryz.lays194 A c w).mono ?_
    rintro e w' ⟨rfl, rfl⟩
    exact ⟨A, c, rfl, h, Below.refl _ _⟩
  · obtain ⟨g, rfl, hg1, hg2⟩ := own_some h h0
    have hsl := sl_lensS (own_sl h)
    have hm : STR L = L.map encStr := rfl
    obtain ⟨g', c', he, _, _, _, _, _, hH⟩ := Lib.holds_of_ownsRow (enc := encStr) (zs := L) h (fun h => by cases h)
    injection he with e1 e2 e3
    injection e1 with e1
    injection e1 with e1
    subst e1
    have := Any.slices_Compact_string Tryz.lays194 g 0 c L w hH (by omega) (by omega)
    rw [hl] at this
    refine this.mono ?_
    rintro e w' ⟨rfl, q, rfl⟩
    have hcl := compact_len L
    have h2 := Lib.ownsRow_putRow (q := q) (k := (Lib.compact L).length) (ys := Lib.compact L ++ List.replicate (L.length - (Lib.compact L).length) []) (enc := encStr) (zs := L) h (by rw [List.length_append, List.length_replicate]; omega) (by omega)
    rw [List.take_append_of_le_length (Nat.le_refl _), List.take_of_length_le (Nat.le_refl _)] at h2
    rw [hl] at h2
    exact ⟨some ⟨g, 0, none⟩, c, rfl, h2, Lib.below_putRow (Below.refl _ _) hg1⟩
def NamPost (B : Nat) (L : List (List UInt8)) (e : Ending) (w' : World) : Prop := ∃ A' c', e = .returned (.slice A' L.length c') ∧ w'.ownsRow B 9 1 (.slice A' L.length c') L.length (STR L)
theorem namPost_nil (B : Nat) (w : World) : NamPost B [] (.returned (.slice none 0 0)) w := ⟨none, 0, rfl, own_nilE _ _ _ _⟩
set_option maxRecDepth 100000 in
set_option maxHeartbeats 3200000 in
theorem Names_any (C : List Ln) (h : Int) (A : Option Addr) (n c : Nat) (w : World) (hsl : Sl w 4 (.slice A n c) (LNS C)) (hC : ∀ l ∈ C, LnOk l) (hen : Env w) :
    Calls Tryz.prog 17 #[.slice A n c, .int .i64 h] w fun e w' => NamPost w.heap.size (namC C h) e w' ∧ Below w.heap.size w w' := by
  have hn := (sl_lns hsl).1
  have HV0 : Hid (RightC C = false → namC C h = []) := fun hr => by unfold namC; rw [if_neg (by rw [hr]; simp)]
  have HV1 : Hid (h = 0 → namC C h = []) := fun hr => by unfold namC; rw [if_neg (fun h => h.2 hr)]
  have HV2 : Hid (RightC C = true → h ≠ 0 → namC C h = Lib.compact (namRaw C h)) := fun hr h0 => by unfold namC; rw [if_pos ⟨hr, h0⟩, compact_fold, fold_raw]
  have H64 : Hid (RightC C = true → n ≤ 64) := fun h => by have := ((RightC_iff C).1 h).2.2; omega
  have HRC := hid (Right_any C A n c w hsl hC hen)
  have HSL := hid hsl
  have HRS : Hid (∀ k < n, namRaw (C.take (k + 1)) h = namRaw (C.take k) h ++ (if (lnAt C k).head = h then [(lnAt C k).name] else [])) := fun k hk => raw_succ C h k (by omega)
  have HRZ : Hid (namRaw (C.take n) h = namRaw C h) := by show _ = _; rw [List.take_of_length_le (by omega)]
  have HRL : Hid (∀ k, (namRaw (C.take k) h).length ≤ k) := raw_len C h
  clear hsl hC hen hn
  generalize namC C h = V at *
  go_enter Tryz.func17, Tryz.ntmps17
  go_wp2_with fail
  refine HRC.out.mono ?_
  rintro e w1 ⟨rfl, hb1⟩
  clear HRC
  cases b1 : RightC C with
  | false =>
    have HE := hid (HV0.out b1)
    clear HV0 HV1 HV2 H64 HRS HRZ HRL b1
    go_wp2_with fail
    go_ret
    exact ⟨by rw [HE.out]; exact namPost_nil _ _, hb1⟩
  | true =>
    by_cases h0 : h = 0
    · have HE := hid (HV1.out h0)
      have t0 : (h == 0) = true := by simpa using h0
      clear HV0 HV1 HV2 H64 HRS HRZ HRL b1 h0
      go_wp2_with fail
      go_ret
      exact ⟨by rw [HE.out]; exact namPost_nil _ _, hb1⟩
    · have HE := hid (HV2.out b1 h0)
      have hn64 := H64.out b1
      have t0 : (h == 0) = false := by simpa using h0
      clear HV0 HV1 HV2 H64 b1 h0
      go_wp2_with fail
      go_loopw [5, 17] (fun v i wr => ∃ (k : Nat) (A' : Option Addr) (c' : Nat), k ≤ n ∧ i = .int .i64 k ∧ v = .slice A' (namRaw (C.take k) h).length c' ∧ wr.ownsRow w.heap.size 9 1 (.slice A' (namRaw (C.take k) h).length c') (namRaw (C.take k) h).length (STR (namRaw (C.take k) h)) ∧ Below w.heap.size w wr) (fun _ i _ => n - (intOf i).toNat)
      case atStart => exact ⟨0, none, 0, Nat.zero_le _, rfl, rfl, own_nilE _ _ _ _, hb1⟩
      case round =>
        obtain ⟨k, A1, c1, hk, rfl, rfl, ho1, hbr⟩ := hrel
        by_cases hlt : k < n
        · obtain ⟨b, off, rfl, hbl, hcl⟩ := sl_ln (HSL.out.below hbr) hlt
          have HR1 := hid (HRS.out k hlt)
          have hrl := HRL.out k
          obtain ⟨hb2, hg2, hl2⟩ := box1 wr (.cells (lnV (lnAt C k)) 29)
          clear HRS HRZ HRL
          generalize lnAt C k = l at *
          generalize namRaw (C.take k) h = R at *
          go_upto_region 7 with (first | refine wpList_load_mid rfl 29 (.tmp 19) rfl b (off + k * 4) rfl (lnC l) _ hcl Tryz.underlying29 rfl i4 ?_ | refine wpList_store_last rfl 29 (.tmp 7) (.tmp 20) rfl (lnV l) rfl rfl i4 rfl (lnV_one _) ?_)
          generalize wr.alloc (.cells (lnV l) 29) = w2 at *
          have hbw2 := hbr.trans (hb2.mono hbr.size)
          have ho2 := own_below ho1 hb2
          have q0 : w2.cell? ⟨wr.heap.size, 0, none⟩ = some (.int .i64 l.head) := by rw [blkCell hg2 0]; rfl
          have q1 : w2.cell? ⟨wr.heap.size, 1, none⟩ = some (.string (S8 l.name)) := by rw [blkCell hg2 1]; rfl
          clear hcl hg2 ho1 hb2 hbr
          by_cases e : l.head = h
          · have te : (l.head == h) = true := by simpa using e
            rw [if_pos e] at HR1
            have hsl1 : Sl (w2.alloc (.cells #[.string (S8 l.name)] 9)) 1 (.slice (some ⟨w2.heap.size, 0, none⟩) 1 1) (STR [l.name]) := own_sl (own_made w2 0 9 1 1 #[.string (S8 l.name)] (STR [l.name]) (Nat.zero_le _) rfl rfl (by omega) (by omega))
            have hba := (Below.refl w2.heap.size w2).alloc (Nat.le_refl _) (.cells #[.string (S8 l.name)] 9)
            have ho3 := own_below ho2 hba
            have hbw3 := hbw2.trans (hba.mono hbw2.size)
            clear hba ho2 e
            go_wp2_with (at_builtin; refine wpList_app rfl (.tmp 25) (.tmp 28) st_strs rfl w.heap.size rfl ho3 rfl hsl1 (STR_one _) (by simp [maxLen]; omega) (by omega) hbw3.size ?_)
            intro A9 c9 w5 ho9 hg9 _
            have hb9 := hbw3.trans ((grown_below ho3 hg9 hbw3.size).mono (Nat.le_refl _))
            clear ho3 hbw3 hsl1 hg9 hbw2 q0 q1
            rw [← STR_append, ← HR1.out, show R.length + 1 = (namRaw (C.take (k + 1)) h).length by rw [HR1.out]; simp] at ho9
            have HLL : Hid (R.length + 1 = (namRaw (C.take (k + 1)) h).length) := by show _ = _; rw [HR1.out]; simp
            go_wp2_with fail
            go_light
            exact ⟨⟨k + 1, A9, c9, by omega, by go_num, by rw [← HLL.out], ho9, hb9⟩, by simp [intOf]; omega⟩
          · have te : (l.head == h) = false := by simpa using e
            rw [if_neg e, List.append_nil] at HR1
            clear e
            go_wp2_with fail
            go_light
            exact ⟨⟨k + 1, A1, c1, by omega, by go_num, by rw [HR1.out], by rw [HR1.out]; exact ho2, hbw2⟩, by simp [intOf]; omega⟩
        · obtain rfl : k = n := by omega
          have HZ := hid HRZ.out
          clear HRS HRL HRZ
          generalize namRaw (C.take k) h = R at *
          have HCO := hid (compact_any w.heap.size A1 R.length c1 R wr ho1 hbr.size)
          have HVV : Hid (V = Lib.compact R) := by show _ = _; rw [HE.out, ← HZ.out]
          clear HE HZ ho1
          generalize Lib.compact R = V2 at *
          go_wp2_with fail
          refine HCO.out.mono ?_
          rintro e w9 ⟨A9, c9, rfl, hs9, hb9⟩
          have HS9 := hid hs9
          clear HCO hs9
          go_wp2_with fail
          go_ret
          exact ⟨by rw [HVV.out]; exact ⟨A9, c9, rfl, HS9.out⟩, hbr.trans hb9⟩
end CF
end Go.Proofs.YtecfkhgocjbocaaGreatDoor
