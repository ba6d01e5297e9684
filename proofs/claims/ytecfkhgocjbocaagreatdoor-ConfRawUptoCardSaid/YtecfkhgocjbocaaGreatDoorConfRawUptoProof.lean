/-
  The statement ConfRaw.
  The second form: arguments of bulk at most 1048576.
  (The contract of package conf: Put, and the walk of ConfRaw, stand in this text, too.)
-/
import Derived.Test.YtecfkhgocjbocaaGreatDoorCzC
import Derived.Test.YtecfkhgocjbocaaGreatDoorCzD
import Derived.Test.YtecfkhgocjbocaaGreatDoorRows
import Derived.Test.YtecfkhgocjbocaaGreatDoorCards
import Derived.Test.YtecfkhgocjbocaaGreatDoorTie
import Derived.WalkKit
import Derived.ProofKit
import Derived.OpenShut
import Derived.ShutString
import Derived.ChangeOld
import Derived.Below
import Derived.SizedLaws
import Derived.Lay
import Derived.LaidLaws
import Derived.LaidSub
import Derived.MakeChecks
import Derived.Lib.LaidTab
import Derived.Deep.DeepHandedRow
import Derived.LaidOnce
import Derived.SevenTiedAt
namespace Go.Proofs.YtecfkhgocjbocaaGreatDoor
set_option linter.unusedVariables false
set_option linter.unusedSimpArgs false
open Go Go.RowKit

namespace CF
/-- append of a string, in the walk -/
theorem wpList_appT {w : World} {ops : Array Oper} {rest : List Oper} {o : Oper} {a : Act} {Q : Exit → Act → World → Prop} (hgd : o.guard = none) (s x : Operand)
    (ho : o.op = .call { callee := .builtin .append, args := #[s, x], argTypes := #[38, 9] })
    (base : Nat) {n c : Nat} {A : Option Addr} {P r Z : List UInt8} (hs : a.eval s = .slice A n c) (hown : w.ownsRow base 5 1 (.slice A n c) n (B8 P))
    (hx : a.eval x = .string (S8 r)) (hz : Z = P ++ r) (hb : n + r.length ≤ 140737488355328) (hbase : base ≤ w.heap.size)
    (h : ∀ A' c' w', w'.ownsRow base 5 1 (.slice A' (n + r.length) c') (n + r.length) (B8 Z) → w.grownBy w' (Value.ownBlock (.slice A n c)) →
      wpList Tryz.prog ops Q rest (a.put o.dst (.slice A' (n + r.length) c')) w') : wpList Tryz.prog ops Q (o :: rest) a w :=
  wpList_plain hgd fun _ hK => by
    obtain ⟨i0, hi0, hz0, hzs, hzb⟩ := info_parts info_bt
    obtain ⟨A', c', w', hr, h2, h3, h4⟩ := app_str (P := Tryz.prog) w (t := 38) (u := 9) (e := 5) o.type Tryz.underlying38 Tryz.underlying9 hi0 hz0 hzs hzb base n c A (B8 P) hown r hb hbase
    unfold Oper.wp execOp
    simp only [ho, resolve, invoke, builtin, Sem.run_bind, Sem.run_pure, Result.andThen_ok, List.map_toArray, List.map_cons, List.map_nil, hs, hx, hr]
    rw [← B8_append, ← hz] at h2
    exact hK _ _ (h A' c' w' h2 h3)
theorem takeS_put (s r : List UInt8) (h : s.length ≤ 255) : takeS (bt s.length :: (s ++ r)) = some (s, r) := by
  have e := bt_nat s.length (by omega)
  show (if (bt s.length).toNat ≤ (s ++ r).length then some ((s ++ r).take (bt s.length).toNat, (s ++ r).drop (bt s.length).toNat) else none) = _
  rw [e, if_pos (by simp), List.take_left, List.drop_left]
theorem takeL_put (l : Ln) (r : List UInt8) (h : LnB l) : takeL (lineP l ++ r) = some (l, r) := by
  obtain ⟨h0, h1, h2, h3, h4⟩ := h
  have e : lineP l ++ r = bt l.head.toNat :: (bt l.name.length :: (l.name ++ (bt l.leaf.length :: (l.leaf ++ (bt l.value.length :: (l.value ++ r)))))) := by
    unfold lineP
    simp only [List.append_assoc, List.cons_append, List.nil_append]
  rw [e]
  have k1 := takeS_put l.name (bt l.leaf.length :: (l.leaf ++ (bt l.value.length :: (l.value ++ r)))) h2
  have k2 := takeS_put l.leaf (bt l.value.length :: (l.value ++ r)) h3
  have k3 := takeS_put l.value r h4
  unfold takeL
  simp only [k1, k2, k3]
  have hh := bt_nat l.head.toNat (by omega)
  rw [hh, Int.toNat_of_nonneg h0]
theorem getG_put (C : List Ln) (h : ∀ l ∈ C, LnB l) : getG (putC C) = some C := by
  induction C with
  | nil => rfl
  | cons l r ih =>
    have e : putC (l :: r) = lineP l ++ putC r := by unfold putC; rw [List.flatMap_cons]
    rw [e, getG_some _ l (putC r) (takeL_put l _ (h l List.mem_cons_self)), ih fun x hx => h x (List.mem_cons_of_mem _ hx)]
    rfl
theorem get_put (C : List Ln) (h : RightC C = true) : getE (putC C) = 0 ∧ getC (putC C) = C := by
  have := getG_put C fun l hl => right_lnb l (((RightC_iff C).1 h).1 l hl)
  unfold getE getC
  rw [this]
  simp only [h, if_true]
  exact ⟨trivial, trivial⟩
/-- a line's bytes, of its first texts -/
def partsL (l : Ln) : List (List UInt8) := [l.name, l.leaf, l.value]
def lineTo (l : Ln) (j : Nat) : List UInt8 := bt l.head.toNat :: ((partsL l).take j).flatMap fun s => bt s.length :: s
theorem lineTo_all (l : Ln) : lineTo l 3 = lineP l := by
  unfold lineTo partsL lineP
  simp only [List.take_succ_cons, List.take_zero, List.flatMap_cons, List.flatMap_nil, List.append_nil, List.cons_append, List.nil_append, List.append_assoc]
def partAt (l : Ln) (j : Nat) : List UInt8 := (partsL l).getD j []
theorem lineTo_succ (l : Ln) (j : Nat) (hj : j < 3) : lineTo l (j + 1) = lineTo l j ++ [bt (partAt l j).length] ++ partAt l j := by
  have hl : j < (partsL l).length := hj
  unfold lineTo
  rw [List.take_succ_eq_append_getElem hl, List.flatMap_append]
  have : partAt l j = (partsL l)[j] := by unfold partAt; rw [List.getD_eq_getElem?_getD, List.getElem?_eq_getElem hl]; rfl
  rw [this]
  simp
theorem partAt_len (l : Ln) (h : LnB l) (j : Nat) : (partAt l j).length ≤ 255 := by
  obtain ⟨_, _, h1, h2, h3⟩ := h
  unfold partAt partsL
  match j with
  | 0 => exact h1
  | 1 => exact h2
  | 2 => exact h3
  | j + 3 => simp
theorem lineTo_len (l : Ln) (h : LnB l) (j : Nat) (hj : j ≤ 3) : (lineTo l j).length ≤ 1 + j * 256 := by
  induction j with
  | zero => exact Nat.le_refl _
  | succ j ih =>
    have := ih (by omega)
    have := partAt_len l h j
    rw [lineTo_succ l j (by omega)]
    simp only [List.length_append, List.length_cons, List.length_nil]
    omega
def PutPost (B : Nat) (C : List Ln) (e : Ending) (w' : World) : Prop := ∃ A' c', e = .returned (.tuple #[.slice A' (if RightC C = true then putC C else []).length c', .int .i64 (if RightC C = true then 0 else 1)]) ∧ w'.ownsRow B 5 1 (.slice A' (if RightC C = true then putC C else []).length c') (if RightC C = true then putC C else []).length (B8 (if RightC C = true then putC C else []))
set_option maxRecDepth 100000 in
set_option maxHeartbeats 6400000 in
theorem confPut_any (C : List Ln) (A : Option Addr) (n c : Nat) (w : World) (hsl : Sl w 4 (.slice A n c) (LNS C)) (hC : ∀ l ∈ C, LnOk l) (hen : Env w) :
    Calls Tryz.prog 44 #[.slice A n c] w fun e w' => PutPost w.heap.size C e w' ∧ Below w.heap.size w w' := by
  have hl1 := (sl_lns hsl).1
  have HRC := hid (Right_any C A n c w hsl hC hen)
  have HSL := hid hsl
  have HLB : Hid (RightC C = true → ∀ k < n, LnB (lnAt C k)) := fun hr k hk => right_lnb _ (((RightC_iff C).1 hr).1 _ (by rw [lnAt_get C k (by omega)]; exact List.getElem_mem _))
  have HN : Hid (RightC C = true → n ≤ 64) := fun hr => by have := ((RightC_iff C).1 hr).2.2; omega
  have HTK : Hid (∀ k < n, putC (C.take (k + 1)) = putC (C.take k) ++ lineP (lnAt C k)) := fun k hk => flat_succ C _ k (by omega)
  have HTZ : Hid (putC (C.take n) = putC C) := by show _ = _; rw [List.take_of_length_le (by omega)]
  have HTL : Hid (RightC C = true → ∀ k, k ≤ n → (putC (C.take k)).length ≤ 51200) := fun hr k hk => by
    have h1 := putC_len (C.take k) (fun l hl => right_lnb l (((RightC_iff C).1 hr).1 l (List.mem_of_mem_take hl)))
    have h2 : (C.take k).length ≤ 64 := by have := ((RightC_iff C).1 hr).2.2; rw [List.length_take]; omega
    have h3 : (C.take k).length * 800 ≤ 64 * 800 := Nat.mul_le_mul_right _ h2
    omega
  have HP0 : Hid (RightC C = false → ∀ w', PutPost w.heap.size C (.returned (.tuple #[.slice none 0 0, .int .i64 1])) w') := fun hr w' => by
    unfold PutPost
    rw [hr]
    exact ⟨none, 0, rfl, own_nilE _ _ _ _⟩
  have HP1 : Hid (RightC C = true → ∀ A' c' w', w'.ownsRow w.heap.size 5 1 (.slice A' (putC C).length c') (putC C).length (B8 (putC C)) → PutPost w.heap.size C (.returned (.tuple #[.slice A' (putC C).length c', .int .i64 0])) w') := fun hr A' c' w' ho => by
    unfold PutPost
    rw [if_pos hr, if_pos hr]
    exact ⟨A', c', rfl, ho⟩
  clear hsl hC hen hl1
  go_enter Tryz.func44, Tryz.ntmps44
  go_wp2_with fail
  refine HRC.out.mono ?_
  rintro e w1 ⟨rfl, hb1⟩
  clear HRC
  cases b1 : RightC C with
  | false =>
    have HE := hid (HP0.out b1)
    clear HP0 HP1 HLB HN HTK HTZ HTL b1
    go_wp2_with fail
    go_ret2
    exact ⟨HE.out w1, hb1⟩
  | true =>
    have hn64 := HN.out b1
    have HB := hid (HLB.out b1)
    have HL := hid (HTL.out b1)
    have HE := hid (HP1.out b1)
    clear HLB HN HTL HP0 HP1 b1
    go_wp2_with fail
    go_loopw [4, 14] (fun v i wr => ∃ (k : Nat) (A1 : Option Addr) (c1 : Nat), k ≤ n ∧ i = .int .i64 k ∧ v = .slice A1 (putC (C.take k)).length c1 ∧ wr.ownsRow w.heap.size 5 1 (.slice A1 (putC (C.take k)).length c1) (putC (C.take k)).length (B8 (putC (C.take k))) ∧ Below w.heap.size w wr) (fun _ i _ => n - (intOf i).toNat)
    case atStart => exact ⟨0, none, 0, Nat.zero_le _, rfl, rfl, own_nilE _ _ _ _, hb1⟩
    case round =>
      clear hb1
      obtain ⟨k, A1, c1, hk, rfl, rfl, ho, hbr⟩ := hrel
      by_cases hlt : k < n
      · obtain ⟨b, off, rfl, hbl, hcl⟩ := sl_ln (HSL.out.below hbr) hlt
        have hlb := HB.out k hlt
        have HT1 := hid (HTK.out k hlt)
        have htl := HL.out k hk
        obtain ⟨hb2, hg2, hl2⟩ := box1 wr (.cells (lnV (lnAt C k)) 29)
        have ho2 := own_below ho hb2
        have hbw2 := hbr.trans (hb2.mono hbr.size)
        clear HTK HTZ HL HB HE ho
        generalize lnAt C k = l at *
        generalize putC (C.take k) = P at *
        have HLL : Hid (∀ j, j ≤ 3 → (lineTo l j).length ≤ 769) := fun j hj => by have := lineTo_len l hlb j hj; omega
        have HPL : Hid (∀ j, (partAt l j).length ≤ 255) := partAt_len l hlb
        have hh : l.head.toNat < 256 := by have := hlb.1; have := hlb.2.1; omega
        have hwr : IntKind.u8.wrap l.head = l.head := by have := hlb.1; have := hlb.2.1; rw [IntKind.wrap_u8]; omega
        have HB8 : Hid (#[Value.int .u8 l.head] = (B8 [bt l.head.toNat]).toArray) := by
          have := hlb.1
          show _ = _
          simp only [B8, List.map_cons, List.map_nil, bt_nat l.head.toNat hh, Int.toNat_of_nonneg this]
        go_upto_region 7 with (first | refine wpList_load_mid rfl 29 (.tmp 16) rfl b (off + k * 4) rfl (lnC l) _ hcl Tryz.underlying29 rfl i4 ?_ | refine wpList_store_last rfl 29 (.tmp 6) (.tmp 17) rfl (lnV l) rfl rfl i4 rfl (lnV_one _) ?_)
        generalize wr.alloc (.cells (lnV l) 29) = w2 at *
        have q0 : w2.cell? ⟨wr.heap.size, 0, none⟩ = some (.int .i64 l.head) := by rw [blkCell hg2 0]; rfl
        have hsl1 : Sl (w2.alloc (.cells #[.int .u8 l.head] 5)) 1 (.slice (some ⟨w2.heap.size, 0, none⟩) 1 1) (B8 [bt l.head.toNat]) := own_sl (own_made w2 0 5 1 1 _ (B8 [bt l.head.toNat]) (Nat.zero_le _) HB8.out (by simp [B8]) (by omega) (by omega))
        have hba := (Below.refl w2.heap.size w2).alloc (Nat.le_refl _) (.cells #[.int .u8 l.head] 5)
        have ho3 := own_below ho2 hba
        have hbw3 := hbw2.trans (hba.mono hbw2.size)
        have hg3 := blk_below hg2 hba (blk_lt hg2)
        clear hcl ho2 hba hg2
        go_upto_region 8 with (at_builtin; refine wpList_app rfl (.tmp 18) (.tmp 22) st_bts rfl w.heap.size rfl ho3 rfl hsl1 (B8_one _) (by simp [maxLen]; omega) (by omega) hbw3.size ?_)
        intro A4 c4 w4 ho4 hg4 _
        have hb4' := grown_below ho3 hg4 hbw3.size
        have hbw4 := hbw3.trans (hb4'.mono (Nat.le_refl _))
        have hgx4 : w4.heap[wr.heap.size]? = some (.cells (lnV l) 29 (0, 0)) := (hg4.block wr.heap.size (blk_lt hg3) (fun e => own_ne ho3 hg3 (by decide) e.symm)).trans hg3
        rw [← B8_append, show P ++ [bt l.head.toNat] = P ++ lineTo l 0 from rfl] at ho4
        have p1 : w4.cell? ⟨wr.heap.size, 1, none⟩ = some (.string (S8 l.name)) := by rw [blkCell hgx4 1]; rfl
        have p2 : w4.cell? ⟨wr.heap.size, 2, none⟩ = some (.string (S8 l.leaf)) := by rw [blkCell hgx4 2]; rfl
        have p3 : w4.cell? ⟨wr.heap.size, 3, none⟩ = some (.string (S8 l.value)) := by rw [blkCell hgx4 3]; rfl
        obtain ⟨hb5, hg5, hl5⟩ := box1 w4 (.cells #[.string (S8 l.name), .string (S8 l.leaf), .string (S8 l.value)] 9)
        have ho5 := own_below ho4 hb5
        have hbw5 := hbw4.trans (hb5.mono hbw4.size)
        clear hg4 hb4' hgx4 ho4 ho3 hbw3 hsl1 hg3 hb2 q0 hb5 hl5 hwr HB8 hl2
        go_wp2_with fail
        obtain ⟨g5, hg5e⟩ : ∃ g, g = w4.heap.size := ⟨_, rfl⟩
        rw [← hg5e] at hg5 ⊢
        clear hg5e
        generalize w4.alloc (.cells #[.string (S8 l.name), .string (S8 l.leaf), .string (S8 l.value)] 9) = w5 at *
        have HO5 := hid ho5
        have hP0 : P.length + 1 = (P ++ lineTo l 0).length := by simp [lineTo]
        rw [hP0] at HO5 ⊢
        clear ho5 hbw4 p1 p2 p3 hbr hbw2
        have HQ0 : ∃ Q, Hid (Q = P ++ lineTo l 0) := ⟨_, rfl⟩
        obtain ⟨Q0, HQ0⟩ := HQ0
        rw [← HQ0.out] at HO5 ⊢
        clear hP0
        go_loopw [4, 32] (fun v i wq => ∃ (j : Nat) (Q : List UInt8) (A6 : Option Addr) (c6 : Nat), j ≤ 3 ∧ i = .int .i64 j ∧ v = .slice A6 Q.length c6 ∧ Hid (Q = P ++ lineTo l j) ∧ wq.ownsRow w.heap.size 5 1 (.slice A6 Q.length c6) Q.length (B8 Q) ∧ Below w.heap.size w wq ∧ wq.heap[g5]? = some (.cells #[.string (S8 l.name), .string (S8 l.leaf), .string (S8 l.value)] 9 (0, 0))) (fun _ i _ => 3 - (intOf i).toNat)
        case atStart => exact ⟨0, Q0, A4, c4, by omega, rfl, rfl, HQ0, HO5.out, hbw5, hg5⟩
        case round =>
          clear HO5 hbw5 hg5 HQ0
          obtain ⟨j, Q, A6, c6, hj, rfl, rfl, HQ, hoq, hbq, hgq⟩ := hrel
          have hQl : Q.length ≤ 51969 := by rw [HQ.out, List.length_append]; have := HLL.out j hj; omega
          by_cases hlt3 : j < 3
          · have hx : wr.cell? ⟨g5, j, none⟩ = some (.string (S8 (partAt l j))) := by
              rw [blkCell hgq j]
              match j, hlt3 with
              | 0, _ => rfl
              | 1, _ => rfl
              | 2, _ => rfl
            have hpl := HPL.out j
            have HS : Hid (lineTo l (j + 1) = lineTo l j ++ [bt (partAt l j).length] ++ partAt l j) := lineTo_succ l j hlt3
            generalize partAt l j = s at *
            have HB8 : Hid (#[Value.int .u8 ((S8 s).size : Int)] = (B8 [bt s.length]).toArray) := by
              show _ = _
              simp only [B8, List.map_cons, List.map_nil, bt_nat s.length (by omega), S8_size]
            have hw1 : IntKind.u8.wrap ((S8 s).size : Int) = ((S8 s).size : Int) := by rw [S8_size, IntKind.wrap_u8]; omega
            have hsl1 : Sl (wr.alloc (.cells #[.int .u8 ((S8 s).size : Int)] 5)) 1 (.slice (some ⟨wr.heap.size, 0, none⟩) 1 1) (B8 [bt s.length]) := own_sl (own_made wr 0 5 1 1 _ (B8 [bt s.length]) (Nat.zero_le _) HB8.out (by simp [B8]) (by omega) (by omega))
            have hba := (Below.refl wr.heap.size wr).alloc (Nat.le_refl _) (.cells #[.int .u8 ((S8 s).size : Int)] 5)
            have ho7 := own_below hoq hba
            have hbw7 := hbq.trans (hba.mono hbq.size)
            have hg7 := blk_below hgq hba (blk_lt hgq)
            clear hba hoq
            go_wp2_with (at_builtin; refine wpList_app rfl (.tmp 36) (.tmp 40) st_bts rfl w.heap.size rfl ho7 rfl hsl1 (B8_one _) (by simp [maxLen]; omega) (by omega) hbw7.size ?_)
            intro A8 c8 w8 ho8 hg8 _
            have hb8 := hbw7.trans ((grown_below ho7 hg8 hbw7.size).mono (Nat.le_refl _))
            have hgx8 : w8.heap[g5]? = some (.cells #[.string (S8 l.name), .string (S8 l.leaf), .string (S8 l.value)] 9 (0, 0)) := (hg8.block g5 (blk_lt hg7) (fun e => own_ne ho7 hg7 (by decide) e.symm)).trans hg7
            rw [← B8_append] at ho8
            clear ho7 hg8 hg7 hsl1 hbw7
            go_wp2_with (at_builtin; refine wpList_appT (r := s) (Z := Q ++ [bt s.length] ++ s) rfl (.tmp 41) (.tmp 42) rfl w.heap.size rfl ho8 rfl rfl (by omega) hb8.size ?_)
            intro A9 c9 w9 ho9 hg9
            have hb9 := hb8.trans ((grown_below ho8 hg9 hb8.size).mono (Nat.le_refl _))
            have hgx9 : w9.heap[g5]? = some (.cells #[.string (S8 l.name), .string (S8 l.leaf), .string (S8 l.value)] 9 (0, 0)) := (hg9.block g5 (blk_lt hgx8) (fun e => own_ne ho8 hgx8 (by decide) e.symm)).trans hgx8
            have HQZ : Hid (Q.length + 1 + s.length = (Q ++ [bt s.length] ++ s).length) := by show _ = _; simp; omega
            rw [HQZ.out, show Q ++ bt s.length :: s = Q ++ [bt s.length] ++ s by simp] at ho9
            have HQ9 : Hid (Q ++ [bt s.length] ++ s = P ++ lineTo l (j + 1)) := by show _ = _; rw [HQ.out, HS.out]; simp only [List.append_assoc]
            have HO9 := hid ho9
            clear ho8 hgx8 hg9 hb8 ho9 HQ HS
            go_wp2_with fail
            go_light
            exact ⟨⟨j + 1, Q ++ [bt s.length] ++ s, A9, c9, by omega, by go_num, by rw [HQZ.out], HQ9, HO9.out, hb9, hgx9⟩, by simp [intOf]; omega⟩
          · obtain rfl : j = 3 := by omega
            have HQ9 : Hid (Q = putC (C.take (k + 1))) := by show _ = _; rw [HQ.out, HT1.out, lineTo_all]
            rw [HQ9.out] at hoq
            have HO9 := hid hoq
            clear hoq HQ
            go_wp2_with fail
            go_light
            exact ⟨⟨k + 1, A6, c6, by omega, by go_num, by rw [HQ9.out], HO9.out, hbq⟩, by simp [intOf]; omega⟩
      · obtain rfl : k = n := by omega
        rw [HTZ.out] at ho
        rw [HTZ.out]
        have HO := hid ho
        clear HTK HTZ HL HB ho
        go_wp2_with fail
        go_ret2
        exact ⟨HE.out _ _ _ HO.out, hbr⟩
end CF
end Go.Proofs.YtecfkhgocjbocaaGreatDoor
namespace Go.Proofs.YtecfkhgocjbocaaGreatDoor
set_option linter.unusedVariables false
set_option linter.unusedSimpArgs false
open Go Go.RowKit

namespace CF
theorem sl_takeL {w : World} {A : Option Addr} {n c : Nat} {L : List Ln} (h : Sl w 4 (.slice A n c) (LNS L)) (k : Nat) (hk : k ≤ n) : Sl w 4 (.slice A k c) (LNS (L.take k)) := by
  have hl := (sl_lns h).1
  obtain ⟨A', n', c', he, _, hnc, hcm, hr⟩ := h
  injection he with e1 e2 e3
  subst e1; subst e2; subst e3
  refine ⟨_, _, _, rfl, by rw [LNS_length, List.length_take]; omega, by omega, hcm, fun h0 => ?_⟩
  obtain ⟨b, off, rfl, hlt, hc⟩ := hr (by omega)
  refine ⟨b, off, rfl, hlt, fun i hi => ?_⟩
  rw [hc i (by omega)]
  have e : LNS L = LNS (L.take k) ++ LNS (L.drop k) := by rw [← LNS_append, List.take_append_drop]
  rw [e, List.getElem?_append_left (by rw [LNS_length, List.length_take]; omega)]
def kZero : Ln := ⟨0, [], [], []⟩
theorem ln_builtZ : (Tryz.prog).built 29 [] = some (lnV kZero) := by kernel_rfl
theorem rln_builtZ : (Tryz.prog).built 48 [] = some (lnV kZero) := by kernel_rfl
theorem kz_ok : LnOk kZero := by unfold LnOk kZero; decide
def putZ (M : List Ln) : List UInt8 := if RightC M = true then putC M else []
theorem putZ_len (M : List Ln) (h : M.length ≤ 70) : (putZ M).length ≤ 56000 := by
  unfold putZ
  split
  · rename_i hr
    have h1 := putC_len M (fun l hl => right_lnb l (((RightC_iff M).1 hr).1 l hl))
    have h2 : M.length * 800 ≤ 70 * 800 := Nat.mul_le_mul_right _ h
    omega
  · exact Nat.zero_le _
set_option maxRecDepth 100000 in
set_option maxHeartbeats 6000000 in
theorem confRaw_walk (L : List Ln) (A : Option Addr) (n c : Nat) (i0 : Int) (w : World) (h : Sl w 4 (.slice A n c) (LNS L)) (hL : ∀ l ∈ L, LnOk l) (hen : Env w) :
    Calls Tryz.prog 10 #[.slice A n c, .int .i64 i0] w fun e w' => e = .returned (.bool true) ∧ Below w.heap.size w w' := by
  obtain ⟨hl1, hc1, hc2⟩ := sl_lns h
  have HEN : Hid (∀ w', Below w.heap.size w w' → Env w') := fun w' hb => hen.below hb
  have HT : Hid (∀ m, m ≤ n → Sl w 4 (.slice A m c) (LNS (L.take m))) := fun m hm => sl_takeL h m hm
  have HOK : Hid (∀ m, ∀ l ∈ L.take m, LnOk l) := fun m l hl => hL l (List.mem_of_mem_take hl)
  clear h hL hen
  go_enter Tryz.func10, Tryz.ntmps10
  go_upto_region 1 with fail
  go_cut [0] (fun s wx => ∃ m : Nat, m ≤ n ∧ m ≤ 70 ∧ s = .slice A m c ∧ w = wx)
  case first =>
    by_cases hn : n ≤ 70
    · as_aux_lemma =>
        go_wp2_with fail
        all_goals go_meet
        all_goals go_light
        exact ⟨n, Nat.le_refl _, hn, by rw [show (min (n : Int) 70).toNat = n by omega], rfl⟩
    · as_aux_lemma =>
        go_wp2_with fail
        all_goals go_meet
        all_goals go_light
        exact ⟨70, by omega, by omega, by rw [show (min (n : Int) 70).toNat = 70 by omega], rfl⟩
  case rest =>
    obtain ⟨m, hm, hm70, rfl, hwc⟩ := hcut
    subst hwc
    obtain ⟨M, hM⟩ : ∃ M, M = L.take m := ⟨_, rfl⟩
    have HS0 : Hid (Sl w 4 (.slice A m c) (LNS M)) := by rw [hM]; exact HT.out m hm
    have HOM : Hid (∀ l ∈ M, LnOk l) := by rw [hM]; exact HOK.out m
    have hMl : M.length = m := by rw [hM, List.length_take]; omega
    have HML := hid hMl
    have hpz := putZ_len M (by omega)
    clear HT HOK hM hl1 hMl
    have HTO := hid (to_any M A m c w HS0.out (by omega))
    go_wp2_with fail
    refine HTO.out.mono ?_
    rintro e w1 ⟨A1, c1, rfl, ho1, hb1⟩
    replace HS0 := hid (HS0.out.below hb1)
    have HS1 := hid (own_sl ho1)
    have HPU : Hid (Calls Tryz.prog 44 #[.slice A1 m c1] w1 fun e w'' => (∃ A' c', e = .returned (.tuple #[.slice A' (putZ M).length c', .int .i64 (if RightC M = true then 0 else 1)]) ∧ Sl w'' 1 (.slice A' (putZ M).length c') (B8 (putZ M))) ∧ Below w1.heap.size w1 w'') :=
      (confPut_any M A1 m c1 w1 HS1.out HOM.out (HEN.out w1 hb1)).mono fun e w'' ⟨⟨A', c', h1, h2⟩, h3⟩ => ⟨⟨A', c', h1, own_sl h2⟩, h3⟩
    clear HTO ho1
    obtain ⟨PE, hPE⟩ : ∃ z : Int, z = if RightC M = true then 0 else 1 := ⟨_, rfl⟩
    rw [← hPE] at HPU
    have HPE := hid hPE
    clear hPE
    obtain ⟨PZ, hPZ⟩ : ∃ z, z = putZ M := ⟨_, rfl⟩
    rw [← hPZ] at HPU hpz
    have HPZ := hid hPZ
    clear hPZ
    go_wp2_with fail
    refine HPU.out.mono ?_
    rintro e w2 ⟨⟨Ab, cb, rfl, hsb⟩, hb2⟩
    have hbw2 := hb1.trans (hb2.mono hb1.size)
    replace HS0 := hid (HS0.out.below hb2)
    replace HS1 := hid (HS1.out.below hb2)
    have HSB := hid hsb
    obtain ⟨hb3, hg3, hl3⟩ := box1 w2 (.cells (lnV kZero) 48)
    clear HPU hsb hb1 hb2
    go_upto_region 5 with (first | refine wpList_buildV rfl 48 [] rfl (some 27) rfl [] rfl (lnV kZero) rln_builtZ ?_ | refine wpList_store_last rfl 48 (.tmp 8) (.tmp 27) rfl (lnV kZero) rfl rfl k4 rfl (lnV_one _) ?_)
    generalize w2.alloc (.cells (lnV kZero) 48) = w3 at *
    go_upto_if 30 with fail
    go_cut [] (fun wx => ∃ x : Ln, LnOk x ∧ wx.heap[w2.heap.size]? = some (.cells (lnV x) 48 (0, 0)) ∧ Below w2.heap.size w2 wx)
    case first =>
      by_cases h0 : 0 < m
      · have en2 : IntKind.u64.wrap (m : Int) = m := by rw [IntKind.wrap_u64]; omega
        obtain ⟨k, hk, ek⟩ : ∃ k : Nat, k < m ∧ wrap64 ((IntKind.u64.wrap i0).tmod (m : Int)) = (k : Int) := by
          have h1 := Int.emod_nonneg (IntKind.u64.wrap i0) (show (m : Int) ≠ 0 by omega)
          have h2 := Int.emod_lt_of_pos (IntKind.u64.wrap i0) (show 0 < (m : Int) by omega)
          refine ⟨((IntKind.u64.wrap i0) % m).toNat, by omega, ?_⟩
          rw [Int.tmod_eq_emod_of_nonneg (by rw [IntKind.wrap_u64]; omega)]
          unfold wrap64
          omega
        obtain ⟨b, off, rfl, hbl, hcl⟩ := sl_ln (HS0.out.below hb3) hk
        have hox := HOM.out (lnAt M k) (by rw [lnAt_get M k (by have := HML.out; omega)]; exact List.getElem_mem _)
        generalize lnAt M k = x at *
        as_aux_lemma =>
          go_wp2_with (first | refine wpList_load_mid rfl 48 (.tmp 39) rfl b (off + k * 4) rfl (lnC x) _ hcl Tryz.underlying48 rfl k4 ?_ | refine wpList_store_whole rfl 48 (.tmp 8) (.tmp 40) rfl (lnV x) rfl rfl hg3 k4 rfl (lnV_one _) ?_)
          intro w' hgx hgr
          have hbz := grown1 hb3 hgr (Nat.le_refl _)
          go_wp2_with fail
          go_meet
          all_goals go_light
          exact ⟨x, hox, hgx, hbz⟩
      · have h00 : m = 0 := by omega
        as_aux_lemma =>
          go_wp2_with fail
          go_meet
          all_goals go_light
          exact ⟨kZero, kz_ok, hg3, hb3⟩
    case rest =>
      obtain ⟨x, hox, hgx, hbx⟩ := hcut
      have hbwx := hbw2.trans (hbx.mono hbw2.size)
      replace HS0 := hid (HS0.out.below hbx)
      replace HS1 := hid (HS1.out.below hbx)
      replace HSB := hid (HSB.out.below hbx)
      have hglt : w2.heap.size < wc.heap.size := blk_lt hgx
      clear hb3 hg3 hl3 hbx hbw2
      have HD1 := hid (fun w' (hb : Below wc.heap.size wc w') => Delete_any M x.head x.name x.leaf A1 m c1 w' (HS1.out.below hb) HOM.out (HEN.out w' (hbwx.trans (hb.mono hbwx.size))))
      have HD2 := hid (fun w' (hb : Below wc.heap.size wc w') => refDelete_any M x.head x.name x.leaf A m c w' (HS0.out.below hb) HOM.out (HEN.out w' (hbwx.trans (hb.mono hbwx.size))))
      have HV1 := hid (fun w' (hb : Below wc.heap.size wc w') => Value_any M x.head x.name x.leaf A1 m c1 w' (HS1.out.below hb) HOM.out (HEN.out w' (hbwx.trans (hb.mono hbwx.size))))
      have HV2 := hid (fun w' (hb : Below wc.heap.size wc w') => refValue_any M x.head x.name x.leaf A m c w' (HS0.out.below hb) HOM.out (HEN.out w' (hbwx.trans (hb.mono hbwx.size))))
      have HT1 := hid (fun w' (hb : Below wc.heap.size wc w') => Text_any M A1 m c1 w' (HS1.out.below hb) HOM.out (HEN.out w' (hbwx.trans (hb.mono hbwx.size))))
      have HT2 := hid (fun w' (hb : Below wc.heap.size wc w') => refText_any M A m c w' (HS0.out.below hb) HOM.out (HEN.out w' (hbwx.trans (hb.mono hbwx.size))))
      have HR1 := hid (fun w' (hb : Below wc.heap.size wc w') => Right_any M A1 m c1 w' (HS1.out.below hb) HOM.out (HEN.out w' (hbwx.trans (hb.mono hbwx.size))))
      have HR2 := hid (fun w' (hb : Below wc.heap.size wc w') => refRight_all M A m c w' (HS0.out.below hb) HOM.out (HEN.out w' (hbwx.trans (hb.mono hbwx.size))))
      have HWR := hid (fun w' (hb : Below wc.heap.size wc w') => writes_any w' (HEN.out w' (hbwx.trans (hb.mono hbwx.size))))
      have q0 : wc.cell? ⟨w2.heap.size, 0, none⟩ = some (.int .i64 x.head) := by rw [blkCell hgx 0]; rfl
      have q1 : wc.cell? ⟨w2.heap.size, 1, none⟩ = some (.string (S8 x.name)) := by rw [blkCell hgx 1]; rfl
      have q2 : wc.cell? ⟨w2.heap.size, 2, none⟩ = some (.string (S8 x.leaf)) := by rw [blkCell hgx 2]; rfl
      obtain ⟨DD, hDD⟩ : ∃ D, D = delC M x.head x.name x.leaf := ⟨_, rfl⟩
      obtain ⟨DE, hDE⟩ : ∃ D, D = delE M x.head x.name x.leaf := ⟨_, rfl⟩
      obtain ⟨TX, hTX⟩ : ∃ D, D = textC M := ⟨_, rfl⟩
      obtain ⟨VX, hVX⟩ : ∃ D, D = valC M x.head x.name x.leaf := ⟨_, rfl⟩
      obtain ⟨RX, hRX⟩ : ∃ D, D = RightC M := ⟨_, rfl⟩
      simp only [← hDD, ← hDE] at HD1 HD2
      simp only [← hTX] at HT1 HT2
      simp only [← hVX] at HV1 HV2
      simp only [← hRX] at HR1 HR2
      have HRX := hid hRX
      clear hDD hDE hTX hVX hRX
      go_wp2_with fail
      refine (HD1.out wc (Below.refl _ _)).mono ?_
      rintro e w5 ⟨⟨A5, c5, rfl, hs5⟩, hb5⟩
      have hgx5 := blk_below hgx hb5 hglt
      have q0 : w5.cell? ⟨w2.heap.size, 0, none⟩ = some (.int .i64 x.head) := by rw [blkCell hgx5 0]; rfl
      have q1 : w5.cell? ⟨w2.heap.size, 1, none⟩ = some (.string (S8 x.name)) := by rw [blkCell hgx5 1]; rfl
      have q2 : w5.cell? ⟨w2.heap.size, 2, none⟩ = some (.string (S8 x.leaf)) := by rw [blkCell hgx5 2]; rfl
      clear hs5 HD1
      go_wp2_with fail
      refine (HD2.out w5 hb5).mono ?_
      rintro e w6 ⟨⟨A6, c6, rfl, hs6⟩, hb6⟩
      have hbx6 := hb5.trans (hb6.mono hb5.size)
      have hgx6 := blk_below hgx hbx6 hglt
      have hgl6 := blk_lt hgx6
      clear hs6 HD2 q0 q1 q2 hgx5 hb5 hb6
      have z0 := box_z (S0 := fun _ => False) hgx6 (fun e => e) 0 _ rfl
      have z1 := box_z (S0 := fun _ => False) hgx6 (fun e => e) 1 _ rfl
      have z2 := box_z (S0 := fun _ => False) hgx6 (fun e => e) 2 _ rfl
      have HGX := hid hgx6
      have qe : (DE != DE) = false := by simp
      have qr : (RX != RX) = false := by simp
      have qt : (!((S8 TX).toList == (S8 TX).toList)) = false := by simp
      have qv : (!((S8 VX).toList == (S8 VX).toList)) = false := by simp
      obtain ⟨LE, hLE⟩ : ∃ D, D = lessL x kZero := ⟨_, rfl⟩
      have ql : (LE != LE) = false := by simp
      have HL1 : Hid (∀ w', Calls Tryz.prog 45 #[.agg (lnV x), .agg (lnV kZero)] w' fun e w'' => e = .returned (.bool LE) ∧ Below w'.heap.size w' w'') := by rw [hLE]; exact fun w' => less_any x kZero w'
      have HL2 : Hid (∀ w', Calls Tryz.prog 46 #[.agg (lnV x), .agg (lnV kZero)] w' fun e w'' => e = .returned (.bool LE) ∧ Below w'.heap.size w' w'') := by rw [hLE]; exact fun w' => refLess_any x kZero w'
      clear hLE
      obtain ⟨vz, hvz⟩ : ∃ z, z = lnV kZero := ⟨_, rfl⟩
      rw [← hvz] at HL1 HL2
      have HZ1 := hid ln_builtZ
      have HZ2 := hid rln_builtZ
      rw [← hvz] at HZ1 HZ2
      clear hvz hgx
      go_upto_region 9 with fail
      refine wp_region_loud (fun _ => False) [(0, plainL [] (.bool true)), (4, plainL [] (.bool RX)), (6, plainL [] (.bool RX)), (11, plainL [] (.string (S8 TX))), (13, plainL [] (.string (S8 TX))), (29, plainL [] (.string (S8 VX))), (37, plainL [] (.string (S8 VX))),
          (41, plainL [] (.agg (lnV x))), (42, rowL [] w6.heap.size 48 4 1 (LNS [x])), (43, factL [42] (fun v => ∃ g c, v = .slice (some ⟨g, 0, none⟩) 1 c) (fun v => OwnF w6.heap.size 29 4 1 (LNS [x]) v)), (45, plainL [43] (.agg (lnV x))), (46, plainL [] (.agg vz)), (47, plainL [] (.bool LE)), (48, plainL [] (.agg (lnV x))), (49, plainL [] (.agg vz)), (50, plainL [] (.bool LE))] (fun _ => Fact.none) (by kernel_rfl) (by kernel_rfl)
        (.cons (plainL_ok _ _) (.cons (plainL_ok _ _) (.cons (plainL_ok _ _) (.cons (plainL_ok _ _) (.cons (plainL_ok _ _) (.cons (plainL_ok _ _) (.cons (plainL_ok _ _) (.cons (plainL_ok _ _) (.cons (rowL_ok _ _ _ _ _ _) (.cons (factL_ok ⟨_, 0, 0, rfl⟩ (fun v => good_own _ _ _ _ _ _)) (.cons (plainL_ok _ _) (.cons (plainL_ok _ _) (.cons (plainL_ok _ _) (.cons (plainL_ok _ _) (.cons (plainL_ok _ _) (.cons (plainL_ok _ _) .nil)))))))))))))))) good_nothing sat_none (WX.out ?_)
      repeat (first | (refine wx_quietU (by rfl) (by rfl) (by rfl) (fun K hK => ?_); go_big_quiet_op; refine hK _ ?_; clear hK K) | (refine wx_quietG (by rfl) (by rfl) (by rfl) (by rfl) (by rfl) (fun K hK => ?_); go_big_quiet_op; refine hK _ ?_; clear hK K) | (refine wx_skipG (by rfl) (by rfl) (by rfl) (fun K hK => ?_); go_simp; refine hK _ ?_; clear hK K) | (refine wx_skipN (by rfl) (by rfl) (by rfl) (fun K hK => ?_); go_simp; refine hK _ ?_; clear hK K))
      refine wx_loudU (us := []) (by rfl) (by rfl) (fun S wS hC hS hU => runs_enter (f := 15) (by go_simp <;> rfl) ?_) (fun v hv K hK => ?_)
      · refine (HWR.out wS (hbx6.trans (hC.below.mono hbx6.size))).mono ?_
        rintro e w' ⟨rfl, hb⟩
        exact ⟨_, rfl, rfl, Kept.of_below hb, trivial⟩
      obtain rfl := hv; (go_simp; refine hK _ ?_; clear hK K)
      repeat (first | (refine wx_quietU (by rfl) (by rfl) (by rfl) (fun K hK => ?_); go_big_quiet_op; refine hK _ ?_; clear hK K) | (refine wx_quietG (by rfl) (by rfl) (by rfl) (by rfl) (by rfl) (fun K hK => ?_); go_big_quiet_op; refine hK _ ?_; clear hK K) | (refine wx_skipG (by rfl) (by rfl) (by rfl) (fun K hK => ?_); go_simp; refine hK _ ?_; clear hK K) | (refine wx_skipN (by rfl) (by rfl) (by rfl) (fun K hK => ?_); go_simp; refine hK _ ?_; clear hK K))
      refine wx_loudG (us := []) (by rfl) (by rfl) (by rfl) (by rfl) (fun S wS hC hS hU => runs_enter (f := 33) (by go_simp <;> rfl) ?_) (fun v hv K hK => ?_)
      · refine (HR1.out wS (hbx6.trans (hC.below.mono hbx6.size))).mono ?_
        rintro e w' ⟨rfl, hb⟩
        exact ⟨_, rfl, rfl, Kept.of_below hb, trivial⟩
      obtain rfl := hv; (go_simp; refine hK _ ?_; clear hK K)
      repeat (first | (refine wx_quietU (by rfl) (by rfl) (by rfl) (fun K hK => ?_); go_big_quiet_op; refine hK _ ?_; clear hK K) | (refine wx_quietG (by rfl) (by rfl) (by rfl) (by rfl) (by rfl) (fun K hK => ?_); go_big_quiet_op; refine hK _ ?_; clear hK K) | (refine wx_skipG (by rfl) (by rfl) (by rfl) (fun K hK => ?_); go_simp; refine hK _ ?_; clear hK K) | (refine wx_skipN (by rfl) (by rfl) (by rfl) (fun K hK => ?_); go_simp; refine hK _ ?_; clear hK K))
      refine wx_loudG (us := []) (by rfl) (by rfl) (by rfl) (by rfl) (fun S wS hC hS hU => runs_enter (f := 43) (by go_simp <;> rfl) ?_) (fun v hv K hK => ?_)
      · refine (HR2.out wS (hbx6.trans (hC.below.mono hbx6.size))).mono ?_
        rintro e w' ⟨rfl, hb⟩
        exact ⟨_, rfl, rfl, Kept.of_below hb, trivial⟩
      obtain rfl := hv; (go_simp; refine hK _ ?_; clear hK K)
      repeat (first | (refine wx_quietU (by rfl) (by rfl) (by rfl) (fun K hK => ?_); go_big_quiet_op; refine hK _ ?_; clear hK K) | (refine wx_quietG (by rfl) (by rfl) (by rfl) (by rfl) (by rfl) (fun K hK => ?_); go_big_quiet_op; refine hK _ ?_; clear hK K) | (refine wx_skipG (by rfl) (by rfl) (by rfl) (fun K hK => ?_); go_simp; refine hK _ ?_; clear hK K) | (refine wx_skipN (by rfl) (by rfl) (by rfl) (fun K hK => ?_); go_simp; refine hK _ ?_; clear hK K))
      refine wx_loudG (us := []) (by rfl) (by rfl) (by rfl) (by rfl) (fun S wS hC hS hU => runs_enter (f := 31) (by go_simp <;> rfl) ?_) (fun v hv K hK => ?_)
      · refine (HT1.out wS (hbx6.trans (hC.below.mono hbx6.size))).mono ?_
        rintro e w' ⟨rfl, hb⟩
        exact ⟨_, rfl, rfl, Kept.of_below hb, trivial⟩
      obtain rfl := hv; (go_simp; refine hK _ ?_; clear hK K)
      repeat (first | (refine wx_quietU (by rfl) (by rfl) (by rfl) (fun K hK => ?_); go_big_quiet_op; refine hK _ ?_; clear hK K) | (refine wx_quietG (by rfl) (by rfl) (by rfl) (by rfl) (by rfl) (fun K hK => ?_); go_big_quiet_op; refine hK _ ?_; clear hK K) | (refine wx_skipG (by rfl) (by rfl) (by rfl) (fun K hK => ?_); go_simp; refine hK _ ?_; clear hK K) | (refine wx_skipN (by rfl) (by rfl) (by rfl) (fun K hK => ?_); go_simp; refine hK _ ?_; clear hK K))
      refine wx_loudG (us := []) (by rfl) (by rfl) (by rfl) (by rfl) (fun S wS hC hS hU => runs_enter (f := 32) (by go_simp <;> rfl) ?_) (fun v hv K hK => ?_)
      · refine (HT2.out wS (hbx6.trans (hC.below.mono hbx6.size))).mono ?_
        rintro e w' ⟨rfl, hb⟩
        exact ⟨_, rfl, rfl, Kept.of_below hb, trivial⟩
      obtain rfl := hv; (go_simp; refine hK _ ?_; clear hK K)
      repeat (first | (refine wx_quietU (by rfl) (by rfl) (by rfl) (fun K hK => ?_); go_big_quiet_op; refine hK _ ?_; clear hK K) | (refine wx_quietG (by rfl) (by rfl) (by rfl) (by rfl) (by rfl) (fun K hK => ?_); go_big_quiet_op; refine hK _ ?_; clear hK K) | (refine wx_skipG (by rfl) (by rfl) (by rfl) (fun K hK => ?_); go_simp; refine hK _ ?_; clear hK K) | (refine wx_skipN (by rfl) (by rfl) (by rfl) (fun K hK => ?_); go_simp; refine hK _ ?_; clear hK K))
      refine wx_loudG (us := []) (by rfl) (by rfl) (by rfl) (by rfl) (fun S wS hC hS hU => runs_enter (f := 16) (by go_simp <;> rfl) ?_) (fun v hv K hK => ?_)
      · refine (HV1.out wS (hbx6.trans (hC.below.mono hbx6.size))).mono ?_
        rintro e w' ⟨rfl, hb⟩
        exact ⟨_, rfl, rfl, Kept.of_below hb, trivial⟩
      obtain rfl := hv; (go_simp; refine hK _ ?_; clear hK K)
      repeat (first | (refine wx_quietU (by rfl) (by rfl) (by rfl) (fun K hK => ?_); go_big_quiet_op; refine hK _ ?_; clear hK K) | (refine wx_quietG (by rfl) (by rfl) (by rfl) (by rfl) (by rfl) (fun K hK => ?_); go_big_quiet_op; refine hK _ ?_; clear hK K) | (refine wx_skipG (by rfl) (by rfl) (by rfl) (fun K hK => ?_); go_simp; refine hK _ ?_; clear hK K) | (refine wx_skipN (by rfl) (by rfl) (by rfl) (fun K hK => ?_); go_simp; refine hK _ ?_; clear hK K))
      refine wx_loudG (us := []) (by rfl) (by rfl) (by rfl) (by rfl) (fun S wS hC hS hU => runs_enter (f := 28) (by go_simp <;> rfl) ?_) (fun v hv K hK => ?_)
      · refine (HV2.out wS (hbx6.trans (hC.below.mono hbx6.size))).mono ?_
        rintro e w' ⟨rfl, hb⟩
        exact ⟨_, rfl, rfl, Kept.of_below hb, trivial⟩
      obtain rfl := hv; (go_simp; refine hK _ ?_; clear hK K)
      repeat (first | (refine wx_quietU (by rfl) (by rfl) (by rfl) (fun K hK => ?_); go_big_quiet_op; refine hK _ ?_; clear hK K) | (refine wx_quietG (by rfl) (by rfl) (by rfl) (by rfl) (by rfl) (fun K hK => ?_); go_big_quiet_op; refine hK _ ?_; clear hK K) | (refine wx_skipG (by rfl) (by rfl) (by rfl) (fun K hK => ?_); go_simp; refine hK _ ?_; clear hK K) | (refine wx_skipN (by rfl) (by rfl) (by rfl) (fun K hK => ?_); go_simp; refine hK _ ?_; clear hK K))
      refine wx_loudG (us := []) (by rfl) (by rfl) (by rfl) (by rfl) (fun S wS hC hS hU => ?_) (fun v hv K hK => ?_)
      · exact runs_load_whole 48 (.tmp 8) rfl w2.heap.size rfl 48 (lnV x) (0, 0) _ (blk_below HGX.out hC.below hgl6) Tryz.underlying48 rfl k4 ⟨rfl, Kept.refl _ _, trivial⟩
      obtain rfl := hv; (go_simp; refine hK _ ?_; clear hK K)
      repeat (first | (refine wx_quietU (by rfl) (by rfl) (by rfl) (fun K hK => ?_); go_big_quiet_op; refine hK _ ?_; clear hK K) | (refine wx_quietG (by rfl) (by rfl) (by rfl) (by rfl) (by rfl) (fun K hK => ?_); go_big_quiet_op; refine hK _ ?_; clear hK K) | (refine wx_skipG (by rfl) (by rfl) (by rfl) (fun K hK => ?_); go_simp; refine hK _ ?_; clear hK K) | (refine wx_skipN (by rfl) (by rfl) (by rfl) (fun K hK => ?_); go_simp; refine hK _ ?_; clear hK K))
      refine wx_loudG (us := []) (by rfl) (by rfl) (by rfl) (by rfl) (fun S wS hC hS hU => ?_) (fun v hv K hK => ?_)
      · exact runs_build1 st_rls (.tmp 104) rfl (lnV x) rfl rfl (by omega) (by omega) (made_x rfl hC.below.size rfl rfl (by omega) (by omega))
      obtain ⟨A9, c9, rfl⟩ := hv; (go_simp; refine hK _ ?_; clear hK K)
      repeat (first | (refine wx_quietU (by rfl) (by rfl) (by rfl) (fun K hK => ?_); go_big_quiet_op; refine hK _ ?_; clear hK K) | (refine wx_quietG (by rfl) (by rfl) (by rfl) (by rfl) (by rfl) (fun K hK => ?_); go_big_quiet_op; refine hK _ ?_; clear hK K) | (refine wx_skipG (by rfl) (by rfl) (by rfl) (fun K hK => ?_); go_simp; refine hK _ ?_; clear hK K) | (refine wx_skipN (by rfl) (by rfl) (by rfl) (fun K hK => ?_); go_simp; refine hK _ ?_; clear hK K))
      refine wx_loudG (us := [42]) (by rfl) (by rfl) (by rfl) (by rfl) (fun S wS hC hS hU => runs_enter (f := 26) (by go_simp <;> rfl) ?_) (fun v hv K hK => ?_)
      · have k42 : OwnF w6.heap.size 48 4 1 (LNS [x]) (.slice A9 1 c9) S wS := hU 42 (by simp)
        refine (to_any [x] A9 1 c9 wS (own_sl k42.2) (by omega)).mono ?_
        rintro e w' ⟨A', c', rfl, ho, hb⟩
        obtain ⟨g', rfl, hg1, hg2⟩ := own_some ho (by omega)
        refine ⟨_, rfl, ⟨g', c', rfl⟩, Kept.of_below hb, fun g hg => .inr ?_, own_base ho hC.below.size⟩
        simp [Value.ownBlock] at hg
        subst hg
        exact ⟨hg1, hg2⟩
      obtain ⟨g9, c10, rfl⟩ := hv; (go_simp; refine hK _ ?_; clear hK K)
      repeat (first | (refine wx_quietU (by rfl) (by rfl) (by rfl) (fun K hK => ?_); go_big_quiet_op; refine hK _ ?_; clear hK K) | (refine wx_quietG (by rfl) (by rfl) (by rfl) (by rfl) (by rfl) (fun K hK => ?_); go_big_quiet_op; refine hK _ ?_; clear hK K) | (refine wx_skipG (by rfl) (by rfl) (by rfl) (fun K hK => ?_); go_simp; refine hK _ ?_; clear hK K) | (refine wx_skipN (by rfl) (by rfl) (by rfl) (fun K hK => ?_); go_simp; refine hK _ ?_; clear hK K))
      refine wx_loudG (us := [43]) (by rfl) (by rfl) (by rfl) (by rfl) (fun S wS hC hS hU => ?_) (fun v hv K hK => ?_)
      · have k43 : OwnF w6.heap.size 29 4 1 (LNS [x]) (.slice (some ⟨g9, 0, none⟩) 1 c10) S wS := hU 43 (by simp)
        obtain ⟨bo, oo, eo, _, po⟩ := sl_ln (own_sl k43.2) (k := 0) (by omega)
        injection eo with eo
        injection eo with e1 e2
        subst e1; subst e2
        exact runs_load_mid 29 (.tmp 107) rfl g9 0 rfl (lnC x) _ po Tryz.underlying29 rfl i4 ⟨rfl, Kept.refl _ _, trivial⟩
      obtain rfl := hv; (go_simp; refine hK _ ?_; clear hK K)
      repeat (first | (refine wx_quietU (by rfl) (by rfl) (by rfl) (fun K hK => ?_); go_big_quiet_op; refine hK _ ?_; clear hK K) | (refine wx_quietG (by rfl) (by rfl) (by rfl) (by rfl) (by rfl) (fun K hK => ?_); go_big_quiet_op; refine hK _ ?_; clear hK K) | (refine wx_skipG (by rfl) (by rfl) (by rfl) (fun K hK => ?_); go_simp; refine hK _ ?_; clear hK K) | (refine wx_skipN (by rfl) (by rfl) (by rfl) (fun K hK => ?_); go_simp; refine hK _ ?_; clear hK K))
      refine wx_loudG (us := []) (by rfl) (by rfl) (by rfl) (by rfl) (fun S wS hC hS hU => ?_) (fun v hv K hK => ?_)
      · exact runs_buildV 29 [] rfl [] rfl vz HZ1.out ⟨rfl, Kept.refl _ _, trivial⟩
      obtain rfl := hv; (go_simp; refine hK _ ?_; clear hK K)
      repeat (first | (refine wx_quietU (by rfl) (by rfl) (by rfl) (fun K hK => ?_); go_big_quiet_op; refine hK _ ?_; clear hK K) | (refine wx_quietG (by rfl) (by rfl) (by rfl) (by rfl) (by rfl) (fun K hK => ?_); go_big_quiet_op; refine hK _ ?_; clear hK K) | (refine wx_skipG (by rfl) (by rfl) (by rfl) (fun K hK => ?_); go_simp; refine hK _ ?_; clear hK K) | (refine wx_skipN (by rfl) (by rfl) (by rfl) (fun K hK => ?_); go_simp; refine hK _ ?_; clear hK K))
      refine wx_loudG (us := []) (by rfl) (by rfl) (by rfl) (by rfl) (fun S wS hC hS hU => runs_enter (f := 45) (by go_simp <;> rfl) ?_) (fun v hv K hK => ?_)
      · refine (HL1.out wS).mono ?_
        rintro e w' ⟨rfl, hb⟩
        exact ⟨_, rfl, rfl, Kept.of_below hb, trivial⟩
      obtain rfl := hv; (go_simp; refine hK _ ?_; clear hK K)
      repeat (first | (refine wx_quietU (by rfl) (by rfl) (by rfl) (fun K hK => ?_); go_big_quiet_op; refine hK _ ?_; clear hK K) | (refine wx_quietG (by rfl) (by rfl) (by rfl) (by rfl) (by rfl) (fun K hK => ?_); go_big_quiet_op; refine hK _ ?_; clear hK K) | (refine wx_skipG (by rfl) (by rfl) (by rfl) (fun K hK => ?_); go_simp; refine hK _ ?_; clear hK K) | (refine wx_skipN (by rfl) (by rfl) (by rfl) (fun K hK => ?_); go_simp; refine hK _ ?_; clear hK K))
      refine wx_loudG (us := []) (by rfl) (by rfl) (by rfl) (by rfl) (fun S wS hC hS hU => ?_) (fun v hv K hK => ?_)
      · exact runs_load_whole 48 (.tmp 8) rfl w2.heap.size rfl 48 (lnV x) (0, 0) _ (blk_below HGX.out hC.below hgl6) Tryz.underlying48 rfl k4 ⟨rfl, Kept.refl _ _, trivial⟩
      obtain rfl := hv; (go_simp; refine hK _ ?_; clear hK K)
      repeat (first | (refine wx_quietU (by rfl) (by rfl) (by rfl) (fun K hK => ?_); go_big_quiet_op; refine hK _ ?_; clear hK K) | (refine wx_quietG (by rfl) (by rfl) (by rfl) (by rfl) (by rfl) (fun K hK => ?_); go_big_quiet_op; refine hK _ ?_; clear hK K) | (refine wx_skipG (by rfl) (by rfl) (by rfl) (fun K hK => ?_); go_simp; refine hK _ ?_; clear hK K) | (refine wx_skipN (by rfl) (by rfl) (by rfl) (fun K hK => ?_); go_simp; refine hK _ ?_; clear hK K))
      refine wx_loudG (us := []) (by rfl) (by rfl) (by rfl) (by rfl) (fun S wS hC hS hU => ?_) (fun v hv K hK => ?_)
      · exact runs_buildV 48 [] rfl [] rfl vz HZ2.out ⟨rfl, Kept.refl _ _, trivial⟩
      obtain rfl := hv; (go_simp; refine hK _ ?_; clear hK K)
      repeat (first | (refine wx_quietU (by rfl) (by rfl) (by rfl) (fun K hK => ?_); go_big_quiet_op; refine hK _ ?_; clear hK K) | (refine wx_quietG (by rfl) (by rfl) (by rfl) (by rfl) (by rfl) (fun K hK => ?_); go_big_quiet_op; refine hK _ ?_; clear hK K) | (refine wx_skipG (by rfl) (by rfl) (by rfl) (fun K hK => ?_); go_simp; refine hK _ ?_; clear hK K) | (refine wx_skipN (by rfl) (by rfl) (by rfl) (fun K hK => ?_); go_simp; refine hK _ ?_; clear hK K))
      refine wx_loudG (us := []) (by rfl) (by rfl) (by rfl) (by rfl) (fun S wS hC hS hU => runs_enter (f := 46) (by go_simp <;> rfl) ?_) (fun v hv K hK => ?_)
      · refine (HL2.out wS).mono ?_
        rintro e w' ⟨rfl, hb⟩
        exact ⟨_, rfl, rfl, Kept.of_below hb, trivial⟩
      obtain rfl := hv; (go_simp; refine hK _ ?_; clear hK K)
      repeat (first | (refine wx_quietU (by rfl) (by rfl) (by rfl) (fun K hK => ?_); go_big_quiet_op; refine hK _ ?_; clear hK K) | (refine wx_quietG (by rfl) (by rfl) (by rfl) (by rfl) (by rfl) (fun K hK => ?_); go_big_quiet_op; refine hK _ ?_; clear hK K) | (refine wx_skipG (by rfl) (by rfl) (by rfl) (fun K hK => ?_); go_simp; refine hK _ ?_; clear hK K) | (refine wx_skipN (by rfl) (by rfl) (by rfl) (fun K hK => ?_); go_simp; refine hK _ ?_; clear hK K))
      refine wx_nil fun w7 hsat => ?_
      have hb7 := sat_below hsat
      have hbx7 := hbx6.trans (hb7.mono hbx6.size)
      clear hsat z0 z1 z2 qe qr qt qv ql HL1 HL2 HZ1 HZ2 HGX HT1 HT2 HV1 HV2 HWR HR1 hb7 hgl6 hgx6 hbx6
      have HR7 := hid (HR2.out w7 hbx7)
      clear HR2
      go_wp2_with fail
      refine HR7.out.mono ?_
      rintro e w8 ⟨rfl, hb8⟩
      have hbx8 := hbx7.trans (hb8.mono hbx7.size)
      have hbw8 := hbwx.trans (hbx8.mono hbwx.size)
      clear HR7 hb8 hbx7
      cases hr : RX with
      | false =>
        have hrr : RightC M = false := by rw [← HRX.out]; exact hr
        have e1 : PE = 1 := by rw [HPE.out, hrr]; rfl
        have e2 : PZ.length = 0 := by rw [HPZ.out]; unfold putZ; rw [hrr]; rfl
        rw [e1, e2]
        clear HPE HPZ HRX hrr e1 e2 hr
        as_aux_lemma =>
          go_wp2_with fail
          go_ret
          exact ⟨rfl, hbw8⟩
      | true =>
        have hrr : RightC M = true := by rw [← HRX.out]; exact hr
        have e1 : PE = 0 := by rw [HPE.out, hrr]; rfl
        have e2 : PZ = putC M := by rw [HPZ.out]; unfold putZ; rw [if_pos hrr]
        obtain ⟨e3, e4⟩ := get_put M hrr
        have HMB : Hid (∀ l ∈ M, LnB l) := fun l hl => right_lnb l (((RightC_iff M).1 hrr).1 l hl)
        replace HS0 := hid (HS0.out.below hbx8)
        replace HS1 := hid (HS1.out.below hbx8)
        replace HSB := hid (HSB.out.below hbx8)
        have HG1 := Get_any PZ Ab PZ.length cb w8 HSB.out (by omega) (HEN.out w8 hbw8)
        rw [show getE PZ = 0 by rw [e2]; exact e3, show getC PZ = M by rw [e2]; exact e4] at HG1
        replace HG1 := hid HG1
        rw [e1]
        have HE2 := hid e2
        clear HPE HPZ HRX hrr e1 e2 e3 e4 hr hbx8 hbwx
        go_wp2_with fail
        refine HG1.out.mono ?_
        rintro e w9 ⟨⟨A9, c9', rfl, hs9⟩, hb9⟩
        have hml := HML.out
        have hbw9 := hbw8.trans (hb9.mono hbw8.size)
        have HS9 := hid hs9
        replace HS0 := hid (HS0.out.below hb9)
        replace HS1 := hid (HS1.out.below hb9)
        replace HSB := hid (HSB.out.below hb9)
        have HPR : Hid (∀ w', Below w9.heap.size w9 w' → Calls Tryz.prog 18 #[.slice A m c] w' fun e w'' => ∃ A' c', e = .returned (.slice A' PZ.length c') ∧ w''.ownsRow w'.heap.size 5 1 (.slice A' PZ.length c') PZ.length (B8 PZ) ∧ Below w'.heap.size w' w'') := fun w' hb => by
          rw [HE2.out]
          exact refPut_any M A m c w' (HS0.out.below hb) HMB.out (by omega)
        have HCS : Hid (∀ w', Below w9.heap.size w9 w' → Calls Tryz.prog 35 #[.slice A9 M.length c9', .slice A1 m c1] w' fun e w'' => e = .returned (.bool true) ∧ Below w'.heap.size w' w'') := fun w' hb => by
          have := confSame_any M M A9 A1 M.length c9' m c1 w' (HS9.out.below hb) (HS1.out.below hb)
          rwa [sameC_refl] at this
        have HFR : Hid (∀ w', Below w9.heap.size w9 w' → Calls Tryz.prog 23 #[.slice A9 M.length c9'] w' fun e w'' => ∃ A' c', e = .returned (.slice A' M.length c') ∧ w''.ownsRow w'.heap.size 48 4 (.slice A' M.length c') M.length (LNS M) ∧ Below w'.heap.size w' w'') := fun w' hb => from_any M A9 M.length c9' w' (HS9.out.below hb) (by omega)
        have HRS : Hid (∀ A' c' w', Below w9.heap.size w9 w' → Sl w' 4 (.slice A' M.length c') (LNS M) → Calls Tryz.prog 22 #[.slice A' M.length c', .slice A m c] w' fun e w'' => e = .returned (.bool true) ∧ Below w'.heap.size w' w'') := fun A' c' w' hb hs => by
          have := refSame_any M M A' A M.length c' m c w' hs (HS0.out.below hb)
          rwa [sameC_refl] at this
        have qp : ((S8 PZ).toList == (S8 PZ).toList) = true := by simp
        clear HG1 hs9 HE2 HMB HML hml hb9 HS0 HS1 HS9 HOM HEN
        obtain ⟨NM, hNM⟩ : ∃ z, z = M.length := ⟨_, rfl⟩
        rw [← hNM] at HCS HFR HRS
        go_upto_region 14 with fail
        rw [← hNM]
        clear hNM
        obtain ⟨LM, hLM⟩ : ∃ z, z = LNS M := ⟨_, rfl⟩
        rw [← hLM] at HFR HRS
        clear hLM
        refine wp_region_loud (fun _ => False) [(4, plainL [] (.string (S8 PZ))), (6, rowL [] w9.heap.size 5 1 PZ.length (B8 PZ)), (7, plainL [6] (.string (S8 PZ))), (17, plainL [] (.bool true)), (21, rowL [] w9.heap.size 48 4 NM LM), (23, plainL [21] (.bool true))] (fun _ => Fact.none) (by kernel_rfl) (by kernel_rfl)
          (.cons (plainL_ok _ _) (.cons (rowL_ok _ _ _ _ _ _) (.cons (plainL_ok _ _) (.cons (plainL_ok _ _) (.cons (rowL_ok _ _ _ _ _ _) (.cons (plainL_ok _ _) .nil)))))) good_nothing sat_none (WX.out ?_)
        repeat (first | (refine wx_quietU (by rfl) (by rfl) (by rfl) (fun K hK => ?_); go_big_quiet_op; refine hK _ ?_; clear hK K) | (refine wx_quietG (by rfl) (by rfl) (by rfl) (by rfl) (by rfl) (fun K hK => ?_); go_big_quiet_op; refine hK _ ?_; clear hK K) | (refine wx_skipG (by rfl) (by rfl) (by rfl) (fun K hK => ?_); go_simp; refine hK _ ?_; clear hK K) | (refine wx_skipN (by rfl) (by rfl) (by rfl) (fun K hK => ?_); go_simp; refine hK _ ?_; clear hK K))
        refine wx_loudG (us := []) (by rfl) (by rfl) (by rfl) (by rfl) (fun S wS hC hS hU => ?_) (fun v hv K hK => ?_)
        · have st := str_of (P := Tryz.prog) (HSB.out.below hC.below) 38 9 5 Tryz.underlying38 Tryz.underlying5 Tryz.underlying9
          exact runs_value (by go_simp <;> rfl) ⟨rfl, Kept.refl _ _, trivial⟩
        obtain rfl := hv; (go_simp; refine hK _ ?_; clear hK K)
        repeat (first | (refine wx_quietU (by rfl) (by rfl) (by rfl) (fun K hK => ?_); go_big_quiet_op; refine hK _ ?_; clear hK K) | (refine wx_quietG (by rfl) (by rfl) (by rfl) (by rfl) (by rfl) (fun K hK => ?_); go_big_quiet_op; refine hK _ ?_; clear hK K) | (refine wx_skipG (by rfl) (by rfl) (by rfl) (fun K hK => ?_); go_simp; refine hK _ ?_; clear hK K) | (refine wx_skipN (by rfl) (by rfl) (by rfl) (fun K hK => ?_); go_simp; refine hK _ ?_; clear hK K))
        refine wx_loudG (us := []) (by rfl) (by rfl) (by rfl) (by rfl) (fun S wS hC hS hU => runs_enter (f := 18) (by go_simp <;> rfl) ?_) (fun v hv K hK => ?_)
        · refine (HPR.out wS hC.below).mono ?_
          rintro e w' ⟨A', c', rfl, ho, hb⟩
          exact ⟨_, rfl, ⟨_, _, rfl⟩, Kept.of_below hb, fun g hg => .inr (ho.lt g hg), own_base ho hC.below.size⟩
        obtain ⟨A10, c10', rfl⟩ := hv; (go_simp; refine hK _ ?_; clear hK K)
        repeat (first | (refine wx_quietU (by rfl) (by rfl) (by rfl) (fun K hK => ?_); go_big_quiet_op; refine hK _ ?_; clear hK K) | (refine wx_quietG (by rfl) (by rfl) (by rfl) (by rfl) (by rfl) (fun K hK => ?_); go_big_quiet_op; refine hK _ ?_; clear hK K) | (refine wx_skipG (by rfl) (by rfl) (by rfl) (fun K hK => ?_); go_simp; refine hK _ ?_; clear hK K) | (refine wx_skipN (by rfl) (by rfl) (by rfl) (fun K hK => ?_); go_simp; refine hK _ ?_; clear hK K))
        refine wx_loudG (us := [6]) (by rfl) (by rfl) (by rfl) (by rfl) (fun S wS hC hS hU => ?_) (fun v hv K hK => ?_)
        · have k6 : OwnF w9.heap.size 5 1 PZ.length (B8 PZ) (.slice A10 PZ.length c10') S wS := hU 6 (by simp)
          have st := str_of (P := Tryz.prog) (own_sl k6.2) 38 9 5 Tryz.underlying38 Tryz.underlying5 Tryz.underlying9
          exact runs_value (by go_simp <;> rfl) ⟨rfl, Kept.refl _ _, trivial⟩
        obtain rfl := hv; (go_simp; refine hK _ ?_; clear hK K)
        repeat (first | (refine wx_quietU (by rfl) (by rfl) (by rfl) (fun K hK => ?_); go_big_quiet_op; refine hK _ ?_; clear hK K) | (refine wx_quietG (by rfl) (by rfl) (by rfl) (by rfl) (by rfl) (fun K hK => ?_); go_big_quiet_op; refine hK _ ?_; clear hK K) | (refine wx_skipG (by rfl) (by rfl) (by rfl) (fun K hK => ?_); go_simp; refine hK _ ?_; clear hK K) | (refine wx_skipN (by rfl) (by rfl) (by rfl) (fun K hK => ?_); go_simp; refine hK _ ?_; clear hK K))
        refine wx_loudG (us := []) (by rfl) (by rfl) (by rfl) (by rfl) (fun S wS hC hS hU => runs_enter (f := 35) (by go_simp <;> rfl) ?_) (fun v hv K hK => ?_)
        · refine (HCS.out wS hC.below).mono ?_
          rintro e w' ⟨rfl, hb⟩
          exact ⟨_, rfl, rfl, Kept.of_below hb, trivial⟩
        obtain rfl := hv; (go_simp; refine hK _ ?_; clear hK K)
        repeat (first | (refine wx_quietU (by rfl) (by rfl) (by rfl) (fun K hK => ?_); go_big_quiet_op; refine hK _ ?_; clear hK K) | (refine wx_quietG (by rfl) (by rfl) (by rfl) (by rfl) (by rfl) (fun K hK => ?_); go_big_quiet_op; refine hK _ ?_; clear hK K) | (refine wx_skipG (by rfl) (by rfl) (by rfl) (fun K hK => ?_); go_simp; refine hK _ ?_; clear hK K) | (refine wx_skipN (by rfl) (by rfl) (by rfl) (fun K hK => ?_); go_simp; refine hK _ ?_; clear hK K))
        refine wx_loudG (us := []) (by rfl) (by rfl) (by rfl) (by rfl) (fun S wS hC hS hU => runs_enter (f := 23) (by go_simp <;> rfl) ?_) (fun v hv K hK => ?_)
        · refine (HFR.out wS hC.below).mono ?_
          rintro e w' ⟨A', c', rfl, ho, hb⟩
          exact ⟨_, rfl, ⟨_, _, rfl⟩, Kept.of_below hb, fun g hg => .inr (ho.lt g hg), own_base ho hC.below.size⟩
        obtain ⟨A11, c11, rfl⟩ := hv; (go_simp; refine hK _ ?_; clear hK K)
        repeat (first | (refine wx_quietU (by rfl) (by rfl) (by rfl) (fun K hK => ?_); go_big_quiet_op; refine hK _ ?_; clear hK K) | (refine wx_quietG (by rfl) (by rfl) (by rfl) (by rfl) (by rfl) (fun K hK => ?_); go_big_quiet_op; refine hK _ ?_; clear hK K) | (refine wx_skipG (by rfl) (by rfl) (by rfl) (fun K hK => ?_); go_simp; refine hK _ ?_; clear hK K) | (refine wx_skipN (by rfl) (by rfl) (by rfl) (fun K hK => ?_); go_simp; refine hK _ ?_; clear hK K))
        refine wx_loudG (us := [21]) (by rfl) (by rfl) (by rfl) (by rfl) (fun S wS hC hS hU => runs_enter (f := 22) (by go_simp <;> rfl) ?_) (fun v hv K hK => ?_)
        · have k21 : OwnF w9.heap.size 48 4 NM LM (.slice A11 NM c11) S wS := hU 21 (by simp)
          refine (HRS.out A11 c11 wS hC.below (own_sl k21.2)).mono ?_
          rintro e w' ⟨rfl, hb⟩
          exact ⟨_, rfl, rfl, Kept.of_below hb, trivial⟩
        obtain rfl := hv; (go_simp; refine hK _ ?_; clear hK K)
        repeat (first | (refine wx_quietU (by rfl) (by rfl) (by rfl) (fun K hK => ?_); go_big_quiet_op; refine hK _ ?_; clear hK K) | (refine wx_quietG (by rfl) (by rfl) (by rfl) (by rfl) (by rfl) (fun K hK => ?_); go_big_quiet_op; refine hK _ ?_; clear hK K) | (refine wx_skipG (by rfl) (by rfl) (by rfl) (fun K hK => ?_); go_simp; refine hK _ ?_; clear hK K) | (refine wx_skipN (by rfl) (by rfl) (by rfl) (fun K hK => ?_); go_simp; refine hK _ ?_; clear hK K))
        refine wx_nil fun wz hsat => ?_
        have hbz := hbw9.trans ((sat_below hsat).mono hbw9.size)
        clear hsat HPR HCS HFR HRS
        go_wp2_with fail
        go_ret
        exact ⟨rfl, hbz⟩
end CF
end Go.Proofs.YtecfkhgocjbocaaGreatDoor
namespace Go.Proofs.YtecfkhgocjbocaaGreatDoor.confRaw
open Go.ChangeShapes Go.WideShapes Go.ChangeAt Go.RowKit
open Go.ChangeMaps (open_string shut_string)
set_option linter.unusedVariables false

theorem own : ownKnob Tryz.prog.godebug = none := by kernel_rfl
theorem laidOut : laidOutB Tryz.prog = true := by kernel_rfl
theorem one_laid : Rows.confRawUptoRow.laid.filter (fun x => x.1 == "internal/strconv.uint64pow10") = [("internal/strconv.uint64pow10", Lib.tabData .u64 Lib.pow10Tab)] := by kernel_rfl
theorem tab_of {W : World} (hL : laidMetH Tryz.prog Rows.confRawUptoRow.laid W) : Lib.TabIs Tryz.prog W "internal/strconv.uint64pow10" .u64 Lib.pow10Tab := by
  have h1 := laidMetH.filter (fun x => x.1 == "internal/strconv.uint64pow10") hL
  rw [one_laid, MakeChecks.laidMetH_plain _ _ _ (by kernel_rfl)] at h1
  exact Lib.tabIs_of_head (g := (Tryz.prog.globalNamed "internal/strconv.uint64pow10").getD 0) (t := 230) (e := 30) (n := 20) (by kernel_rfl) (by kernel_rfl) Tryz.underlying230 Tryz.underlying30 (by kernel_rfl) (by kernel_rfl) h1
theorem reads (os : Os) {H : Type} (enc : TypeId × Value → H) : ∃ places, DataW.whole enc Tryz.prog ((World.laidAll Tryz.prog os Rows.confRawUptoRow.laid).forCall (fun _ _ => 0) ⟨#[], #[.slice none 0 0, .int .i64 0], []⟩).memory Tryz.f10.params.toList Rows.confRawSpec.vars false #[.slice none 0 0, .int .i64 0].toList 8 = some ([.nil, .lit (.int .i64 0)], [], places) :=
  ⟨[], by kernel_rfl⟩
theorem witness_laid {H : Type} {enc : TypeId × Value → H} {C : Checked} {os : Os} {f : FuncId} {fn : Func} {s : OpenSpec} {conds : List PathCond} {apart : Bool} {laid : List (String × DataW Unit)} (w0 : World) (args : Array Value) (hos : w0.os = os)
    (hsh : (w0.forCall (fun _ _ => 0) ⟨#[], args, []⟩).Shaped C.prog)
    (hok : Input.okWideB C.prog (w0.forCall (fun _ _ => 0) ⟨#[], args, []⟩) f ⟨#[], args, []⟩ = true)
    (hrow : s.preRow enc C.prog fn conds apart laid (w0.forCall (fun _ _ => 0) ⟨#[], args, []⟩).memory args) :
    ∃ (w : World) (tape : Tape) (i : Input), w.os = os ∧ (w.forCall tape i).Shaped C.prog ∧ i.vars = [] ∧ Input.okWide C.prog (w.forCall tape i) .any w.heap.size f i ∧
      s.preRow enc C.prog fn conds apart laid (w.forCall tape i).memory i.args ∧ ({} : Assume).holds C.prog (lone (Frame.enter C.prog f i.args .normal) [] (w.forCall tape i)) :=
  ⟨w0, fun _ _ => 0, ⟨#[], args, []⟩, hos, hsh, (Input.okWide_of_okWideB (base := 0) hok).1, (Input.okWide_of_okWideB hok).2, hrow, by
    simp only [Assume.holds]
    exact ⟨by simp, by simp, fun _ => Modest.zero, by simp, by simp⟩⟩
set_option maxRecDepth 100000 in
theorem lifted (os : Os) (started : os.Started) (H : Type) (enc : TypeId × Value → H) (F : Stop.Interp) :
    ReturnsInHanded {} Tryz.checked os 10 .any ((Rows.OpenSpec.upto Rows.confRawSpec).preRow enc Tryz.prog Tryz.f10 Rows.confRawUptoRow.domain false Rows.confRawUptoRow.laid) (((Rows.OpenSpec.upto Rows.confRawSpec).at F).post enc Tryz.prog Tryz.f10 false true false false) := by
  obtain ⟨places, hx⟩ := reads os enc
  refine returnsInHanded_of_row (C := Tryz.checked) (s := Rows.OpenSpec.upto Rows.confRawSpec) own started (by kernel_rfl) Tryz.func10
    (witness_laid (World.laidAll Tryz.prog os Rows.confRawUptoRow.laid) #[.slice none 0 0, .int .i64 0] (World.laidAll_os _ _ _)
      (World.shaped_of_ZipB (by kernel_rfl) (by kernel_rfl)) (by kernel_rfl)
      (OpenSpec.preRow_of_cond 8 hx (by kernel_rfl) (fun k hk => by cases hk; kernel_rfl) (by kernel_rfl) (by rw [MakeChecks.laidMetH_plain _ _ _ (by kernel_rfl)]; exact laidMet_laidAll _ (by kernel_rfl) (by kernel_rfl)))) ?_
  clear hx
  intro W base args ds gs before hval0 hW _ hcond hsz0 hL hsh _
  have hval : ∀ (j : Nat) t v, Tryz.f10.params[j]? = some t → args[j]? = some v → Value.okWide Tryz.prog W .any base t v := hval0
  have hen : Env W := ⟨hsh, tab_of hL⟩
  have hbk := CF.bulk_small (hcond _ rfl)
  have hW' := hW
  obtain ⟨p, q, hA0, hV, rfl, _, _⟩ := hW
  have hA : DataW.TrodAll enc Tryz.prog W 0 (fun _ => true) true Tryz.f10.params.toList args.toList ds p := hA0
  rw [Tryz.params10] at hA hval
  obtain ⟨v0, vs0, d0, ds0, p0, q0, hargs, rfl, rfl, h0, r0⟩ := trodAll_cons hA
  obtain ⟨v1, vs1, d1, ds1, p1, q1, rfl, rfl, rfl, h1, r1⟩ := trodAll_cons r0
  obtain ⟨rfl, rfl, rfl⟩ := trodAll_nil r1
  obtain rfl : args = #[v0, v1] := by cases args; simp_all
  obtain ⟨rfl, rfl⟩ := trodVars_none hV
  have k0 := h0
  have lt0 : ∀ x ∈ p0, x.block < W.heap.size := by obtain ⟨m, hm⟩ := k0; exact DataW.trod_lt m _ _ _ hm
  have bk0 : Rows.uptoBulk d0 ≤ 1048576 := Nat.le_trans (CF.bulk_part (by simp)) hbk
  have k1 := h1
  have lt1 : ∀ x ∈ p1, x.block < W.heap.size := by obtain ⟨m, hm⟩ := k1; exact DataW.trod_lt m _ _ _ hm
  have bk1 : Rows.uptoBulk d1 ≤ 1048576 := Nat.le_trans (CF.bulk_part (by simp)) hbk
  obtain ⟨A0, n0, c0, L0, rfl, hl0, ok0, hd0⟩ := CF.open_lines Tryz.underlying36 Tryz.underlying48 (by kernel_rfl) (by kernel_rfl) (by kernel_rfl) (by kernel_rfl) (by kernel_rfl) (by kernel_rfl) (hval 0 36 v0 rfl rfl) h0 bk0
  obtain ⟨x1, rfl, rfl, rfl, wx1⟩ := open_int Tryz.underlying3 (hval 1 3 v1 rfl rfl) h1
  clear hA0 hval0 hval hcond
  refine (CF.confRaw_walk L0 A0 n0 c0 x1 W hl0 ok0 hen).mono fun e W' ⟨he, bel⟩ => ?_
  subst he
  exact ⟨_, rfl, _, _, _, [], _, [], hW', trodAll_mk1 (shut_bool Tryz.underlying4 _), (trodAll_cons_mk (Below.trod laidOut (by kernel_rfl) (of_decide_eq_true (by kernel_rfl)) k0 bel lt0) (trodAll_cons_mk (Below.trod laidOut (by kernel_rfl) (of_decide_eq_true (by kernel_rfl)) k1 bel lt1) trodAll_mk0)), rfl, bel.frame _, fun h => by cases h⟩

theorem holds : Rows.ConfRawUptoSaid :=
  OpenClaim.holds_of_cond 10 Tryz.f10 rfl rfl rfl rfl rfl rfl rfl ⟨rfl, rfl, rfl, rfl, rfl⟩ rfl rfl rfl rfl rfl (by kernel_rfl) Tryz.func10 (by kernel_rfl)
    (of_decide_eq_true (by kernel_rfl)) (by unfold Func.isWrapper; first | (rw [if_pos (by decide +kernel)]; kernel_rfl) | (rw [if_neg (by decide +kernel)]; exact ⟨rfl, rfl⟩))
    (fun os started H enc _ F => by rw [OpenClaim.pre_eq_preRow]; exact lifted os started H enc F)
/-- THE STATEMENT -/
theorem proved : Rows.ConfRawUptoCardSaid :=
  Claim7.holds_tied_plain_at .later [] Rows.confRawUptoCard.laidKinds true Rows.confRawUptoCard.stood.harness Rows.confRawUptoCard.stood.looks holds (fun _ h => by cases h) (by kernel_rfl) (fun _ h => by cases h) confRawUpto_row_tie rfl ⟨rfl, rfl⟩ (by kernel_rfl) rfl
    (fun f fn hf hfn => by
      obtain rfl : f = 10 := Option.some.inj ((show Tryz.prog.funcNamed "waystone/waystonelaw05.ConfRaw" = some 10 by kernel_rfl).symm.trans hf) |>.symm
      obtain rfl : fn = Tryz.f10 := (Option.some.inj (Tryz.func10.symm.trans hfn)).symm
      exact ⟨by kernel_rfl, fun j t ht => by
        rw [Tryz.params10] at ht
        have hm : t ∈ [36, 3] := by simpa using Array.mem_of_getElem? ht
        have hall : ([36, 3].all fun u => !Tryz.prog.wantsStandIn u) = true := by kernel_rfl
        exact (show Tryz.prog.wantsStandIn t = false by simpa using List.all_eq_true.1 hall t hm)⟩)
    (by kernel_rfl)
#print axioms proved
end Go.Proofs.YtecfkhgocjbocaaGreatDoor.confRaw
