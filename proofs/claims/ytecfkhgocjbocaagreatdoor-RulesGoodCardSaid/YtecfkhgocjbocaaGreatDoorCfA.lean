/-
  Contracts of package conf: word, block.
-/
import Derived.Test.YtecfkhgocjbocaaGreatDoorCf9
import Derived.Test.YtecfkhgocjbocaaGreatDoorSh4
namespace Go.Proofs.YtecfkhgocjbocaaGreatDoor
set_option linter.unusedVariables false
set_option linter.unusedSimpArgs false
open Go Go.RowKit

namespace CF
def wordT (h : Int) : List UInt8 := if h = 1 then [97, 114, 101, 97, 32] else [105, 110, 116, 101, 114, 102, 97, 99, 101, 32]
def lineX (l : Ln) : List UInt8 := l.leaf ++ [32] ++ l.value ++ [59, 10]
def lineB (l : Ln) : List UInt8 := [32, 32] ++ l.leaf ++ [32] ++ l.value ++ [59, 10]
def headB (h : Int) (nm : List UInt8) : List UInt8 := wordT h ++ nm ++ [32, 123, 10]
def bodyB (C : List Ln) (h : Int) (nm : List UInt8) : List UInt8 := C.flatMap fun l => if l.head = h ∧ l.name = nm then lineB l else []
def blockT (C : List Ln) (h : Int) (nm : List UInt8) : List UInt8 := headB h nm ++ bodyB C h nm ++ [125, 10]
def topT (C : List Ln) : List UInt8 := C.flatMap fun l => if l.head = 0 then lineX l else []
/-- a configuration's text -/
def textC (C : List Ln) : List UInt8 := if RightC C = true then topT C ++ ((namC C 1).flatMap (blockT C 1) ++ (namC C 2).flatMap (blockT C 2)) else []
theorem flat_succ {α : Type} (C : List Ln) (f : Ln → List α) (k : Nat) (hk : k < C.length) : (C.take (k + 1)).flatMap f = (C.take k).flatMap f ++ f (lnAt C k) := by
  rw [List.take_succ_eq_append_getElem hk, List.flatMap_append, ← lnAt_get C k hk]
  simp
theorem flat_len {β α : Type} (C : List β) (f : β → List α) (m : Nat) (h : ∀ x ∈ C, (f x).length ≤ m) : (C.flatMap f).length ≤ C.length * m := by
  induction C with
  | nil => simp
  | cons x r ih =>
    rw [List.flatMap_cons, List.length_append, List.length_cons, Nat.add_mul]
    have h1 := h x List.mem_cons_self
    have h2 := ih (fun y hy => h y (List.mem_cons_of_mem _ hy))
    omega
theorem lineB_len (l : Ln) (h : LnOk l) : (lineB l).length ≤ 4000010 := by
  obtain ⟨_, h2, h3⟩ := h
  unfold lineB
  simp only [List.length_append, List.length_cons, List.length_nil]
  omega
theorem lineX_len (l : Ln) (h : LnOk l) : (lineX l).length ≤ 4000010 := by
  obtain ⟨_, h2, h3⟩ := h
  unfold lineX
  simp only [List.length_append, List.length_cons, List.length_nil]
  omega
theorem bodyB_len (C : List Ln) (h : Int) (nm : List UInt8) (hC : ∀ l ∈ C, LnOk l) : (bodyB C h nm).length ≤ C.length * 4000010 := by
  unfold bodyB
  refine flat_len C _ _ fun x hx => ?_
  split
  · exact lineB_len x (hC x hx)
  · simp
theorem s8_eq (a b : List UInt8) : ((S8 a).toList == (S8 b).toList) = true ↔ a = b := by
  have h1 : (S8 a).toList = a := Lib.toList_data _
  have h2 : (S8 b).toList = b := Lib.toList_data _
  rw [h1, h2, beq_iff_eq]
theorem keptB_below {b : Nat} {w w' : World} (hb : Below w.heap.size w w') : KeptB b w w' := fun k o hk _ _ => (hb.block k (blk_lt hk)).trans hk
set_option maxRecDepth 100000 in
set_option maxHeartbeats 400000 in
theorem word_any (h : Int) (w : World) : Calls Tryz.prog 93 #[.int .i64 h] w fun e w' => e = .returned (.string (S8 (wordT h))) ∧ w' = w := by
  by_cases e : h = 1
  · have HW : Hid (wordT h = [97, 114, 101, 97, 32]) := by show _ = _; unfold wordT; rw [if_pos e]
    have t : (h == 1) = true := by simpa using e
    clear e
    go_enter Tryz.func93, Tryz.ntmps93
    go_wp2_with fail
    go_ret
    exact ⟨by rw [HW.out]; rfl, rfl⟩
  · have HW : Hid (wordT h = [105, 110, 116, 101, 114, 102, 97, 99, 101, 32]) := by show _ = _; unfold wordT; rw [if_neg e]
    have t : (h == 1) = false := by simpa using e
    clear e
    go_enter Tryz.func93, Tryz.ntmps93
    go_wp2_with fail
    go_ret
    exact ⟨by rw [HW.out]; rfl, rfl⟩
def BlockPost (B b : Nat) (l : List UInt8) (w : World) (e : Ending) (w' : World) : Prop := e = .returned (.tuple #[]) ∧ IsB B b l w' ∧ Below B w w' ∧ KeptB b w w'
set_option maxRecDepth 100000 in
set_option maxHeartbeats 3200000 in
theorem block_any (B b : Nat) (C : List Ln) (h : Int) (nm : List UInt8) (l0 : List UInt8) (A : Option Addr) (n c : Nat) (w : World) (hB : B ≤ w.heap.size) (hb0 : IsB B b l0 w) (hsl : ∀ w', Below B w w' → Sl w' 4 (.slice A n c) (LNS C)) (hC : ∀ l ∈ C, LnOk l)
    (hnm : nm.length ≤ 2000000) (hn : n ≤ 64) (hl0 : l0.length ≤ 100000000000) :
    Calls Tryz.prog 62 #[.pointer (some ⟨b, 0, none⟩), .slice A n c, .int .i64 h, .string (S8 nm)] w (BlockPost B b (l0 ++ blockT C h nm) w) := by
  have hlen := (sl_lns (hsl w (Below.refl _ _))).1
  have hcap := (sl_lns (hsl w (Below.refl _ _))).2
  obtain ⟨hc1, hc2⟩ := hcap
  obtain ⟨z1, hz1⟩ : ∃ z, z = wordT h ++ nm := ⟨_, rfl⟩
  obtain ⟨z2, hz2⟩ : ∃ z, z = z1 ++ [32, 123, 10] := ⟨_, rfl⟩
  have hwl : (wordT h).length ≤ 10 := by unfold wordT; split <;> simp
  have hz1l : z1.length ≤ 2000010 := by rw [hz1, List.length_append]; omega
  have hz2l : z2.length ≤ 2000013 := by rw [hz2, List.length_append]; simp only [List.length_cons, List.length_nil]; omega
  have a1 := fun w' : World => cat8 (w := w') (wordT h) nm z1 hz1 (by omega)
  have a2 := fun w' : World => cat8 (w := w') z1 [32, 123, 10] z2 hz2 (by simp; omega)
  rw [show S8 [32, 123, 10] = (⟨#[32, 123, 10]⟩ : ByteArray) from rfl] at a2
  have HHD : Hid (z2 = headB h nm) := by show _ = _; rw [hz2, hz1]; rfl
  have HWD := hid (word_any h)
  have HBS : Hid (∀ k < n, bodyB (C.take (k + 1)) h nm = bodyB (C.take k) h nm ++ (if (lnAt C k).head = h ∧ (lnAt C k).name = nm then lineB (lnAt C k) else [])) := fun k hk => flat_succ C _ k (by omega)
  have HBZ : Hid (bodyB (C.take n) h nm = bodyB C h nm) := by show _ = _; rw [List.take_of_length_le (by omega)]
  have HBL : Hid (∀ k, k ≤ n → (bodyB (C.take k) h nm).length ≤ 64 * 4000010) := fun k hk => by
    refine Nat.le_trans (bodyB_len (C.take k) h nm (fun l hl => hC l (List.mem_of_mem_take hl))) (Nat.mul_le_mul_right _ ?_)
    rw [List.length_take]; omega
  have HL : Hid (∀ k < n, LnOk (lnAt C k)) := fun k hk => by rw [lnAt_get C k (by omega)]; exact hC _ (List.getElem_mem _)
  have HSL := hid hsl
  have HB0 := hid hb0
  have HBT : Hid (blockT C h nm = z2 ++ bodyB C h nm ++ [125, 10]) := by show _ = _; rw [HHD.out]; rfl
  have H8 : Hid ((S8 nm).toList = nm) := Lib.toList_data _
  clear hz1 hz2 hwl hC hsl hlen hb0 HHD
  generalize blockT C h nm = BT at *
  generalize wordT h = WT at *
  go_enter Tryz.func62, Tryz.ntmps62
  go_wp2_with fail
  refine (HWD.out w).mono ?_
  rintro e w0 ⟨rfl, rfl⟩
  go_wp2_with fail
  refine (writeString_any B b l0 z2 w0 HB0.out (by omega) hB).mono ?_
  rintro e w1 ⟨rfl, hb1, hbl1, hk1⟩
  have HB1 := hid hb1
  have HK1 := hid hk1
  have hs1 := hbl1.size
  clear a1 a2 HB0 HWD hb1 hk1
  go_wp2_with fail
  go_loopw [19] (fun i wr => ∃ k : Nat, k ≤ n ∧ i = .int .i64 k ∧ IsB B b (l0 ++ z2 ++ bodyB (C.take k) h nm) wr ∧ Below B w0 wr ∧ KeptB b w0 wr) (fun i _ => n - (intOf i).toNat)
  case atStart => exact ⟨0, Nat.zero_le _, rfl, by simpa [bodyB] using HB1.out, hbl1, HK1.out⟩
  case round =>
    obtain ⟨k, hk, rfl, hbr, hbl, hkr⟩ := hrel
    have hszr := hbl.size
    by_cases hlt : k < n
    · obtain ⟨bb, off, rfl, hbb, hcl⟩ := sl_ln (HSL.out wr hbl) hlt
      have HS := hid (HBS.out k hlt)
      have hll := HBL.out k hk
      obtain ⟨hok1, hok2, hok3⟩ := HL.out k hlt
      obtain ⟨hb2, hg2, hl2⟩ := box1 wr (.cells (lnV (lnAt C k)) 29)
      clear HBS HBZ HBL HL HB1 HK1
      generalize lnAt C k = l at *
      generalize bodyB (C.take k) h nm = R at *
      go_upto_region 4 with (first | refine wpList_load_mid rfl 29 (.tmp 21) rfl bb (off + k * 4) rfl (lnC l) _ hcl Tryz.underlying29 rfl i4 ?_ | refine wpList_store_last rfl 29 (.tmp 9) (.tmp 22) rfl (lnV l) rfl rfl i4 rfl (lnV_one _) ?_)
      generalize wr.alloc (.cells (lnV l) 29) = w2 at *
      have HB2 := hid (isB_below hbr hb2)
      have hbl2 := hbl.trans (hb2.mono (show B ≤ wr.heap.size by omega))
      have HK2 := hid (hkr.trans (keptB_below hb2))
      have q0 : w2.cell? ⟨wr.heap.size, 0, none⟩ = some (.int .i64 l.head) := by rw [blkCell hg2 0]; rfl
      have q1 : w2.cell? ⟨wr.heap.size, 1, none⟩ = some (.string (S8 l.name)) := by rw [blkCell hg2 1]; rfl
      have q2 : w2.cell? ⟨wr.heap.size, 2, none⟩ = some (.string (S8 l.leaf)) := by rw [blkCell hg2 2]; rfl
      have q3 : w2.cell? ⟨wr.heap.size, 3, none⟩ = some (.string (S8 l.value)) := by rw [blkCell hg2 3]; rfl
      have hsz2 := hb2.size
      clear hcl hg2 hbr hb2 hbl hkr
      by_cases e1 : l.head = h
      · have te1 : (l.head == h) = true := by simpa using e1
        by_cases e2 : l.name = nm
        · have te2 : ((S8 l.name).toList == (S8 nm).toList) = true := by rw [e2]; simp
          rw [if_pos ⟨e1, e2⟩] at HS
          obtain ⟨y1, hy1⟩ : ∃ z, z = [32, 32] ++ l.leaf := ⟨_, rfl⟩
          obtain ⟨y2, hy2⟩ : ∃ z, z = y1 ++ [32] := ⟨_, rfl⟩
          obtain ⟨y3, hy3⟩ : ∃ z, z = y2 ++ l.value := ⟨_, rfl⟩
          obtain ⟨y4, hy4⟩ : ∃ z, z = y3 ++ [59, 10] := ⟨_, rfl⟩
          have hy1l : y1.length ≤ 2000002 := by rw [hy1, List.length_append]; simp only [List.length_cons, List.length_nil]; omega
          have hy2l : y2.length ≤ 2000003 := by rw [hy2, List.length_append]; simp only [List.length_cons, List.length_nil]; omega
          have hy3l : y3.length ≤ 4000003 := by rw [hy3, List.length_append]; omega
          have hy4l : y4.length ≤ 4000005 := by rw [hy4, List.length_append]; simp only [List.length_cons, List.length_nil]; omega
          have a1 := fun w' : World => cat8 (w := w') [32, 32] l.leaf y1 hy1 (by simp; omega)
          have a2 := fun w' : World => cat8 (w := w') y1 [32] y2 hy2 (by simp; omega)
          have a3 := fun w' : World => cat8 (w := w') y2 l.value y3 hy3 (by omega)
          have a4 := fun w' : World => cat8 (w := w') y3 [59, 10] y4 hy4 (by simp; omega)
          rw [show S8 [32, 32] = (⟨#[32, 32]⟩ : ByteArray) from rfl] at a1
          rw [show S8 [32] = (⟨#[32]⟩ : ByteArray) from rfl] at a2
          rw [show S8 [59, 10] = (⟨#[59, 10]⟩ : ByteArray) from rfl] at a4
          have HY : Hid (y4 = lineB l) := by show _ = _; rw [hy4, hy3, hy2, hy1]; rfl
          clear hy1 hy2 hy3 hy4 e1 e2
          go_wp2_with fail
          refine (writeString_any B b (l0 ++ z2 ++ R) y4 w2 HB2.out (by simp only [List.length_append]; omega) (by omega)).mono ?_
          rintro e w3 ⟨rfl, hb3, hbl3, hk3⟩
          have hblz := hbl2.trans hbl3
          have HBZ3 : Hid (IsB B b (l0 ++ z2 ++ bodyB (C.take (k + 1)) h nm) w3) := by
            rw [HS.out, ← HY.out, ← List.append_assoc]
            exact hb3
          have HKZ := hid (HK2.out.trans hk3)
          clear hb3 hk3 HB2 HK2 q0 q1 q2 q3 a1 a2 a3 a4 hbl2 hbl3
          go_wp2_with fail
          go_light
          exact ⟨⟨k + 1, by omega, by go_num, HBZ3.out, hblz, HKZ.out⟩, by simp [intOf]; omega⟩
        · have te2 : ((S8 l.name).toList == (S8 nm).toList) = false := by
            rw [Bool.eq_false_iff]
            intro hh
            exact e2 ((s8_eq _ _).1 hh)
          rw [if_neg (fun h => e2 h.2), List.append_nil] at HS
          clear e1 e2
          go_wp2_with fail
          go_light
          exact ⟨⟨k + 1, by omega, by go_num, by rw [HS.out]; exact HB2.out, hbl2, HK2.out⟩, by simp [intOf]; omega⟩
      · have te1 : (l.head == h) = false := by simpa using e1
        rw [if_neg (fun h => e1 h.1), List.append_nil] at HS
        clear e1
        go_wp2_with fail
        go_light
        exact ⟨⟨k + 1, by omega, by go_num, by rw [HS.out]; exact HB2.out, hbl2, HK2.out⟩, by simp [intOf]; omega⟩
    · obtain rfl : k = n := by omega
      have HBR := hid hbr
      have HKR := hid hkr
      have hll := HBL.out k (Nat.le_refl _)
      clear hbr hkr HBS HL HBL
      generalize bodyB (C.take k) h nm = R at *
      go_wp2_with fail
      refine (writeString_any B b (l0 ++ z2 ++ R) [125, 10] wr HBR.out (by simp only [List.length_append, List.length_cons, List.length_nil]; omega) (by omega)).mono ?_
      rintro e w3 ⟨rfl, hb3, hbl3, hk3⟩
      have hblz := hbl.trans hbl3
      have HPO : Hid (BlockPost B b (l0 ++ BT) w0 (.returned (.tuple #[])) w3) := by
        refine ⟨rfl, ?_, hblz, HKR.out.trans hk3⟩
        rw [HBT.out, ← HBZ.out, ← List.append_assoc, ← List.append_assoc]
        exact hb3
      clear hb3 hk3 HBR HKR HBT HBZ
      go_wp2_with fail
      go_end0
      exact HPO.out
end CF
end Go.Proofs.YtecfkhgocjbocaaGreatDoor
