/-
  Contracts of package lsa: headers.
-/
import Derived.Test.YtgopkpogakjckaaLsa1
namespace Go.Proofs.Ytgopkpogakjckaa
set_option linter.unusedVariables false
set_option linter.unusedSimpArgs false
open Go.RowKit SM LM

/-- a number's low 64 bits -/
def w64 (z : Int) : Int := IntKind.u64.wrap z
theorem w64_bd (z : Int) : 0 ≤ w64 z ∧ w64 z < 18446744073709551616 := by unfold w64; rw [IntKind.wrap_u64]; omega

/-- 20 bytes of a header -/
def hdrB (age ty id adv seq sum len : Int) : List UInt8 :=
  be 2 (w64 age).toNat ++ [2, UInt8.ofNat (ty % 256).toNat] ++ be 4 id.toNat ++ be 4 adv.toNat ++ be 4 (w64 seq).toNat ++ be 2 sum.toNat ++ be 2 (w64 len).toNat
theorem ty_cells (ty : Int) : (#[.int .u8 2, .int .u8 (IntKind.u8.wrap ty)] : Array Value) = (B8 [2, UInt8.ofNat (ty % 256).toNat]).toArray := by
  simp [B8, IntKind.wrap_u8]; omega
abbrev hdrCells (age ty id adv seq sum len : Int) : Array Value := #[.int .i64 age, .int .i64 ty, .int .u32 id, .int .u32 adv, .int .i64 seq, .int .u16 sum, .int .i64 len]

set_option maxRecDepth 100000 in
set_option maxHeartbeats 1600000 in
theorem putHeader_any (age ty id adv seq sum len : Int) (w : World) (hid_ : 0 ≤ id ∧ id < 4294967296) (hadv : 0 ≤ adv ∧ adv < 4294967296) (hsum : 0 ≤ sum ∧ sum < 65536) :
    Calls Try.prog 76 #[.agg (hdrCells age ty id adv seq sum len)] w fun e w' => ∃ A c, e = .returned (.slice A 20 c) ∧
      w'.ownsRow w.heap.size 5 1 (.slice A 20 c) 20 (B8 (hdrB age ty id adv seq sum len)) ∧ Below w.heap.size w w' := by
  have e1 : IntKind.u64.wrap age = w64 age := rfl
  have e2 := w64_bd age
  have e3 : IntKind.u64.wrap seq = w64 seq := rfl
  have e4 := w64_bd seq
  have e5 : IntKind.u64.wrap len = w64 len := rfl
  have e6 := w64_bd len
  have e7 : IntKind.u64.wrap id = id := IntWalk.u64_in _ (by omega)
  have e8 : IntKind.u64.wrap adv = adv := IntWalk.u64_in _ (by omega)
  have e9 : IntKind.u64.wrap sum = sum := IntWalk.u64_in _ (by omega)
  go_enter Try.func76, Try.ntmps76
  go_upto_region 1 with fail
  go_cut [3] (fun s wx => ∃ A c, s = .slice A 4 c ∧ wx.ownsRow (w.heap.size + 1) 5 1 (.slice A 4 c) 4 (B8 (be 2 (w64 age).toNat ++ [2, UInt8.ofNat (ty % 256).toNat])) ∧
     Below (w.heap.size + 1) (w.alloc (.cells (hdrCells age ty id adv seq sum len) 96)) wx)
  case first =>
    go_region_held3 (fun w' => w'.cell? ⟨w.heap.size, 0, none⟩ = some (.int .i64 age) ∧ w'.cell? ⟨w.heap.size, 1, none⟩ = some (.int .i64 ty)) (first | go_keep)
      (first
        | (go_at_call 104
           refine (put_any (w.heap.size + 1) 0 0 2 none [] _ _ (own_nilE _ _ _ _) (by simp) (by omega) (by omega) (by omega) (by omega)).mono ?_
           rintro e w1 ⟨A1, c1, rfl, hown1, hb1, hg1, hf1⟩
           have hbk1 : ∀ i, w1.cell? ⟨w.heap.size, i, none⟩ = _ := fun i => hb1.cell (p := ⟨w.heap.size, i, none⟩) (by simp)
           have hsz1 := hb1.size)
        | (refine step_app (by rfl) (.tmp 7) (.tmp 12) st_bytes (by rfl) (w.heap.size + 1) (by rfl) (by first | exact hown1 | exact hown1.alloc _) (by rfl)
             (by first | exact sl_new _ [2, UInt8.ofNat (ty % 256).toNat] _ _ _ _ (by simp) (ty_cells ty) rfl (by simp) | exact Sl.grown0 (Sl.drew (sl_new _ [2, UInt8.ofNat (ty % 256).toNat] _ _ _ _ (by simp) (ty_cells ty) rfl (by simp))) hg1)
             (B8_one [2, UInt8.ofNat (ty % 256).toNat]) (by simp [maxLen]) (by omega) (by simp at hsz1 ⊢; omega) ?_
           intro A2 c2 w2 hown2 hb2 hg2 hf2
           have hbk2 : ∀ i, w2.cell? ⟨w.heap.size, i, none⟩ = _ := fun i => hb2.cell (p := ⟨w.heap.size, i, none⟩) (by simp)))
    all_goals (go_wp2_with fail; go_meet)
    all_goals go_light
    all_goals (rw [← B8_append, List.nil_append] at hown2)
    all_goals refine ⟨A2, c2, rfl, hown2, ?_⟩
    all_goals (repeat (first | with_reducible exact Below.refl _ _ | with_reducible assumption | with_reducible refine Below.drew ?_ | with_reducible refine below_drewN ?_ _ | (with_reducible refine Below.alloc ?_ ?_ _; rotate_left; · (first | (simp; done) | omega | (simp at *; omega))) | (with_reducible refine Below.setCell ?_ ?_ _; rotate_left; · (first | (simp only []; omega) | (simp; done) | (simp; omega))) | with_reducible refine Below.trans ?_ (by with_reducible assumption)))
  case rest =>
    obtain ⟨A2, c2, rfl, hown2, hb2⟩ := hcut
    have hsz2 := hb2.size
    simp at hsz2
    have hbk2 : ∀ i, wc.cell? ⟨w.heap.size, i, none⟩ = _ := fun i => hb2.cell (p := ⟨w.heap.size, i, none⟩) (by simp)
    go_upto_region 2 with fail
    go_cut [3] (fun s wx => ∃ A c, s = .slice A 12 c ∧ wx.ownsRow (w.heap.size + 1) 5 1 (.slice A 12 c) 12 (B8 (be 2 (w64 age).toNat ++ [2, UInt8.ofNat (ty % 256).toNat] ++ be 4 id.toNat ++ be 4 adv.toNat)) ∧
       Below (w.heap.size + 1) (w.alloc (.cells (hdrCells age ty id adv seq sum len) 96)) wx)
    case first =>
      go_region_held3 (fun w' => w'.cell? ⟨w.heap.size, 2, none⟩ = some (.int .u32 id) ∧ w'.cell? ⟨w.heap.size, 3, none⟩ = some (.int .u32 adv)) (first | go_keep)
        (first
          | (go_at_call_of 104 (Value.slice A2 4 c2)
             refine (put_any (w.heap.size + 1) 4 c2 4 A2 _ _ _ (by exact hown2) (by simp; omega) (by omega) (by omega) (by omega) (by omega)).mono ?_
             rintro e w3 ⟨A3, c3, rfl, hown3, hb3, hg3, hf3⟩
             have hbk3 : ∀ i, w3.cell? ⟨w.heap.size, i, none⟩ = _ := fun i => hb3.cell (p := ⟨w.heap.size, i, none⟩) (by simp)
             have hsz3 := hb3.size)
          | (go_at_call 104
             refine (put_any (w.heap.size + 1) 8 c3 4 A3 _ _ _ (by exact hown3) (by simp at hsz3; omega) (by omega) (by omega) (by omega) (by omega)).mono ?_
             rintro e w4 ⟨A4, c4, rfl, hown4, hb4, hg4, hf4⟩
             have hbk4 : ∀ i, w4.cell? ⟨w.heap.size, i, none⟩ = _ := fun i => hb4.cell (p := ⟨w.heap.size, i, none⟩) (by simp)))
      all_goals (go_wp2_with fail; go_meet)
      all_goals go_light
      all_goals refine ⟨A4, c4, rfl, hown4, ?_⟩
      all_goals (repeat (first | with_reducible exact Below.refl _ _ | with_reducible assumption | with_reducible refine Below.drew ?_ | with_reducible refine below_drewN ?_ _ | (with_reducible refine Below.alloc ?_ ?_ _; rotate_left; · (first | (simp; done) | omega | (simp at *; omega))) | (with_reducible refine Below.setCell ?_ ?_ _; rotate_left; · (first | (simp only []; omega) | (simp; done) | (simp; omega))) | with_reducible refine Below.trans ?_ (by with_reducible assumption)))
    case rest =>
      obtain ⟨A4, c4, rfl, hown4, hb4⟩ := hcut
      have hsz4 := hb4.size
      simp at hsz4
      have hbk4 : ∀ i, wc.cell? ⟨w.heap.size, i, none⟩ = _ := fun i => hb4.cell (p := ⟨w.heap.size, i, none⟩) (by simp)
      clear hown2 hb2 hsz2 hbk2
      go_wp2_with fail
      refine (put_any (w.heap.size + 1) 12 c4 4 A4 _ _ _ (by exact hown4) (by omega) (by omega) (by omega) (by omega) (by omega)).mono ?_
      rintro e w5 ⟨A5, c5, rfl, hown5, hb5, hg5, hf5⟩
      have hsz5 := hb5.size
      have hbk5 : ∀ i, w5.cell? ⟨w.heap.size, i, none⟩ = _ := fun i => hb5.cell (p := ⟨w.heap.size, i, none⟩) (by simp)
      go_upto_region 4 with fail
      go_region_held3 (fun w' => w'.cell? ⟨w.heap.size, 5, none⟩ = some (.int .u16 sum) ∧ w'.cell? ⟨w.heap.size, 6, none⟩ = some (.int .i64 len)) (first | go_keep)
        (first
          | (go_at_call_of 104 (Value.slice A5 16 c5)
             refine (put_any (w.heap.size + 1) 16 c5 2 A5 _ _ _ (by exact hown5) (by simp; omega) (by omega) (by omega) (by omega) (by omega)).mono ?_
             rintro e w6 ⟨A6, c6, rfl, hown6, hb6, hg6, hf6⟩
             have hbk6 : ∀ i, w6.cell? ⟨w.heap.size, i, none⟩ = _ := fun i => hb6.cell (p := ⟨w.heap.size, i, none⟩) (by simp)
             have hsz6 := hb6.size)
          | (go_at_call 104
             refine (put_any (w.heap.size + 1) 18 c6 2 A6 _ _ _ (by exact hown6) (by simp at hsz6; omega) (by omega) (by omega) (by omega) (by omega)).mono ?_
             rintro e w7 ⟨A7, c7, rfl, hown7, hb7, hg7, hf7⟩
             have hbk7 : ∀ i, w7.cell? ⟨w.heap.size, i, none⟩ = _ := fun i => hb7.cell (p := ⟨w.heap.size, i, none⟩) (by simp)))
      go_wp2_with fail
      go_light
      go_ret
      refine ⟨A7, c7, rfl, own_base hown7 (by omega), ?_⟩
      have hb : Below (w.heap.size + 1) (w.alloc (.cells (hdrCells age ty id adv seq sum len) 96)) w7 := by (repeat (first | with_reducible exact Below.refl _ _ | with_reducible assumption | with_reducible refine Below.drew ?_ | with_reducible refine below_drewN ?_ _ | (with_reducible refine Below.alloc ?_ ?_ _; rotate_left; · (first | (simp; done) | omega | (simp at *; omega))) | (with_reducible refine Below.setCell ?_ ?_ _; rotate_left; · (first | (simp only []; omega) | (simp; done) | (simp; omega))) | with_reducible refine Below.trans ?_ (by with_reducible assumption)))
      exact ((Below.refl _ _).alloc (Nat.le_refl _) _).trans (hb.mono (by omega))
end Go.Proofs.Ytgopkpogakjckaa
