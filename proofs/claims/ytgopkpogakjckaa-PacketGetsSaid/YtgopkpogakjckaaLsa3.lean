/-
  Contracts of the reference of layer 10: headers.
-/
import Derived.Test.YtgopkpogakjckaaLsa2
namespace Go.Proofs.Ytgopkpogakjckaa
set_option linter.unusedVariables false
set_option linter.unusedSimpArgs false
open Go.RowKit SM LM

set_option maxRecDepth 100000 in
set_option maxHeartbeats 1600000 in
theorem refPutHeader_any (age ty id adv seq sum len : Int) (w : World) (hid_ : 0 ≤ id ∧ id < 4294967296) (hadv : 0 ≤ adv ∧ adv < 4294967296) (hsum : 0 ≤ sum ∧ sum < 65536) :
    Calls Try.prog 44 #[.agg (hdrCells age ty id adv seq sum len)] w fun e w' => ∃ A c, e = .returned (.slice A 20 c) ∧
      w'.ownsRow w.heap.size 5 1 (.slice A 20 c) 20 (B8 (hdrB age ty id adv seq sum len)) ∧ Below w.heap.size w w' := by
  have e1 : IntKind.u64.wrap age = w64 age := rfl
  have e2 := w64_bd age
  have e3 : IntKind.u64.wrap seq = w64 seq := rfl
  have e4 := w64_bd seq
  have e5 : IntKind.u64.wrap len = w64 len := rfl
  have e6 := w64_bd len
  have e7 : IntKind.u64.wrap id = id := IntWalk.u64_in _ (by omega)
  have e8 : IntKind.u64.wrap adv = adv := IntWalk.u64_in _ (by omega)
  have e9 : IntKind.u64.wrap sum = sum := IntWalk.u64_in _ (by omega)
  go_enter Try.func44, Try.ntmps44
  go_upto_region 1 with fail
  go_cut [3] (fun s wx => ∃ g c, s = .slice (some ⟨g, 0, none⟩) 4 c ∧ g < wx.heap.size ∧ wx.ownsRow (w.heap.size + 1) 5 1 (.slice (some ⟨g, 0, none⟩) 4 c) 4 (B8 (be 2 (w64 age).toNat ++ [2, UInt8.ofNat (ty % 256).toNat])) ∧
     Below (w.heap.size + 1) (w.alloc (.cells (hdrCells age ty id adv seq sum len) 105)) wx)
  case first =>
    go_region_held3 (fun w' => w'.cell? ⟨w.heap.size, 0, none⟩ = some (.int .i64 age) ∧ w'.cell? ⟨w.heap.size, 1, none⟩ = some (.int .i64 ty)) (first | go_keep)
      (first
        | (go_at_call 80
           refine (num_g 1 _ _ (by omega) (by omega) (by omega)).mono ?_
           rintro e w1 ⟨g1, c1, rfl, hown1, hb1, hg1, hl1, hm1⟩
           have hbk1 : ∀ i, w1.cell? ⟨w.heap.size, i, none⟩ = _ := fun i => hb1.cell (p := ⟨w.heap.size, i, none⟩) (by simp; try omega)
           have hsz1 := hb1.size
           replace hown1 := own_base (base' := w.heap.size + 1) hown1 (by simp; try omega)
           replace hb1 := hb1.mono (B' := w.heap.size + 1) (by simp; try omega))
        | (refine step_appg (by rfl) (.tmp 7) (.tmp 12) st_bytes (by rfl) (w.heap.size + 1) (by rfl) (by omega) (by first | exact hown1 | exact hown1.alloc _) (by rfl)
             (by first | exact sl_new _ [2, UInt8.ofNat (ty % 256).toNat] _ _ _ _ (by simp) (ty_cells ty) rfl (by simp) | exact Sl.grown0 (Sl.drew (sl_new _ [2, UInt8.ofNat (ty % 256).toNat] _ _ _ _ (by simp) (ty_cells ty) rfl (by simp))) hg1)
             (B8_one [2, UInt8.ofNat (ty % 256).toNat]) (by simp [maxLen]) (by omega) (by simp at hsz1 ⊢; omega) ?_
           intro g2 c2 w2 hown2 hb2 hg2 hf2 hl2
           have hbk2 : ∀ i, w2.cell? ⟨w.heap.size, i, none⟩ = _ := fun i => hb2.cell (p := ⟨w.heap.size, i, none⟩) (by simp)))
    all_goals (go_wp2_with fail; go_meet)
    all_goals go_light
    all_goals (rw [← B8_append] at hown2)
    all_goals refine ⟨g2, c2, rfl, hl2, hown2, ?_⟩
    all_goals (repeat (first | with_reducible exact Below.refl _ _ | with_reducible assumption | with_reducible refine Below.drew ?_ | with_reducible refine below_drewN ?_ _ | (with_reducible refine Below.alloc ?_ ?_ _; rotate_left; · (first | (simp; done) | omega | (simp at *; omega))) | (with_reducible refine Below.setCell ?_ ?_ _; rotate_left; · (first | (simp only []; omega) | (simp; done) | (simp; omega))) | with_reducible refine Below.trans ?_ (by with_reducible assumption)))
  case rest =>
    obtain ⟨g2, c2, rfl, hl2, hown2, hb2⟩ := hcut
    have hsz2 := hb2.size
    simp at hsz2
    have hbk2 : ∀ i, wc.cell? ⟨w.heap.size, i, none⟩ = _ := fun i => hb2.cell (p := ⟨w.heap.size, i, none⟩) (by simp)
    go_upto_region 2 with fail
    go_cut [3] (fun s wx => ∃ g c, s = .slice (some ⟨g, 0, none⟩) 16 c ∧ g < wx.heap.size ∧ wx.ownsRow (w.heap.size + 1) 5 1 (.slice (some ⟨g, 0, none⟩) 16 c) 16 (B8 (be 2 (w64 age).toNat ++ [2, UInt8.ofNat (ty % 256).toNat] ++ be 4 id.toNat ++ be 4 adv.toNat ++ be 4 (w64 seq).toNat)) ∧
       Below (w.heap.size + 1) (w.alloc (.cells (hdrCells age ty id adv seq sum len) 105)) wx)
    case first =>
      go_region_held3 (fun w' => w'.cell? ⟨w.heap.size, 2, none⟩ = some (.int .u32 id) ∧ w'.cell? ⟨w.heap.size, 3, none⟩ = some (.int .u32 adv) ∧ w'.cell? ⟨w.heap.size, 4, none⟩ = some (.int .i64 seq)) (first | exact keepc3 (by with_reducible assumption) (by omega) (by with_reducible assumption) | go_keep)
        (first
          | (go_at_call_of 80 (Value.int .u64 id)
             refine (num_g 3 _ _ (by omega) (by omega) (by omega)).mono ?_
             rintro e w3 ⟨g3, c3, rfl, hown3, hb3, hg3, hl3, hm3⟩
             have hbk3 : ∀ i, w3.cell? ⟨w.heap.size, i, none⟩ = _ := fun i => hb3.cell (p := ⟨w.heap.size, i, none⟩) (by simp at *; omega)
             have hsz3 := hb3.size
             have hs3 := own_sl hown3
             try simp at hl3
             try simp at hsz3
             replace hb3 := hb3.mono (B' := w.heap.size + 1) (by simp at *; omega))
          | (go_at_call_of 80 (Value.int .u64 adv)
             refine (num_g 3 _ _ (by omega) (by omega) (by omega)).mono ?_
             rintro e w4 ⟨g4, c4, rfl, hown4, hb4, hg4, hl4, hm4⟩
             have hbk4 : ∀ i, w4.cell? ⟨w.heap.size, i, none⟩ = _ := fun i => hb4.cell (p := ⟨w.heap.size, i, none⟩) (by simp at *; omega)
             have hsz4 := hb4.size
             have hs4 := own_sl hown4
             try simp at hl4
             try simp at hsz4
             replace hb4 := hb4.mono (B' := w.heap.size + 1) (by simp at *; omega))
          | (go_at_call 80
             refine (num_g 3 _ _ (by omega) (by omega) (by omega)).mono ?_
             rintro e w5 ⟨g5, c5, rfl, hown5, hb5, hg5, hl5, hm5⟩
             have hbk5 : ∀ i, w5.cell? ⟨w.heap.size, i, none⟩ = _ := fun i => hb5.cell (p := ⟨w.heap.size, i, none⟩) (by simp at *; omega)
             have hsz5 := hb5.size
             have hs5 := own_sl hown5
             try simp at hl5
             try simp at hsz5
             replace hb5 := hb5.mono (B' := w.heap.size + 1) (by simp at *; omega))
          | (refine step_appg (xs := B8 (be 2 (w64 age).toNat ++ [2, UInt8.ofNat (ty % 256).toNat])) (by rfl) (.tmp 14) (.tmp 19) st_bytes (by rfl) (w.heap.size + 1) (by rfl) (by omega) (by (repeat (first | with_reducible assumption | with_reducible refine World.ownsRow.alloc ?_ _ | with_reducible refine own_drew ?_ | (with_reducible refine World.ownsRow.kept ?_ (by with_reducible assumption) ?_; rotate_left; · (right; first | (simp [Value.ownBlock]; done) | (simp only [Value.ownBlock, ne_eq, Option.some.injEq]; omega)))))) (by rfl) (by (repeat (first | with_reducible assumption | with_reducible refine Sl.drew ?_ | with_reducible refine Sl.alloc ?_ _ | (with_reducible refine Sl.grown ?_ (by with_reducible assumption) ?_; rotate_left; · (intro ad had; injection had with had; subst had; first | (simp; done) | (simp only [ne_eq, Option.some.injEq]; omega)))))) (B8_one (be 4 id.toNat)) (by simp [maxLen]) (by omega) (by simp at *; omega) ?_
             intro g6 c6 w6 hown6 hb6 hg6 hf6 hl6
             have hsz6 := hb6.size
             try simp at hsz6
             try simp at hf6
             have hbk6 : ∀ i, w6.cell? ⟨w.heap.size, i, none⟩ = _ := fun i => hb6.cell (p := ⟨w.heap.size, i, none⟩) (by simp))
          | (refine step_appg (xs := B8 (be 2 (w64 age).toNat ++ [2, UInt8.ofNat (ty % 256).toNat]) ++ B8 (be 4 id.toNat)) (by rfl) (.tmp 20) (.tmp 25) st_bytes (by rfl) (w.heap.size + 1) (by rfl) (by omega) (by (repeat (first | with_reducible assumption | with_reducible refine World.ownsRow.alloc ?_ _ | with_reducible refine own_drew ?_ | (with_reducible refine World.ownsRow.kept ?_ (by with_reducible assumption) ?_; rotate_left; · (right; first | (simp [Value.ownBlock]; done) | (simp only [Value.ownBlock, ne_eq, Option.some.injEq]; omega)))))) (by rfl) (by (repeat (first | with_reducible assumption | with_reducible refine Sl.drew ?_ | with_reducible refine Sl.alloc ?_ _ | (with_reducible refine Sl.grown ?_ (by with_reducible assumption) ?_; rotate_left; · (intro ad had; injection had with had; subst had; first | (simp; done) | (simp only [ne_eq, Option.some.injEq]; omega)))))) (B8_one (be 4 adv.toNat)) (by simp [maxLen]) (by omega) (by simp at *; omega) ?_
             intro g7 c7 w7 hown7 hb7 hg7 hf7 hl7
             have hsz7 := hb7.size
             try simp at hsz7
             try simp at hf7
             have hbk7 : ∀ i, w7.cell? ⟨w.heap.size, i, none⟩ = _ := fun i => hb7.cell (p := ⟨w.heap.size, i, none⟩) (by simp))
          | (refine step_appg (xs := B8 (be 2 (w64 age).toNat ++ [2, UInt8.ofNat (ty % 256).toNat]) ++ B8 (be 4 id.toNat) ++ B8 (be 4 adv.toNat)) (by rfl) (.tmp 26) (.tmp 30) st_bytes (by rfl) (w.heap.size + 1) (by rfl) (by omega) (by (repeat (first | with_reducible assumption | with_reducible refine World.ownsRow.alloc ?_ _ | with_reducible refine own_drew ?_ | (with_reducible refine World.ownsRow.kept ?_ (by with_reducible assumption) ?_; rotate_left; · (right; first | (simp [Value.ownBlock]; done) | (simp only [Value.ownBlock, ne_eq, Option.some.injEq]; omega)))))) (by rfl) (by (repeat (first | with_reducible assumption | with_reducible refine Sl.drew ?_ | with_reducible refine Sl.alloc ?_ _ | (with_reducible refine Sl.grown ?_ (by with_reducible assumption) ?_; rotate_left; · (intro ad had; injection had with had; subst had; first | (simp; done) | (simp only [ne_eq, Option.some.injEq]; omega)))))) (B8_one (be 4 (w64 seq).toNat)) (by simp [maxLen]) (by omega) (by simp at *; omega) ?_
             intro g8 c8 w8 hown8 hb8 hg8 hf8 hl8
             have hsz8 := hb8.size
             try simp at hsz8
             try simp at hf8
             have hbk8 : ∀ i, w8.cell? ⟨w.heap.size, i, none⟩ = _ := fun i => hb8.cell (p := ⟨w.heap.size, i, none⟩) (by simp)))
      all_goals (go_wp2_with fail; go_meet)
      all_goals go_light
      all_goals (simp only [← B8_append] at hown8)
      all_goals refine ⟨g8, c8, rfl, hl8, hown8, ?_⟩
      all_goals (repeat (first | with_reducible exact Below.refl _ _ | with_reducible assumption | with_reducible refine Below.drew ?_ | with_reducible refine below_drewN ?_ _ | (with_reducible refine Below.alloc ?_ ?_ _; rotate_left; · (first | (simp; done) | omega | (simp at *; omega))) | (with_reducible refine Below.setCell ?_ ?_ _; rotate_left; · (first | (simp only []; omega) | (simp; done) | (simp; omega))) | with_reducible refine Below.trans ?_ (by with_reducible assumption)))
    case rest =>
      obtain ⟨g8, c8, rfl, hl8, hown8, hb8⟩ := hcut
      have hsz8 := hb8.size
      simp at hsz8
      have hbk8 : ∀ i, wc.cell? ⟨w.heap.size, i, none⟩ = _ := fun i => hb8.cell (p := ⟨w.heap.size, i, none⟩) (by simp)
      clear hown2 hb2 hsz2 hbk2 hl2
      go_upto_region 3 with fail
      go_region_held3 (fun w' => w'.cell? ⟨w.heap.size, 5, none⟩ = some (.int .u16 sum) ∧ w'.cell? ⟨w.heap.size, 6, none⟩ = some (.int .i64 len)) (first | exact keepc2 (by with_reducible assumption) (by omega) (by with_reducible assumption) | go_keep)
        (first
          | (go_at_call_of 80 (Value.int .u64 sum)
             refine (num_g 1 _ _ (by omega) (by omega) (by omega)).mono ?_
             rintro e w3 ⟨g3, c3, rfl, hown3, hb3, hg3, hl3, hm3⟩
             have hsz3 := hb3.size
             have hs3 := own_sl hown3
             try simp at hl3
             try simp at hsz3
             replace hb3 := hb3.mono (B' := w.heap.size + 1) (by simp at *; omega))
          | (go_at_call 80
             refine (num_g 1 _ _ (by omega) (by omega) (by omega)).mono ?_
             rintro e w4 ⟨g4, c4, rfl, hown4, hb4, hg4, hl4, hm4⟩
             have hsz4 := hb4.size
             have hs4 := own_sl hown4
             try simp at hl4
             try simp at hsz4
             replace hb4 := hb4.mono (B' := w.heap.size + 1) (by simp at *; omega))
          | (refine step_appg (xs := B8 (be 2 (w64 age).toNat ++ [2, UInt8.ofNat (ty % 256).toNat] ++ be 4 id.toNat ++ be 4 adv.toNat ++ be 4 (w64 seq).toNat)) (by rfl) (.tmp 32) (.tmp 36) st_bytes (by rfl) (w.heap.size + 1) (by rfl) (by omega) (by (repeat (first | with_reducible assumption | with_reducible refine World.ownsRow.alloc ?_ _ | with_reducible refine own_drew ?_ | (with_reducible refine World.ownsRow.kept ?_ (by with_reducible assumption) ?_; rotate_left; · (right; first | (simp [Value.ownBlock]; done) | (simp only [Value.ownBlock, ne_eq, Option.some.injEq]; omega)))))) (by rfl) (by (repeat (first | with_reducible assumption | with_reducible refine Sl.drew ?_ | with_reducible refine Sl.alloc ?_ _ | (with_reducible refine Sl.grown ?_ (by with_reducible assumption) ?_; rotate_left; · (intro ad had; injection had with had; subst had; first | (simp; done) | (simp only [ne_eq, Option.some.injEq]; omega)))))) (B8_one (be 2 sum.toNat)) (by simp [maxLen]) (by omega) (by omega) ?_
             intro g6 c6 w6 hown6 hb6 hg6 hf6 hl6
             have hsz6 := hb6.size
             try simp at hsz6
             try simp at hf6)
          | (refine step_appg (xs := B8 (be 2 (w64 age).toNat ++ [2, UInt8.ofNat (ty % 256).toNat] ++ be 4 id.toNat ++ be 4 adv.toNat ++ be 4 (w64 seq).toNat) ++ B8 (be 2 sum.toNat)) (by rfl) (.tmp 37) (.tmp 41) st_bytes (by rfl) (w.heap.size + 1) (by rfl) (by omega) (by (repeat (first | with_reducible assumption | with_reducible refine World.ownsRow.alloc ?_ _ | with_reducible refine own_drew ?_ | (with_reducible refine World.ownsRow.kept ?_ (by with_reducible assumption) ?_; rotate_left; · (right; first | (simp [Value.ownBlock]; done) | (simp only [Value.ownBlock, ne_eq, Option.some.injEq]; omega)))))) (by rfl) (by (repeat (first | with_reducible assumption | with_reducible refine Sl.drew ?_ | with_reducible refine Sl.alloc ?_ _ | (with_reducible refine Sl.grown ?_ (by with_reducible assumption) ?_; rotate_left; · (intro ad had; injection had with had; subst had; first | (simp; done) | (simp only [ne_eq, Option.some.injEq]; omega)))))) (B8_one (be 2 (w64 len).toNat)) (by simp [maxLen]) (by omega) (by omega) ?_
             intro g7 c7 w7 hown7 hb7 hg7 hf7 hl7
             have hsz7 := hb7.size
             try simp at hsz7
             try simp at hf7))
      all_goals (go_wp2_with fail; go_light; go_ret)
      all_goals (simp only [← B8_append] at hown7)
      all_goals
        refine ⟨_, c7, rfl, own_base hown7 (by omega), ?_⟩
        have hb : Below (w.heap.size + 1) (w.alloc (.cells (hdrCells age ty id adv seq sum len) 105)) w7 := by (repeat (first | with_reducible exact Below.refl _ _ | with_reducible assumption | with_reducible refine Below.drew ?_ | with_reducible refine below_drewN ?_ _ | (with_reducible refine Below.alloc ?_ ?_ _; rotate_left; · (first | (simp; done) | omega | (simp at *; omega))) | (with_reducible refine Below.setCell ?_ ?_ _; rotate_left; · (first | (simp only []; omega) | (simp; done) | (simp; omega))) | with_reducible refine Below.trans ?_ (by with_reducible assumption)))
        exact ((Below.refl _ _).alloc (Nat.le_refl _) _).trans (hb.mono (by omega))
end Go.Proofs.Ytgopkpogakjckaa
