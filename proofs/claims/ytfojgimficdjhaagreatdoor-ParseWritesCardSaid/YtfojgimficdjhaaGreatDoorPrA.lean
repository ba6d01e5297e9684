/-
  Contract of layer 6's reference: Read, whole; of the law's from, to and reads.
-/
import Derived.Test.YtfojgimficdjhaaGreatDoorPr8a
import Derived.Test.YtfojgimficdjhaaGreatDoorPr9
namespace Go.Proofs.YtfojgimficdjhaaGreatDoor
set_option linter.unusedVariables false
set_option linter.unusedSimpArgs false
open Go Go.RowKit

theorem refRead_any (s : ByteArray) (w : World) (hs : s.size ≤ 100000) (hen : Env w) : Calls Tryz.prog 9 #[.string s] w fun e w' => CmdPost (readT (bl s)) e ∧ Below w.heap.size w w' := by
  have herr := LX.run_err (bl s).length (bl s) 0 [] (Nat.le_refl _)
  unfold readT
  cases hR : LX.run (bl s) 0 [] with
  | mk L p =>
  obtain ⟨k, er⟩ := p
  rw [hR] at herr
  simp only at herr
  rcases herr with rfl | rfl
  · match L, hR with
    | [], hR => exact refRead_nil s w hs k hR
    | x :: r, hR =>
      cases hG : (x :: r).any isSgn with
      | true => simp only [hG, if_true]; exact refRead_sgn s w hs (x :: r) k hR (by simp) hG
      | false =>
        simp only [hG]
        have e1 := eqS (S8 x) wCC
        have e2 := eqS (S8 x) wRoll
        have e3 := eqS (S8 x) wSet
        have e4 := eqS (S8 x) wDelete
        rw [bl_S8] at e1 e2 e3 e4
        by_cases h3 : x = wSet
        · have h1 : x ≠ wCC := by rw [h3]; decide
          have h2 : x ≠ wRoll := by rw [h3]; decide
          have h4 : x ≠ wDelete := by rw [h3]; decide
          have h0 : plainW x = 0 := by rw [h3]; decide
          rw [decide_eq_false h1] at e1
          rw [decide_eq_false h2] at e2
          rw [decide_eq_true h3] at e3
          rw [decide_eq_false h4] at e4
          match r, hR, hG with
          | [], hR, hG =>
            refine refRead_sd0 s w hs hen [x] x k hR rfl hG true false e3 e4 rfl e1 e2 ?_
            show _ = _
            unfold readL
            rw [if_neg (by rw [h0]; simp), if_neg h1, if_neg h2, if_pos h3]
            rfl
          | h :: r3, hR, hG =>
            refine refRead_set s w hs hen (x :: h :: r3) x h r3 k hR rfl hG e3 e4 e1 e2 ?_
            show _ = _
            unfold readL
            rw [if_neg (by rw [h0]; simp), if_neg h1, if_neg h2, if_pos h3]
        rw [decide_eq_false h3] at e3
        by_cases h4 : x = wDelete
        · have h1 : x ≠ wCC := by rw [h4]; decide
          have h2 : x ≠ wRoll := by rw [h4]; decide
          have h0 : plainW x = 0 := by rw [h4]; decide
          rw [decide_eq_false h1] at e1
          rw [decide_eq_false h2] at e2
          rw [decide_eq_true h4] at e4
          match r, hR, hG with
          | [], hR, hG =>
            refine refRead_sd0 s w hs hen [x] x k hR rfl hG false true e3 e4 rfl e1 e2 ?_
            show _ = _
            unfold readL
            rw [if_neg (by rw [h0]; simp), if_neg h1, if_neg h2, if_neg h3, if_pos h4]
            rfl
          | h :: r3, hR, hG =>
            refine refRead_del s w hs hen (x :: h :: r3) x h r3 k hR rfl hG e3 e4 e1 e2 ?_
            show _ = _
            unfold readL
            rw [if_neg (by rw [h0]; simp), if_neg h1, if_neg h2, if_neg h3, if_pos h4]
        exact refRead_word s w hs hen (x :: r) x r k hR rfl hG h3 h4
  · match L, hR with
    | [], hR => exact refRead_err s w hs [] k hR
    | x :: r, hR => exact refRead_err s w hs (x :: r) k hR
theorem frm_built (c : Cmd) : (Tryz.prog).built 31 [(0, .int .i64 c.what), (1, .agg (lnV c.line)), (2, .int .i64 c.n)] = some (cmV c) := by kernel_rfl
theorem lnr_built (l : Ln) : (Tryz.prog).built 29 [(0, .int .i64 l.head), (1, .string (S8 l.name)), (2, .string (S8 l.leaf)), (3, .string (S8 l.value))] = some (lnV l) := by kernel_rfl
set_option maxRecDepth 100000 in
set_option maxHeartbeats 1600000 in
theorem from_any (c : Cmd) (w : World) : Calls Tryz.prog 11 #[.agg (cmV c)] w fun e w' => e = .returned (.agg (cmV c)) ∧ Below w.heap.size w w' := by
  obtain ⟨what, ⟨head, name, leaf, value⟩, num⟩ := c
  show Calls _ _ #[.agg #[.int .i64 what, .int .i64 head, .string (S8 name), .string (S8 leaf), .string (S8 value), .int .i64 num]] _ _
  have hFB := hid (frm_built ⟨what, ⟨head, name, leaf, value⟩, num⟩)
  have hLB := hid (lnr_built ⟨head, name, leaf, value⟩)
  obtain ⟨hb0, hp0, hl0⟩ := box1 w (.cells #[.int .i64 what, .int .i64 head, .string (S8 name), .string (S8 leaf), .string (S8 value), .int .i64 num] 25)
  obtain ⟨hb1, hx1, hl1⟩ := box1 (w.alloc (.cells #[.int .i64 what, .int .i64 head, .string (S8 name), .string (S8 leaf), .string (S8 value), .int .i64 num] 25)) (.cells #[.int .i64 0, .int .i64 0, .string ⟨#[]⟩, .string ⟨#[]⟩, .string ⟨#[]⟩, .int .i64 0] 31)
  have hp1 := blk_below hp0 hb1 hl0
  have hbw := hb0.trans (hb1.mono hb0.size)
  have hsz : (w.alloc (.cells #[.int .i64 what, .int .i64 head, .string (S8 name), .string (S8 leaf), .string (S8 value), .int .i64 num] 25)).heap.size = w.heap.size + 1 := by simp
  rw [hsz] at hx1
  have HW := hid (And.intro hx1 (And.intro hp1 hbw))
  clear hx1 hp1 hbw hb0 hp0 hl0 hb1 hl1 hsz
  go_enter Tryz.func11, Tryz.ntmps11
  go_upto_region 1 with fail
  generalize (w.alloc (.cells #[.int .i64 what, .int .i64 head, .string (S8 name), .string (S8 leaf), .string (S8 value), .int .i64 num] 25)).alloc (.cells #[.int .i64 0, .int .i64 0, .string ⟨#[]⟩, .string ⟨#[]⟩, .string ⟨#[]⟩, .int .i64 0] 31) = w1 at *
  obtain ⟨hx1, hp1, hbw⟩ := HW.out
  clear HW
  have q0 := blkCell hp1 0
  have q1 := blkCell hp1 1
  have q2 := blkCell hp1 2
  have q3 := blkCell hp1 3
  have q4 := blkCell hp1 4
  have q5 := blkCell hp1 5
  rw [Array.getElem?_eq_getElem (by simp)] at q0 q1 q2 q3 q4 q5
  simp only [List.getElem_toArray, List.getElem_cons_zero, List.getElem_cons_succ] at q0 q1 q2 q3 q4 q5
  clear hp1
  go_wp2_with (first | refine wpList_buildV rfl 29 [(0, .tmp 7), (1, .tmp 10), (2, .tmp 13), (3, .tmp 16)] rfl (some 17) rfl [(0, .int .i64 head), (1, .string (S8 name)), (2, .string (S8 leaf)), (3, .string (S8 value))] rfl _ hLB.out ?_ | refine wpList_buildV rfl 31 [(0, .tmp 4), (1, .tmp 17), (2, .tmp 19)] rfl (some 20) rfl [(0, .int .i64 what), (1, .agg (lnV ⟨head, name, leaf, value⟩)), (2, .int .i64 num)] rfl _ hFB.out ?_ | refine wpList_store_whole rfl 31 (.tmp 2) (.tmp 20) rfl (cmV ⟨what, ⟨head, name, leaf, value⟩, num⟩) rfl rfl hx1 j6 rfl (cmV_one _) ?_)
  intro wz hgz hgrz
  have hbz := grown1 hbw hgrz (by omega)
  clear q0 q1 q2 q3 q4 q5 hx1
  go_wp2_with fail
  exact ret_row1 (fn := Tryz.f11) (cs := cmV ⟨what, ⟨head, name, leaf, value⟩, num⟩) rfl rfl hgz Tryz.underlying31 rfl j6 rfl ⟨rfl, hbz⟩
def rdText : List UInt8 := [115, 101, 116, 32, 105, 110, 116, 101, 114, 102, 97, 99, 101, 32, 101, 116, 104, 48, 32, 99, 111, 115, 116, 32, 53]
def rdCmd : Cmd := ⟨1, ⟨2, [101, 116, 104, 48], [99, 111, 115, 116], [53]⟩, 0⟩
theorem run_rd : LX.run rdText 0 [] = ([wSet, wInter, [101, 116, 104, 48], [99, 111, 115, 116], [53]], 25, 0) := by
  unfold rdText
  rw [LX.run_word 115 _ _ _ rfl (by decide)]
  simp only [show LX.wordLen [115, 101, 116, 32, 105, 110, 116, 101, 114, 102, 97, 99, 101, 32, 101, 116, 104, 48, 32, 99, 111, 115, 116, 32, 53] = 3 from rfl, List.drop_succ_cons, List.drop_zero, List.take_succ_cons, List.take_zero, List.nil_append]
  rw [LX.run_blk 32 _ _ _ rfl, LX.run_word 105 _ _ _ rfl (by decide)]
  simp only [show LX.wordLen [105, 110, 116, 101, 114, 102, 97, 99, 101, 32, 101, 116, 104, 48, 32, 99, 111, 115, 116, 32, 53] = 9 from rfl, List.drop_succ_cons, List.drop_zero, List.take_succ_cons, List.take_zero]
  rw [LX.run_blk 32 _ _ _ rfl, LX.run_word 101 _ _ _ rfl (by decide)]
  simp only [show LX.wordLen [101, 116, 104, 48, 32, 99, 111, 115, 116, 32, 53] = 4 from rfl, List.drop_succ_cons, List.drop_zero, List.take_succ_cons, List.take_zero]
  rw [LX.run_blk 32 _ _ _ rfl, LX.run_word 99 _ _ _ rfl (by decide)]
  simp only [show LX.wordLen [99, 111, 115, 116, 32, 53] = 4 from rfl, List.drop_succ_cons, List.drop_zero, List.take_succ_cons, List.take_zero]
  rw [LX.run_blk 32 _ _ _ rfl, LX.run_word 53 _ _ _ rfl (by decide)]
  simp only [show LX.wordLen [53] = 1 from rfl, List.drop_succ_cons, List.drop_zero, List.take_succ_cons, List.take_zero]
  rw [LX.run_nil]
  rfl
theorem readT_rd : readT rdText = some rdCmd := by
  unfold readT
  rw [run_rd]
  kernel_rfl
end Go.Proofs.YtfojgimficdjhaaGreatDoor
