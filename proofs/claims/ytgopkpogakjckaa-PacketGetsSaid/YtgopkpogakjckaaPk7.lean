/-
  Contracts of packet's key, sum; slices.Grow and slices.Concat at bytes.
-/
import Derived.Test.YtgopkpogakjckaaPkP
import Derived.Test.YtgopkpogakjckaaPk1
import Derived.Test.YtgopkpogakjckaaBy
import Derived.Laws.CopyRow
import Derived.Lib.AppendZeros
import Derived.Lib.SliceRun
namespace Go.Proofs.Ytgopkpogakjckaa
set_option linter.unusedVariables false
set_option linter.unusedSimpArgs false
open Go Go.RowKit SM LM PK

def zero8 : List UInt8 := List.replicate 8 0
theorem mk8 (w : World) : ∃ w1, (Instr.makeSlice 31 (.int .i64 8) (.int .i64 8)).run Try.prog w = .ok (.slice (some ⟨w.heap.size, 0, none⟩) 8 8) w1 ∧ w1.ownsRow w.heap.size 5 1 (.slice (some ⟨w.heap.size, 0, none⟩) 8 8) 8 (B8 zero8) ∧ Below w.heap.size w w1 := by
  obtain ⟨ht, _, i, z, hi, hz, hsi, hby, hzs⟩ := st_bytes
  obtain ⟨w1, hm, hown, hg⟩ := run_makeSlice_full (P := Try.prog) w w.heap.size 31 5 i z 1 ht hi hz hsi .i64 .i64 8 (by omega) (by rw [hby]; omega) (by simp [maxLen]) (Nat.le_refl _)
  have hz0 : z = .int .u8 0 := by
    have h0 : (Try.prog.info? 5).map (fun i => i.zero) = some (some (.int .u8 0)) := by kernel_rfl
    rw [hi] at h0
    simp only [Option.map_some, Option.some.injEq] at h0
    rw [hz] at h0
    injection h0
  subst hz0
  have hmc : (madeCells (Value.int .u8 0).cells (8 * 1)).toList = B8 zero8 := by kernel_rfl
  rw [hmc] at hown
  exact ⟨w1, hm, hown, (Below.refl _ _).grown hg (Nat.le_refl _) (by intro k hk; cases hk)⟩
/-- 'copy(b, s)' over eight noughts -/
theorem run_copy8 {P : Program} (w : World) (dT sT ty e : TypeId) (base g : Nat) (s : ByteArray) (hu : P.underlying dT = some (.slice e)) (hs : (P.info? e).map (·.size) = some 1)
    (hown : w.ownsRow base e 1 (.slice (some ⟨g, 0, none⟩) 8 8) 8 (B8 zero8)) :
    ∃ w', (Builtin.copy_ #[dT, sT] ty #[.slice (some ⟨g, 0, none⟩) 8 8, .string s]).run P w = .ok (goInt (min s.size 8)) w' ∧ w'.ownsRow base e 1 (.slice (some ⟨g, 0, none⟩) 8 8) 8 (B8 (key8 s)) ∧ w.grownBy w' (some g) := by
  obtain ⟨hl, h | ⟨g', cap, cur, hv, hbg, hg, hnc, hcm, hcs, htake⟩⟩ := hown
  · obtain ⟨h, _⟩ := h; cases h
  injection hv with e1 e2 e3
  injection e1 with e1
  injection e1 with e1 _ _
  subst e1; subst e3
  have hsz : s.data.toList.length = s.size := by rw [Array.length_toList]; rfl
  have hcur : cur.toList = B8 zero8 := by
    rw [List.take_of_length_le (by rw [Array.length_toList]; omega)] at htake
    exact htake
  have hmm : Nat.min s.size 8 = min s.size 8 := rfl
  have hst := run_storeCells_at P g 0 e (B8 (s.data.toList.take (min s.size 8))) 0 cur w hg (by rw [B8_length, List.length_take]; omega) (B8_one _)
  simp only [Nat.add_zero, List.take_zero, List.nil_append, Nat.zero_add] at hst
  rw [hcur, B8_length, List.length_take] at hst
  have hrow : B8 (s.data.toList.take (min s.size 8)) ++ (B8 zero8).drop (min (min s.size 8) s.data.toList.length) = B8 (key8 s) := by
    rw [hsz, show min (min s.size 8) s.size = min s.size 8 by omega]
    have : (B8 zero8).drop (min s.size 8) = B8 (zero8.drop (min s.size 8)) := by simp [B8]
    rw [this, ← B8_append]
    congr 1
    unfold key8 zero8
    rw [List.take_append, List.drop_replicate, hsz, List.take_replicate]
    by_cases h8 : s.size ≤ 8
    · rw [show min s.size 8 = s.size by omega, List.take_of_length_le (by omega), List.take_of_length_le (by omega)]
      congr 2
      omega
    · rw [show min s.size 8 = 8 by omega]
      congr 2
      omega
  rw [hrow] at hst
  refine ⟨w.setRow g (B8 (key8 s)).toArray, ?_, ⟨by rw [B8_length, key8_length], .inr ⟨g, 8, (B8 (key8 s)).toArray, rfl, hbg, ?_, Nat.le_refl _, hcm, by simp [B8, key8_length], by show (B8 (key8 s)).take (8 * 1) = _; exact List.take_of_length_le (by rw [B8_length, key8_length]; omega)⟩⟩, ?_⟩
  · cases hq : P.info? e with
    | none => simp [hq] at hs
    | some i =>
      simp [Builtin.copy_, run_underlying hu, Builtin.lenOf, Builtin.firstCells, sizeOf, typeInfo, hq, hmm]
      have e : List.take (min s.size 8) (List.map (fun b : UInt8 => Value.int IntKind.u8 (b.toNat : Int)) s.data.toList) = B8 (s.data.toList.take (min s.size 8)) := by simp [B8, List.map_take]
      rw [e, hst]
      simp [Result.andThen]
      congr 1
      omega
  · exact setRow_heap w g cur (B8 (key8 s)).toArray e (0, 0) hg
  · exact ⟨rfl, rfl, rfl, by simp, fun k hk hne => setRow_other w g k _ (fun h => hne (by rw [h]))⟩
theorem wpList_copy8 {P : Program} {w : World} {ops : Array Oper} {rest : List Oper} {o : Oper} {a : Act} {Q : Exit → Act → World → Prop} (hgd : o.guard = none) (d s : Operand) (dT sT e : TypeId)
    (ho : o.op = .call { callee := .builtin .copy, args := #[d, s], argTypes := #[dT, sT] }) (hu : P.underlying dT = some (.slice e)) (hsz : (P.info? e).map (·.size) = some 1)
    (base g : Nat) (t : ByteArray) (hd : a.eval d = .slice (some ⟨g, 0, none⟩) 8 8) (hs : a.eval s = .string t) (hown : w.ownsRow base e 1 (.slice (some ⟨g, 0, none⟩) 8 8) 8 (B8 zero8))
    (h : ∀ w' (z : Int), w'.ownsRow base e 1 (.slice (some ⟨g, 0, none⟩) 8 8) 8 (B8 (key8 t)) → w.grownBy w' (some g) → wpList P ops Q rest (a.put o.dst (goInt z)) w') : wpList P ops Q (o :: rest) a w := by
  refine wpList_plain hgd fun K hK => ?_
  obtain ⟨w', hrun, h1, h2⟩ := run_copy8 (P := P) w dT sT o.type e base g t hu hsz hown
  unfold Oper.wp
  simp [execOp, ho, resolve, invoke, builtin, hd, hs, hrun, Result.andThen]
  exact hK _ _ (h w' _ h1 h2)
theorem info_u8s : (Try.prog.info? 5).map (fun i => i.size) = some 1 := by kernel_rfl
set_option maxRecDepth 100000 in
set_option maxHeartbeats 800000 in
theorem key_any (s : ByteArray) (w : World) :
    Calls Try.prog 37 #[.string s] w fun e w' => ∃ g, e = .returned (.tuple #[.int .u64 (kindP s : Nat), .slice (some ⟨g, 0, none⟩) 8 8]) ∧ w'.ownsRow w.heap.size 5 1 (.slice (some ⟨g, 0, none⟩) 8 8) 8 (B8 (key8 s)) ∧ Below w.heap.size w w' := by
  obtain ⟨w1, hm, hown, hb⟩ := mk8 w
  have hB := hb.size
  have HK : Hid (kindP s = if s.size = 0 then 0 else 1) := rfl
  generalize hb0 : w.heap.size = B at *
  by_cases h0 : s.size = 0
  · have hs0 : s = ⟨#[]⟩ := by
      cases s with | mk a => congr 1; exact Array.eq_empty_of_size_eq_zero h0
    have HS0 := hid hs0
    have he : s.toList.isEmpty = true := by rw [hs0, ba_toList]; rfl
    have hkp : kindP s = 0 := by rw [HK.out, if_pos h0]
    have HKP := hid hkp
    clear hs0 hkp h0
    go_enter Try.func37, Try.ntmps37
    go_wp2_with (with_reducible refine wpList_copy8 (o := ⟨some 8, _, _, _, _, _⟩) rfl (.tmp 6) (.tmp 7) 31 9 5 rfl Try.underlying31 info_u8s B B s rfl rfl hown ?_)
    intro w2 z hown2 hg2
    have hb2 := hb.trans (grown_below hown hg2 hB)
    clear hown hg2 hm
    go_wp2_with fail
    go_ret2
    exact ⟨B, by rw [HKP.out]; rfl, hown2, hb2⟩
  · have he : s.toList.isEmpty = false := by
      rw [ba_toList]
      cases hq : s.data.toList with
      | nil =>
        exfalso
        apply h0
        have : s.data.toList.length = s.size := by rw [Array.length_toList]; rfl
        rw [← this, hq]; rfl
      | cons x l => rfl
    have hkp : kindP s = 1 := by rw [HK.out, if_neg h0]
    have HKP := hid hkp
    clear hkp h0
    go_enter Try.func37, Try.ntmps37
    go_wp2_with (with_reducible refine wpList_copy8 (o := ⟨some 8, _, _, _, _, _⟩) rfl (.tmp 6) (.tmp 7) 31 9 5 rfl Try.underlying31 info_u8s B B s rfl rfl hown ?_)
    intro w2 z hown2 hg2
    have hb2 := hb.trans (grown_below hown hg2 hB)
    clear hown hg2 hm
    go_wp2_with fail
    go_ret2
    exact ⟨B, by rw [HKP.out]; rfl, hown2, hb2⟩
set_option maxRecDepth 100000 in
set_option maxHeartbeats 800000 in
theorem growB_nil (n : Nat) (w : World) (h0 : 0 < n) (hm : n ≤ 1000000) :
    Calls Try.prog 105 #[.slice none 0 0, .int .i64 n] w fun e w' => ∃ g c, e = .returned (.slice (some ⟨g, 0, none⟩) 0 c) ∧
      w'.ownsRow w.heap.size 5 1 (.slice (some ⟨g, 0, none⟩) 0 c) 0 (B8 []) ∧ Below w.heap.size w w' := by
  obtain ⟨ht, _, i, z, hi, hz, hs1, hb1, hzs⟩ := st_bytes
  have hrun := hid (Lib.run_append_nil_zeros w 31 3 31 5 i z .i64 .i64 ht Try.underlying3 hi hz n h0 (by omega) (by omega) (by rw [hb1]; omega))
  have hcap := grownCap_ge w n 0 5
  have hcm := grownCap_le_maxLen w n 0 5 (by simp [maxLen]; omega)
  have hsz : (Builtin.zeroCells z.cells n ++ Builtin.zeroCells z.cells (grownCap w n 0 5 - n)).size = grownCap w n 0 5 * 1 := by
    rw [Array.size_append, size_zeroCells, size_zeroCells, hzs]; omega
  generalize grownCap w n 0 5 = cap at *
  have hown := World.ownsRow_made (e := 5) (size := 1) (base := w.heap.size) w.drew (Builtin.zeroCells z.cells n ++ Builtin.zeroCells z.cells (cap - n)) cap (Nat.le_refl _) hcm hsz
  have hbb : Below w.heap.size w (w.drew.alloc (.cells (Builtin.zeroCells z.cells n ++ Builtin.zeroCells z.cells (cap - n)) 5)) := ((Below.refl w.heap.size w).drew).alloc (Nat.le_refl _) _
  generalize (Builtin.zeroCells z.cells n ++ Builtin.zeroCells z.cells (cap - n)) = cs at *
  have hcm' : cap ≤ 9223372036854775807 := by simpa [maxLen] using hcm
  clear hsz hzs hi hz hs1 hb1 hcm
  go_enter Try.func105, Try.ntmps105
  go_wp2_with (at_builtin; refine Lib.wpList_append_run _ rfl (.tmp 20) (.tmp 21) 31 3 rfl _ _ rfl rfl _ _ hrun.out ?_)
  go_ret
  exact ⟨w.drew.heap.size, cap, rfl, hown, hbb⟩
set_option maxRecDepth 100000 in
set_option maxHeartbeats 3200000 in
theorem concat2_any (A A1 A2 : Option Addr) (c n1 c1 n2 c2 : Nat) (l1 l2 : List UInt8) (w : World) (h : Sl w 1 (.slice A 2 c) [.slice A1 n1 c1, .slice A2 n2 c2])
    (h1 : Sl w 1 (.slice A1 n1 c1) (B8 l1)) (h2 : Sl w 1 (.slice A2 n2 c2) (B8 l2)) (hp : 0 < n1 + n2) (hm : n1 + n2 ≤ 1000000) :
    Calls Try.prog 77 #[.slice A 2 c] w fun e w' => ∃ g c', e = .returned (.slice (some ⟨g, 0, none⟩) (n1 + n2) c') ∧
      w'.ownsRow w.heap.size 5 1 (.slice (some ⟨g, 0, none⟩) (n1 + n2) c') (n1 + n2) (B8 (l1 ++ l2)) ∧ Below w.heap.size w w' := by
  obtain ⟨A', n', c', he, hl, _, hc3, h⟩ := h
  injection he with e1 e2 e3
  subst e1; subst e2; subst e3
  obtain ⟨b, off, rfl, hb, h⟩ := h (by omega)
  have q0 : w.cell? ⟨b, off, none⟩ = some (.slice A1 n1 c1) := h 0 (by omega)
  have q1 : w.cell? ⟨b, off + 1, none⟩ = some (.slice A2 n2 c2) := h 1 (by omega)
  clear h hl
  go_enter Try.func77, Try.ntmps77
  go_wp2_with fail
  go_loop [3, 11] (fun s i => (s = .int .i64 0 ∧ i = .int .i64 0) ∨ (s = .int .i64 n1 ∧ i = .int .i64 1) ∨ (s = .int .i64 ((n1 + n2 : Nat) : Int) ∧ i = .int .i64 2)) (fun _ i => 2 - (intOf i).toNat)
  case atStart => exact .inl ⟨rfl, rfl⟩
  case round =>
    rcases hrel with ⟨rfl, rfl⟩ | ⟨rfl, rfl⟩ | ⟨rfl, rfl⟩
    · go_wp2_with fail
      exact ⟨.inr (.inl ⟨by go_num, rfl⟩), by decide⟩
    · go_wp2_with fail
      exact ⟨.inr (.inr ⟨by go_num, rfl⟩), by decide⟩
    · go_wp2_with fail
      refine (growB_nil (n1 + n2) w hp hm).mono ?_
      rintro e w1 ⟨g, cg, rfl, hown, hb1⟩
      go_wp2_with fail
      go_loopw [6, 27] (fun v i wr => ∃ (k m cv : Nat) (Av : Option Addr) (lv : List UInt8), i = .int .i64 k ∧ v = .slice Av m cv ∧ wr.ownsRow w.heap.size 5 1 (.slice Av m cv) m (B8 lv) ∧ Below w.heap.size w wr ∧
        ((k = 0 ∧ m = 0 ∧ lv = []) ∨ (k = 1 ∧ m = n1 ∧ lv = l1) ∨ (k = 2 ∧ m = n1 + n2 ∧ lv = l1 ++ l2))) (fun _ i _ => 2 - (intOf i).toNat)
      case atStart => exact ⟨0, 0, cg, _, [], rfl, rfl, hown, hb1, .inl ⟨rfl, rfl, rfl⟩⟩
      case round =>
        obtain ⟨k, m, cv, Av, lv, rfl, rfl, hown, hbr, hk⟩ := hrel
        have p0 := (hbr.cell (p := ⟨b, off, none⟩) hb).trans q0
        have p1 := (hbr.cell (p := ⟨b, off + 1, none⟩) hb).trans q1
        rcases hk with ⟨rfl, rfl, rfl⟩ | ⟨rfl, rfl, rfl⟩ | ⟨rfl, rfl, rfl⟩
        ·
          go_wp2_with (at_builtin; refine wpList_app rfl (.tmp 31) (.tmp 32) st_bytes rfl w.heap.size rfl hown rfl (h1.below hbr) (B8_one _) (by simp [maxLen]; omega) (by omega) (by have := hbr.size; omega) ?_)
          intro A9 c9 w9 hown9 hg9 hf9
          try rw [← B8_append] at hown9
          have hb9 := hbr.trans (grown_below hown hg9 hbr.size)
          clear hown hbr
          go_wp2_with fail
          exact ⟨⟨1, n1, c9, A9, l1, rfl, rfl, by simpa using hown9, hb9, .inr (.inl ⟨rfl, rfl, rfl⟩)⟩, by simp [intOf]⟩
        ·
          go_wp2_with (at_builtin; refine wpList_app rfl (.tmp 31) (.tmp 32) st_bytes rfl w.heap.size rfl hown rfl (h2.below hbr) (B8_one _) (by simp [maxLen]; omega) (by omega) (by have := hbr.size; omega) ?_)
          intro A9 c9 w9 hown9 hg9 hf9
          try rw [← B8_append] at hown9
          have hb9 := hbr.trans (grown_below hown hg9 hbr.size)
          clear hown hbr
          go_wp2_with fail
          exact ⟨⟨2, m + n2, c9, A9, lv ++ l2, rfl, rfl, hown9, hb9, .inr (.inr ⟨rfl, rfl, rfl⟩)⟩, by simp [intOf]⟩
        · go_wp2_with fail
          go_ret
          obtain ⟨g', rfl, _, _⟩ := own_some hown hp
          exact ⟨g', cv, rfl, hown, hbr⟩
end Go.Proofs.Ytgopkpogakjckaa
