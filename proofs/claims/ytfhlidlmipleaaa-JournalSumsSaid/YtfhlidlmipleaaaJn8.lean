/-
  Contract of add.
-/
import Derived.Test.YtfhlidlmipleaaaJn7
namespace Go.Proofs.Ytfhlidlmipleaaa
set_option linter.unusedVariables false
set_option linter.unusedSimpArgs false
open Go Go.RowKit LM

def addJ (J : Jn) (l : List UInt8) : Jn := { J with all := J.all ++ [l], used := J.used + takesN l.length }
set_option maxRecDepth 100000 in
set_option maxHeartbeats 1600000 in
theorem add_any (base : Nat) (w : World) (D : Dk) (J : Jn) (j d : Nat) (I K : Nat → Prop) (h : Jd base w D J j d I K) (hbase : base ≤ w.heap.size) (ha : J.all.length ≤ 1099511627776) (hu : J.used ≤ 1099511627776)
    (g off n c : Nat) (l : List UInt8) (hl : Sl w 1 (.slice (some ⟨g, off, none⟩) n c) (B8 l)) (hn : n ≤ 1099511627776) (hg : base ≤ g ∧ g < w.heap.size) (hgK : ¬ (I g ∨ K g)) :
    Calls Try.prog 118 #[.pointer (some ⟨j, 0, none⟩), .slice (some ⟨g, off, none⟩) n c] w fun e w' => e = .returned (.tuple #[]) ∧ ∃ K', Jd base w' D (addJ J l) j d I K' ∧ Kept K w w' ∧ ∀ b, K' b → K b ∨ b = g ∨ w.heap.size ≤ b := by
  obtain ⟨hll, hlc, hlm⟩ := hl.len
  have hjn := h.jn
  obtain ⟨Aa, ca, vs, E, h1, hK⟩ := hjn
  have hca := own_lens h1.row
  have hjl := (Array.getElem?_eq_some_iff.1 h1.blk).1
  obtain ⟨cc, ff⟩ := blk_cells h1.blk
  have q3 := cc 3
  have f3 := ff 3
  simp at q3
  have hsl : Sl (w.alloc (.cells #[.slice (some ⟨g, off, none⟩) n c] 27)) 1 (.slice (some ⟨w.heap.size, 0, none⟩) 1 1) [.slice (some ⟨g, off, none⟩) n c] := by
    refine ⟨_, _, _, rfl, by simp, Nat.le_refl _, by simp [maxLen], fun _ => ⟨w.heap.size, 0, rfl, by simp, fun i hi => ?_⟩⟩
    obtain rfl : i = 0 := by omega
    rw [World.cell?_alloc_at _ _ _ _ rfl]
    rfl
  have hrow := h1.row.alloc (.cells #[.slice (some ⟨g, off, none⟩) n c] 27)
  have hz : base ≤ (w.alloc (.cells #[.slice (some ⟨g, off, none⟩) n c] 27)).heap.size := by simp; omega
  go_enter Try.func118, Try.ntmps118
  go_wp2_with (at_builtin; refine wpList_app rfl (.tmp 8) (.tmp 10) st_rows rfl base rfl hrow rfl hsl (by simp [Value.oneCell']) (by simp [maxLen]; omega) (by omega) hz ?_)
  intro A3 c3 w3 hown3 hg3 hf3
  have kw : Kept (fun b => Value.ownBlock (.slice Aa J.all.length ca) = some b) w w3 := ((Kept.refl _ w).alloc _).step (Kept.of_row hg3) (fun b hb => .inl hb.symm)
  have hj3 := blk_kept h1.blk kw h1.jr
  have q33 := (blk_cells hj3).1 3
  have f33 := (blk_cells hj3).2 3
  simp at q33
  have hal : w.heap.size ≤ (w.alloc (.cells #[.slice (some ⟨g, off, none⟩) n c] 27)).heap.size := by simp
  have hfr : ∀ b, Value.ownBlock (.slice A3 (J.all.length + 1) c3) = some b → Value.ownBlock (.slice Aa J.all.length ca) = some b ∨ w.heap.size ≤ b := fun b hb => by
    rcases hf3 with e | e
    · exact .inl (e ▸ hb)
    · rw [hb] at e
      injection e with e
      exact .inr (by omega)
  have hnj : Value.ownBlock (.slice A3 (J.all.length + 1) c3) ≠ some j := fun e => by
    rcases hfr j e with e | e
    · exact h1.jr e
    · omega
  have hb4 := blk_set hj3 3 (.slice A3 (J.all.length + 1) c3)
  simp at hb4
  have k4 : Kept (fun b => b = j) w3 (w3.setCell ⟨j, 3, none⟩ (.slice A3 (J.all.length + 1) c3)) := (Kept.refl (fun b => b = j) w3).setCell (p := ⟨j, 3, none⟩) (.inl rfl) _
  have hown4 := ownsRow_kept hown3 k4 (fun y hy e => hnj (e ▸ hy))
  clear hsl hrow hz hg3 hf3 cc ff q3 f3
  go_wp2_with fail
  clear q33 f33 hj3 hown3
  generalize w3.setCell ⟨j, 3, none⟩ (.slice A3 (J.all.length + 1) c3) = w4 at *
  have hjl4 : j < w4.heap.size := Nat.lt_of_lt_of_le hjl (Nat.le_trans kw.size k4.size)
  have htk : takesN n ≤ 1099511627776 := by unfold takesN; omega
  refine wp_region_loud (fun y => False ∨ y = j) [(3, loadL [100] (.int .i64 J.used) (BlkF j 201 #[.pointer (some ⟨d, 0, none⟩), .int .u64 J.gen, .int .i64 J.half, .slice A3 (J.all.length + 1) c3, .int .i64 J.used, .bool J.gone])), (6, plainL [] (.int .i64 (takesN n))),
      (10, factL [3] (fun _ => True) (fun _ => BlkF j 201 #[.pointer (some ⟨d, 0, none⟩), .int .u64 J.gen, .int .i64 J.half, .slice A3 (J.all.length + 1) c3, .int .i64 ((J.used + takesN n : Nat) : Int), .bool J.gone]))]
    (addL 100 (BlkF j 201 #[.pointer (some ⟨d, 0, none⟩), .int .u64 J.gen, .int .i64 J.half, .slice A3 (J.all.length + 1) c3, .int .i64 J.used, .bool J.gone]) (fun _ => Fact.none)) (by kernel_rfl) (by kernel_rfl)
    (.cons (loadL_ok _ _ (good_blk _ _ _)) (.cons (plainL_ok _ _) (.cons (factL_ok ⟨undef, trivial⟩ (fun _ => good_blk _ _ _)) .nil)))
    (good_add _ (good_blk _ _ _) good_nothing)
    (sat_add 100 sat_none (fun b _ h => h) (fun b (hb : b = j) => by omega) ⟨rfl, hb4⟩) (WX.out ?_)
  repeat (first | (refine wx_quietU (by rfl) (by rfl) (by rfl) (fun K hK => ?_); go_big_quiet_op; refine hK _ ?_; clear hK K) | (refine wx_quietG (by rfl) (by rfl) (by rfl) (by rfl) (by rfl) (fun K hK => ?_); go_big_quiet_op; refine hK _ ?_; clear hK K) | (refine wx_skipG (by rfl) (by rfl) (by rfl) (fun K hK => ?_); go_simp; refine hK _ ?_; clear hK K) | (refine wx_skipN (by rfl) (by rfl) (by rfl) (fun K hK => ?_); go_simp; refine hK _ ?_; clear hK K))
  refine wx_loudU (us := [100]) (by rfl) (by rfl) (fun S wS hC hS hU => ?_) (fun v hv K hK => ?_)
  · have hB : BlkF j 201 #[.pointer (some ⟨d, 0, none⟩), .int .u64 J.gen, .int .i64 J.half, .slice A3 (J.all.length + 1) c3, .int .i64 J.used, .bool J.gone] S wS := hU 100 (by simp)
    have hc4 := (blkF_cells hB).1 4
    simp at hc4
    exact load_x (by go_simp) (good_blk _ _ _) hB
  obtain rfl := hv; (go_simp; refine hK _ ?_; clear hK K)
  repeat (first | (refine wx_quietU (by rfl) (by rfl) (by rfl) (fun K hK => ?_); go_big_quiet_op; refine hK _ ?_; clear hK K) | (refine wx_quietG (by rfl) (by rfl) (by rfl) (by rfl) (by rfl) (fun K hK => ?_); go_big_quiet_op; refine hK _ ?_; clear hK K) | (refine wx_skipG (by rfl) (by rfl) (by rfl) (fun K hK => ?_); go_simp; refine hK _ ?_; clear hK K) | (refine wx_skipN (by rfl) (by rfl) (by rfl) (fun K hK => ?_); go_simp; refine hK _ ?_; clear hK K))
  refine wx_loudU (us := []) (by rfl) (by rfl) (fun S wS hC hS hU => runs_enter (f := 58) (by go_simp <;> rfl) ?_) (fun v hv K hK => ?_)
  · refine (takes_any n hn wS).mono ?_
    rintro e w9 ⟨rfl, rfl⟩
    exact ⟨_, rfl, rfl, Kept.refl _ _, trivial⟩
  obtain rfl := hv; (go_simp; refine hK _ ?_; clear hK K)
  repeat (first | (refine wx_quietU (by rfl) (by rfl) (by rfl) (fun K hK => ?_); go_big_quiet_op; refine hK _ ?_; clear hK K) | (refine wx_quietG (by rfl) (by rfl) (by rfl) (by rfl) (by rfl) (fun K hK => ?_); go_big_quiet_op; refine hK _ ?_; clear hK K) | (refine wx_skipG (by rfl) (by rfl) (by rfl) (fun K hK => ?_); go_simp; refine hK _ ?_; clear hK K) | (refine wx_skipN (by rfl) (by rfl) (by rfl) (fun K hK => ?_); go_simp; refine hK _ ?_; clear hK K))
  refine wx_loudU (us := [3]) (by rfl) (by rfl) (fun S wS hC hS hU => ?_) (fun v hv K hK => ?_)
  · have hB : BlkF j 201 #[.pointer (some ⟨d, 0, none⟩), .int .u64 J.gen, .int .i64 J.half, .slice A3 (J.all.length + 1) c3, .int .i64 J.used, .bool J.gone] S wS := hU 3 (by simp)
    obtain ⟨hc, hf⟩ := blkF_cells hB
    have hc4 := hc 4
    have hf4 := hf 4
    simp at hc4
    have hB9 := blk_set hB.2 4 (.int .i64 ((J.used : Int) + (takesN n : Int)))
    simp at hB9
    exact runs_skip (by go_simp <;> rfl) ⟨trivial, (Kept.refl _ _).setCell (.inl hB.1) _, .inl hB.1, by simpa using hB9⟩
  (go_simp; refine hK _ ?_; clear hK K)
  repeat (first | (refine wx_quietU (by rfl) (by rfl) (by rfl) (fun K hK => ?_); go_big_quiet_op; refine hK _ ?_; clear hK K) | (refine wx_quietG (by rfl) (by rfl) (by rfl) (by rfl) (by rfl) (fun K hK => ?_); go_big_quiet_op; refine hK _ ?_; clear hK K) | (refine wx_skipG (by rfl) (by rfl) (by rfl) (fun K hK => ?_); go_simp; refine hK _ ?_; clear hK K) | (refine wx_skipN (by rfl) (by rfl) (by rfl) (fun K hK => ?_); go_simp; refine hK _ ?_; clear hK K))
  refine wx_nil fun w9 hsat => ?_
  obtain ⟨S, hS, hfin⟩ := sat_get hsat 10
  have hB9 : w9.heap[j]? = some (.cells (jnC (addJ J l) d A3 c3) 201 (0, 0)) := by
    have := (hfin : BlkF j 201 #[.pointer (some ⟨d, 0, none⟩), .int .u64 J.gen, .int .i64 J.half, .slice A3 (J.all.length + 1) c3, .int .i64 ((J.used + takesN n : Nat) : Int), .bool J.gone] S w9).2
    rw [this]
    simp [addJ, hll]
  have k9 : Kept (fun b => b = j) w3 w9 := k4.step (hsat.1.wider (fun y hy => hy.elim False.elim id)) (fun b hb => .inl hb)
  have kall : Kept (fun b => b = j ∨ Value.ownBlock (.slice Aa J.all.length ca) = some b) w w9 := (kw.wider (fun b hb => .inr hb)).step k9 (fun b hb => .inl (.inl hb))
  have hown9 := ownsRow_kept hown4 (hsat.1.wider (fun y hy => hy.elim False.elim id) : Kept (fun b => b = j) w4 w9) (fun y hy e => hnj (e ▸ hy))
  have hgj : g ≠ j := fun e => hgK (.inr ((hK g).2 (.inl e)))
  have hgr : Value.ownBlock (.slice Aa J.all.length ca) ≠ some g := fun e => hgK (.inr ((hK g).2 (.inr (.inl e))))
  have hlen : (addJ J l).all.length = J.all.length + 1 := by simp [addJ]
  clear hsat hfin hown4 k9 k4 kw hb4 hal hjl4
  have hJ : Jd base w9 D (addJ J l) j d I (fun b => b = j ∨ Value.ownBlock (.slice A3 (addJ J l).all.length c3) = some b ∨ (E b ∨ b = g)) := by
    refine ⟨h.dk.kept kall (fun b hb e => h.dis b hb ((hK b).2 (by rcases e with e | e; exact .inl e; exact .inr (.inl e)))), ⟨A3, c3, vs ++ [.slice (some ⟨g, off, none⟩) n c], fun b => E b ∨ b = g, ?_, fun _ => Iff.rfl⟩, fun b hb e => ?_⟩
    · have hvl : vs.length = J.all.length := by simpa using h1.row.1
      refine ⟨hB9, by rw [hlen]; exact hown9, fun k hk => ?_, fun y hy => ?_, h1.jb, by rw [hlen]; exact hnj, fun e => ?_, fun y hy e => ?_⟩
      · rw [hlen] at hk
        by_cases hk2 : k < J.all.length
        · obtain ⟨g', off', n', c', e1, e2, e3⟩ := h1.ent k hk2
          refine ⟨g', off', n', c', by rw [List.getElem?_append_left (by omega)]; exact e1, ?_, .inl e3⟩
          have hg1 : ¬ (g' = j ∨ Value.ownBlock (.slice Aa J.all.length ca) = some g') := by
            rintro (e | e)
            · exact h1.je (e ▸ e3)
            · exact h1.re g' e e3
          have hs := sl_kept e2 kall (fun ad had => by injection had with had; subst had; exact hg1)
          have ee : (addJ J l).all.getD k [] = J.all.getD k [] := by
            simp only [addJ, List.getD_eq_getElem?_getD]
            rw [List.getElem?_append_left hk2]
          rw [ee]
          exact hs
        · obtain rfl : k = J.all.length := by omega
          refine ⟨g, off, n, c, by rw [← hvl, List.getElem?_append_right (Nat.le_refl _)]; simp, ?_, .inr rfl⟩
          have hs := sl_kept hl kall (fun ad had => by
            injection had with had
            subst had
            rintro (e | e)
            · exact hgj e
            · exact hgr e)
          have ee : (addJ J l).all.getD J.all.length [] = l := by simp [addJ, List.getD_eq_getElem?_getD]
          rw [ee]
          exact hs
      · rcases hy with hy | rfl
        · exact ⟨(h1.ebd y hy).1, Nat.lt_of_lt_of_le (h1.ebd y hy).2 kall.size⟩
        · exact ⟨hg.1, Nat.lt_of_lt_of_le hg.2 kall.size⟩
      · rcases e with e | e
        · exact h1.je e
        · exact hgj e.symm
      · rw [hlen] at hy
        rcases hfr y hy with h2 | h2
        · rcases e with e | e
          · exact h1.re y h2 e
          · exact hgr (e ▸ h2)
        · rcases e with e | e
          · have := (h1.ebd y e).2; omega
          · omega
    · rcases e with e | e | e | e
      · exact h.dis b hb ((hK b).2 (.inl e))
      · rw [hlen] at e
        rcases hfr b e with h2 | h2
        · exact h.dis b hb ((hK b).2 (.inr (.inl h2)))
        · have := (h.dk.bd b hb).2; omega
      · exact h.dis b hb ((hK b).2 (.inr (.inr e)))
      · exact hgK (.inl (e ▸ hb))
  have hkk : Kept K w w9 := kall.wider (fun b hb => (hK b).2 (by rcases hb with e | e; exact .inl e; exact .inr (.inl e)))
  have hKK : ∀ b, (b = j ∨ Value.ownBlock (.slice A3 (addJ J l).all.length c3) = some b ∨ (E b ∨ b = g)) → K b ∨ b = g ∨ w.heap.size ≤ b := by
    rintro b (e | e | e | e)
    · exact .inl ((hK b).2 (.inl e))
    · rw [hlen] at e
      rcases hfr b e with h2 | h2
      · exact .inl ((hK b).2 (.inr (.inl h2)))
      · exact .inr (.inr h2)
    · exact .inl ((hK b).2 (.inr (.inr e)))
    · exact .inr (.inl e)
  clear h1 h hB9 kall hown9 hfr hK hnj
  go_wp2_with fail
  exact bodyPost_end (v := .tuple #[]) (by simp [results, Try.results118, go_sem]) rfl ⟨rfl, _, hJ, hkk, hKK⟩
end Go.Proofs.Ytfhlidlmipleaaa
