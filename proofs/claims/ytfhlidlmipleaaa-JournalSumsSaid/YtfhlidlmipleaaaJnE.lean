/-
  Contract of Begin, where all goes through.
-/
import Derived.Test.YtfhlidlmipleaaaJnD
import Derived.Test.YtfhlidlmipleaaaDkI
namespace Go.Proofs.Ytfhlidlmipleaaa
set_option linter.unusedVariables false
set_option linter.unusedSimpArgs false
open Go Go.RowKit LM

set_option maxRecDepth 100000 in
set_option maxHeartbeats 1600000 in
theorem begin_nil (w : World) : Calls Try.prog 60 #[.pointer none] w fun e w' => e = .returned (.tuple #[.pointer none, .int .i64 1]) ∧ w' = w := by
  go_enter Try.func60, Try.ntmps60
  go_wp2_with fail
  refine (able_nil w).mono ?_
  rintro e w1 ⟨rfl, rfl⟩
  go_wp2_with fail
  refine bodyPost_ret (v := .tuple #[.pointer none, .int .i64 1]) (by simp [results, Try.results60, go_sem]) rfl ⟨rfl, rfl⟩
set_option maxRecDepth 100000 in
set_option maxHeartbeats 1600000 in
theorem begin_small (base : Nat) (w : World) (D : Dk) (d : Nat) (I : Nat → Prop) (h : Dsk base w D d I) (hl : D.stay.length < 4) : Calls Try.prog 60 #[.pointer (some ⟨d, 0, none⟩)] w fun e w' => e = .returned (.tuple #[.pointer none, .int .i64 1]) ∧ w' = w := by
  have hd : decide (4 ≤ (D.stay.length : Int)) = false := decide_eq_false (by omega)
  go_enter Try.func60, Try.ntmps60
  go_wp2_with fail
  refine (able_any base w D d I h).mono ?_
  rintro e w1 ⟨rfl, rfl⟩
  rw [hd]
  clear hd
  go_wp2_with fail
  refine bodyPost_ret (v := .tuple #[.pointer none, .int .i64 1]) (by simp [results, Try.results60, go_sem]) rfl ⟨rfl, rfl⟩
/-- the disk behind Begin -/
def beginD (D : Dk) : Dk := sureD (wrD D (1 - (((curN D 2).1 + 1) % 2 : Nat)) zero64) (((curN D 2).1 + 1) % 2 : Nat) (slotJ ((curN D 2).1 + 1) 0)
set_option maxRecDepth 100000 in
set_option maxHeartbeats 3200000 in
theorem begin_any (base n : Nat) (w : World) (D : Dk) (d : Nat) (I : Nat → Prop) (h : Dsk base w D d I) (hF : FitJ D n) (hbase : base ≤ w.heap.size) (hl : 4 ≤ n ∧ n ≤ 1000) (ho : D.off = false) (hg9 : (curN D 2).1 < 9223372036854775806)
    (he1 : wrE D (1 - (((curN D 2).1 + 1) % 2 : Nat)) zero64 = 0) (he2 : sureE (wrD D (1 - (((curN D 2).1 + 1) % 2 : Nat)) zero64) (((curN D 2).1 + 1) % 2 : Nat) (slotJ ((curN D 2).1 + 1) 0) = 0) :
    Calls Try.prog 60 #[.pointer (some ⟨d, 0, none⟩)] w fun e w' => ∃ j I' K, e = .returned (.tuple #[.pointer (some ⟨j, 0, none⟩), .int .i64 0]) ∧ Jd base w' (beginD D) ⟨(curN D 2).1 + 1, 0, [], 0, false⟩ j d I' K ∧ (∀ b, K b → w.heap.size ≤ b) ∧ (∀ b, I' b → I b ∨ w.heap.size ≤ b) ∧ Kept I w w' := by
  have hln := hF.len
  have hd : decide (4 ≤ (D.stay.length : Int)) = true := decide_eq_true (by omega)
  have hn : ¬ D.off = true := by rw [ho]; exact Bool.false_ne_true
  have e3 : curE D = 0 := by unfold curE; rw [if_neg hn]
  have e1 : curG D = (curN D 2).1 := by unfold curG; rw [if_neg hn]
  have HB : Hid (sureD (wrD D (1 - (((curN D 2).1 + 1) % 2 : Nat)) zero64) (((curN D 2).1 + 1) % 2 : Nat) (slotJ ((curN D 2).1 + 1) 0) = beginD D) := hid rfl
  go_enter Try.func60, Try.ntmps60
  go_wp2_with fail
  refine (able_any base w D d I h).mono ?_
  rintro e w1 ⟨rfl, rfl⟩
  rw [hd]
  clear hd
  go_wp2_with fail
  refine (current_any base w1 D d I h (by omega)).mono ?_
  rintro e w2 ⟨rfl, hb2⟩
  rw [e3, e1]
  clear e3 e1
  obtain ⟨gen, hgen⟩ : ∃ gen, (curN D 2).1 = gen := ⟨_, rfl⟩
  rw [hgen] at HB he1 he2 hg9 ⊢
  have HG := hid hgen
  clear hgen
  generalize curH D = half at *
  have h2 := h.below hb2
  have hw2 := hb2.size
  obtain ⟨g1, hg1⟩ : ∃ g1, gen + 1 = g1 := ⟨_, rfl⟩
  have eg : (gen : Int) + 1 = (g1 : Int) := by omega
  obtain ⟨ow, how⟩ : ∃ ow, g1 % 2 = ow := ⟨_, rfl⟩
  have eo : (g1 : Int) % 2 = (ow : Int) := by omega
  have how2 : ow < 2 := by omega
  have hgl : g1 < 9223372036854775807 := by omega
  rw [hg1, how] at HB he1 he2
  have HG1 := hid hg1
  clear hg1 how
  have hjd : Jd base (w2.alloc (.cells #[.pointer (some ⟨d, 0, none⟩), .int .u64 (g1 : Int), .int .i64 0, .slice none 0 0, .int .i64 0, .bool false] 201)) D ⟨g1, 0, [], 0, false⟩ w2.heap.size d I (fun b => b = w2.heap.size) := by
    refine ⟨h2.below ((Below.refl _ _).alloc (Nat.le_refl _) _), ⟨none, 0, [], fun _ => False, ⟨heap_alloc_new w2 _, World.ownsRow_nil _ _ _ _, fun k hk => absurd hk (by simp), fun _ h => h.elim, by omega, by simp [Value.ownBlock], fun h => h, fun _ _ h => h⟩, fun b => by simp [Value.ownBlock]⟩, fun b hb e => by have := (h2.bd b hb).2; omega⟩
  have hba := hb2.alloc hb2.size (.cells #[.pointer (some ⟨d, 0, none⟩), .int .u64 (g1 : Int), .int .i64 0, .slice none 0 0, .int .i64 0, .bool false] 201)
  have hIlt : ∀ b, I b → b < w2.heap.size := fun b hb => (h2.bd b hb).2
  obtain ⟨w4, hm, hown4, hb4⟩ := mk64 (w2.alloc (.cells #[.pointer (some ⟨d, 0, none⟩), .int .u64 (g1 : Int), .int .i64 0, .slice none 0 0, .int .i64 0, .bool false] 201))
  have hs3 : w1.heap.size ≤ (w2.alloc (.cells #[.pointer (some ⟨d, 0, none⟩), .int .u64 (g1 : Int), .int .i64 0, .slice none 0 0, .int .i64 0, .bool false] 201)).heap.size := hba.size
  have hs2 : w2.heap.size < (w2.alloc (.cells #[.pointer (some ⟨d, 0, none⟩), .int .u64 (g1 : Int), .int .i64 0, .slice none 0 0, .int .i64 0, .bool false] 201)).heap.size := by simp
  have hs34 := hb4.size
  have hjd4 := hjd.below hb4
  have hb14 := hba.trans (hb4.mono hs3)
  have hfew := hF.few
  have hlz : (B8 zero64).length = 64 := by simp [B8_length, zero64]
  clear hjd hba h2 hb4
  have hsz : w2.heap.size + 1 = (w2.alloc (.cells #[.pointer (some ⟨d, 0, none⟩), .int .u64 (g1 : Int), .int .i64 0, .slice none 0 0, .int .i64 0, .bool false] 201)).heap.size := by simp
  generalize (w2.alloc (.cells #[.pointer (some ⟨d, 0, none⟩), .int .u64 (g1 : Int), .int .i64 0, .slice none 0 0, .int .i64 0, .bool false] 201)).heap.size = g at *
  go_wp2_with fail
  refine (dsk_write base w4 D d I _ g 0 64 64 zero64 hjd4.dk (by omega) (own_sl hown4) (.inl rfl) (by omega) (fun hx => by have := hIlt g hx; omega)).mono ?_
  rintro e w5 ⟨rfl, I5, hd5, ht5⟩
  have s5 := hjd4.turn hd5 ht5
  have hF5 := hF.write (1 - (ow : Int)) zero64
  have hi5 : ∀ b, I5 b → I b ∨ w1.heap.size ≤ b := fun b hb => by
    rcases ht5.2 b hb with e | e
    · exact .inl e
    · exact .inr (by omega)
  have hk5 : Kept I w1 w5 := (Kept.of_below hb14).step ht5.1 (fun b hb => .inl hb)
  rw [he1]
  clear hm he1 hd5 ht5 hjd4 hown4 hb14
  obtain ⟨_, _, hjl5, _, _, _, q1, _⟩ := s5.jd.jn.cells
  simp only at q1
  have hs5 := s5.size
  go_wp2_with fail
  refine (slot_any g1 0 w5 (by omega) (by omega)).mono ?_
  rintro e w6 ⟨A6, c6, rfl, hown6, hb6⟩
  obtain ⟨g6, rfl, hg6, hg6'⟩ := own_some hown6 (by omega)
  have s6 := s5.trans (Stp.ofBelow s5.jd hb6)
  have hk6 : Kept I w1 w6 := hk5.step (Kept.of_below (S := I) hb6) (fun b hb => .inl hb)
  have hg6I : ¬ I5 g6 := fun hx => by have := (s5.jd.dk.bd g6 hx).2; omega
  clear q1 hb6 s5 hk5
  go_wp2_with fail
  refine (sure_any base n w6 _ _ w2.heap.size d I5 _ s6.jd hF5 hl.2 (by have := s6.size; omega) (ow : Int) g6 0 c6 _ (own_sl hown6) hg6I).mono ?_
  rintro e w7 ⟨rfl, I7, s7⟩
  rw [he2] at s7 ⊢
  have hsz7 := s7.size
  have hsz6 := s6.size
  have hk7 : Kept I w1 w7 := hk6.step s7.kp (fun b hb => by
    rcases hb with e | e
    · exact hi5 b e
    · exact .inr (by omega))
  have hi7 : ∀ b, I7 b → I b ∨ w1.heap.size ≤ b := fun b hb => by
    rcases s7.sub b (.inl hb) with e | e
    · rcases e with e | e
      · exact hi5 b e
      · exact .inr (by omega)
    · exact .inr (by omega)
  have hjd7 : Jd base w7 (beginD D) ⟨g1, 0, [], 0, false⟩ w2.heap.size d I7 (fun b => b = w2.heap.size) := by
    rw [← HB.out]
    exact s7.jd
  have hK7 : ∀ b, b = w2.heap.size → w1.heap.size ≤ b := fun b hb => by omega
  clear s7 s6 hk6 HB hown6
  go_wp2_with fail
  refine bodyPost_ret (v := .tuple #[.pointer (some ⟨w2.heap.size, 0, none⟩), .int .i64 0]) (by simp [results, Try.results60, go_sem]) rfl ⟨w2.heap.size, I7, _, rfl, by rw [HG.out, HG1.out]; exact hjd7, hK7, hi7, hk7⟩
end Go.Proofs.Ytfhlidlmipleaaa
