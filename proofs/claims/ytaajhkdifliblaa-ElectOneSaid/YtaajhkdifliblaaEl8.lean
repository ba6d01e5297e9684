/-
  The walk of the law ElectOne.
-/
import Derived.Test.YtaajhkdifliblaaEl7
namespace Go.Proofs.Ytaajhkdifliblaa
set_option linter.unusedVariables false
set_option linter.unusedSimpArgs false
open Go Go.RowKit EL

def Apart (a b : Value) : Prop := ∀ g, a.ownBlock = some g → b.ownBlock ≠ some g
theorem Apart.symm {a b : Value} (h : Apart a b) : Apart b a := fun g hb ha => h g ha hb
/-- three rows of the call's own, of which no two lie in one block -/
structure R3 (base : Nat) (w : World) (va vb vc : Value) (na nb nc : Nat) (la lb lc : List Vot) : Prop where
  a : w.ownsRow base 50 5 va na (VS la)
  b : w.ownsRow base 50 5 vb nb (VS lb)
  c : w.ownsRow base 50 5 vc nc (VS lc)
  ab : Apart va vb
  ac : Apart va vc
  bc : Apart vb vc
/-- .. and a voter in a block besides -/
structure R4 (base : Nat) (w : World) (va vb vc : Value) (na nb nc : Nat) (la lb lc : List Vot) (g : Nat) (v : Vot) : Prop where
  r : R3 base w va vb vc na nb nc la lb lc
  blk : w.heap[g]? = some (.cells (vC v) 50 (0, 0))
  ga : va.ownBlock ≠ some g
  gb : vb.ownBlock ≠ some g
  gc : vc.ownBlock ≠ some g
section
variable {base : Nat} {w w' : World} {va vb vc : Value} {na nb nc : Nat} {la lb lc : List Vot} {g : Nat} {v : Vot}
theorem R3.alloc (h : R3 base w va vb vc na nb nc la lb lc) (o : Obj) : R3 base (w.alloc o) va vb vc na nb nc la lb lc := ⟨h.a.alloc o, h.b.alloc o, h.c.alloc o, h.ab, h.ac, h.bc⟩
theorem R3.fresh (h : R3 base w va vb vc na nb nc la lb lc) (v : Vot) : R4 base (w.alloc (.cells (vC v) 50)) va vb vc na nb nc la lb lc w.heap.size v :=
  ⟨h.alloc _, heap_alloc_new w _, fun e => by have := h.a.lt _ e; omega, fun e => by have := h.b.lt _ e; omega, fun e => by have := h.c.lt _ e; omega⟩
theorem R4.alloc (h : R4 base w va vb vc na nb nc la lb lc g v) (o : Obj) : R4 base (w.alloc o) va vb vc na nb nc la lb lc g v := ⟨h.r.alloc o, blk_alloc h.blk o, h.ga, h.gb, h.gc⟩
theorem R4.set (h : R4 base w va vb vc na nb nc la lb lc g v) (i : Nat) (u : Value) (v' : Vot) (hcs : (vC v).setIfInBounds i u = vC v') : R4 base (w.setCell ⟨g, i, none⟩ u) va vb vc na nb nc la lb lc g v' := by
  have hk : Kept (fun b => b = g) w (w.setCell ⟨g, i, none⟩ u) := (Kept.refl (fun b => b = g) w).setCell (p := ⟨g, i, none⟩) (.inl rfl) u
  refine ⟨⟨ownsRow_kept h.r.a hk fun b hb e => h.ga (by rw [hb, e]), ownsRow_kept h.r.b hk fun b hb e => h.gb (by rw [hb, e]), ownsRow_kept h.r.c hk fun b hb e => h.gc (by rw [hb, e]), h.r.ab, h.r.ac, h.r.bc⟩, ?_, h.ga, h.gb, h.gc⟩
  rw [← hcs]
  exact blk_set h.blk i u
theorem kept_apart {x y : Value} {e : TypeId} {size n : Nat} {xs : List Value} (h : w.ownsRow base e size y n xs) (hg : w.grownBy w' x.ownBlock) (ha : Apart y x) : w'.ownsRow base e size y n xs :=
  h.kept hg (by
    rcases hy : y.ownBlock with _ | k
    · exact .inl rfl
    · exact .inr (fun e => ha k hy e.symm))
theorem apart_app {x x' y : Value} (hy : ∀ k, y.ownBlock = some k → k < w.heap.size) (ha : Apart y x) (hf : x'.ownBlock = x.ownBlock ∨ x'.ownBlock = some w.heap.size) : Apart y x' := by
  intro g hg e
  rcases hf with hf | hf
  · exact ha g hg (by rw [← hf, e])
  · rw [hf] at e
    injection e with e
    have := hy g hg
    omega
theorem far_app {x x' : Value} (hgl : g < w.heap.size) (h : x.ownBlock ≠ some g) (hf : x'.ownBlock = x.ownBlock ∨ x'.ownBlock = some w.heap.size) : x'.ownBlock ≠ some g := by
  intro e
  rcases hf with hf | hf
  · exact h (by rw [← hf, e])
  · rw [hf] at e
    injection e with e
    omega
theorem R4.appA (h : R4 base w va vb vc na nb nc la lb lc g v) {va' : Value} {m : Nat} {l : List Vot} (ho : w'.ownsRow base 50 5 va' m (VS l)) (hg : w.grownBy w' va.ownBlock) (hf : va'.ownBlock = va.ownBlock ∨ va'.ownBlock = some w.heap.size) :
    R4 base w' va' vb vc m nb nc l lb lc g v :=
  have hgl := (Array.getElem?_eq_some_iff.1 h.blk).1
  ⟨⟨ho, kept_apart h.r.b hg h.r.ab.symm, kept_apart h.r.c hg h.r.ac.symm, (apart_app (fun k e => (h.r.b.lt k e).2) h.r.ab.symm hf).symm, (apart_app (fun k e => (h.r.c.lt k e).2) h.r.ac.symm hf).symm, h.r.bc⟩,
    (hg.block g hgl (fun e => h.ga e.symm)).trans h.blk, far_app hgl h.ga hf, h.gb, h.gc⟩
theorem R4.appB (h : R4 base w va vb vc na nb nc la lb lc g v) {vb' : Value} {m : Nat} {l : List Vot} (ho : w'.ownsRow base 50 5 vb' m (VS l)) (hg : w.grownBy w' vb.ownBlock) (hf : vb'.ownBlock = vb.ownBlock ∨ vb'.ownBlock = some w.heap.size) :
    R4 base w' va vb' vc na m nc la l lc g v :=
  have hgl := (Array.getElem?_eq_some_iff.1 h.blk).1
  ⟨⟨kept_apart h.r.a hg h.r.ab, ho, kept_apart h.r.c hg h.r.bc.symm, apart_app (fun k e => (h.r.a.lt k e).2) h.r.ab hf, h.r.ac, (apart_app (fun k e => (h.r.c.lt k e).2) h.r.bc.symm hf).symm⟩,
    (hg.block g hgl (fun e => h.gb e.symm)).trans h.blk, h.ga, far_app hgl h.gb hf, h.gc⟩
theorem R4.appC (h : R4 base w va vb vc na nb nc la lb lc g v) {vc' : Value} {m : Nat} {l : List Vot} (ho : w'.ownsRow base 50 5 vc' m (VS l)) (hg : w.grownBy w' vc.ownBlock) (hf : vc'.ownBlock = vc.ownBlock ∨ vc'.ownBlock = some w.heap.size) :
    R4 base w' va vb vc' na nb m la lb l g v :=
  have hgl := (Array.getElem?_eq_some_iff.1 h.blk).1
  ⟨⟨kept_apart h.r.a hg h.r.ac, kept_apart h.r.b hg h.r.bc, ho, h.r.ab, apart_app (fun k e => (h.r.a.lt k e).2) h.r.ac hf, apart_app (fun k e => (h.r.b.lt k e).2) h.r.bc hf⟩,
    (hg.block g hgl (fun e => h.gc e.symm)).trans h.blk, h.ga, h.gb, far_app hgl h.gc hf⟩
end
/-- the three rows of the law -/
def vB (i : Nat) : Vot := ⟨(i : Int) + 1, 10 + (i : Int), 0, 0, 0⟩
def vA (k i : Nat) : Vot := if i = k then ⟨(i : Int) + 1, 10 + (i : Int), 5, 0, 0⟩ else vB i
def vCC (k i : Nat) : Vot := ⟨(i : Int) + 1, 10 + (i : Int), 1 + (i : Int), 10 + (k : Int), 0⟩
def rowOf (f : Nat → Vot) (j : Nat) : List Vot := (List.range j).map f
theorem rowOf_succ (f : Nat → Vot) (j : Nat) : rowOf f (j + 1) = rowOf f j ++ [f j] := by unfold rowOf; rw [List.range_succ, List.map_append]; rfl
def lawOne (n k : Nat) : Bool :=
  decide ((stable (rowOf (vA k) n)).1 = 10 + (k : Int)) && decide ((stable (rowOf (vA k) n)).2.1 = 0) && decide ((stable (rowOf vB n)).1 = 0) && decide ((stable (rowOf vB n)).2.1 = 0) &&
    decide ((stable (rowOf (vCC k) n)).1 = 10 + (k : Int)) && decide ((stable (rowOf (vCC k) n)).2.1 = if n = 1 then 0 else if k + 1 = n then 10 + (n : Int) - 2 else 10 + (n : Int) - 1)
theorem lawOne_true : ∀ n, n < 7 → 0 < n → ∀ k, k < n → lawOne n k = true := of_decide_eq_true (by kernel_rfl)
set_option maxRecDepth 100000 in
set_option maxHeartbeats 3200000 in
theorem electOne_walk (x y : Int) (w : World) : Calls Try.prog 6 #[.int .i64 x, .int .i64 y] w fun e w' => e = .returned (.bool true) ∧ Below w.heap.size w w' := by
  obtain ⟨n, hn1, hn2, en⟩ : ∃ n : Nat, 1 ≤ n ∧ n ≤ 6 ∧ wrap64 (1 + wrap64 ((IntKind.u64.wrap x).tmod 6)) = (n : Int) := by
    refine ⟨(1 + (IntKind.u64.wrap x) % 6).toNat, ?_⟩
    rw [IntKind.wrap_u64, Int.tmod_eq_emod_of_nonneg (by omega)]
    unfold wrap64
    omega
  have en2 : IntKind.u64.wrap (n : Int) = n := by rw [IntKind.wrap_u64]; omega
  obtain ⟨k, hk, ek⟩ : ∃ k : Nat, k < n ∧ wrap64 ((IntKind.u64.wrap y).tmod (n : Int)) = (k : Int) := by
    have h1 := Int.emod_nonneg (IntKind.u64.wrap y) (show (n : Int) ≠ 0 by omega)
    have h2 := Int.emod_lt_of_pos (IntKind.u64.wrap y) (show 0 < (n : Int) by omega)
    refine ⟨((IntKind.u64.wrap y) % n).toNat, by omega, ?_⟩
    rw [Int.tmod_eq_emod_of_nonneg (by rw [IntKind.wrap_u64]; omega)]
    unfold wrap64
    omega
  go_enter Try.func6, Try.ntmps6
  go_wp2_with fail
  rw [en, ek]
  clear en en2 ek
  go_loopw [7, 8, 9, 10] (fun a b c i wr => ∃ (j : Nat) (Aa Ab Ac : Option Addr) (ca cb cc : Nat), j ≤ n ∧ i = .int .i64 j ∧ a = .slice Aa j ca ∧ b = .slice Ab j cb ∧ c = .slice Ac j cc ∧
    R3 w.heap.size wr (.slice Aa j ca) (.slice Ab j cb) (.slice Ac j cc) j j j (rowOf (vA k) j) (rowOf vB j) (rowOf (vCC k) j) ∧ Below w.heap.size w wr) (fun _ _ _ i _ => n - (intOf i).toNat)
  case atStart =>
    refine ⟨0, none, none, none, 0, 0, 0, Nat.zero_le _, rfl, rfl, rfl, rfl, ⟨own_nilE _ _ _ _, own_nilE _ _ _ _, own_nilE _ _ _ _, ?_, ?_, ?_⟩, Below.refl _ _⟩ <;> (intro g h; simp [Value.ownBlock] at h)
  case round =>
    obtain ⟨j, Aa, Ab, Ac, ca, cb, cc, hj, rfl, rfl, rfl, rfl, hR, hbr⟩ := hrel
    by_cases hlt : j < n
    · have hR1 := hR.fresh (vB j)
      have hb1 := hbr.alloc hbr.size (.cells (vC (vB j)) 50)
      have hsl : Sl ((wr.alloc (.cells (vC (vB j)) 50)).alloc (.cells (vC (vB j)) 50)) 5 (.slice (some ⟨wr.heap.size + 1, 0, none⟩) 1 1) (VS [vB j]) := by
        have := own_sl (own_made (wr.alloc (.cells (vC (vB j)) 50)) 0 50 5 1 (vC (vB j)) (VS [vB j]) (Nat.zero_le _) rfl rfl (by omega) (by omega))
        simpa using this
      have hR2 := hR1.alloc (.cells (vC (vB j)) 50)
      have hb2 := hb1.alloc (by simp; have := hbr.size; omega) (.cells (vC (vB j)) 50)
      go_wp2_with (at_builtin; refine wpList_app rfl (.tmp 46) (.tmp 48) st_vots rfl w.heap.size rfl hR2.r.b rfl hsl (VS_one _) (by simp [maxLen]; omega) (by omega) hb2.size ?_)
      intro A3 c3 w3 ho3 hg3 hf3
      rw [← VS_append, ← rowOf_succ] at ho3
      have hR3 := hR2.appB ho3 hg3 (by simpa using hf3)
      have hb3 := hb2.trans (grown_below hR2.r.b hg3 hb2.size)
      clear hR hR1 hR2 hb1 hb2 hsl ho3 hg3 hf3
      by_cases hjk : j = k
      · have HJK := hid hjk
        clear hjk
        have qjk : ((j : Int) == (k : Int)) = true := by rw [beq_iff_eq]; have := HJK.out; omega
        have hR4 := hR3.set 2 (.int .i64 5) ⟨(j : Int) + 1, 10 + (j : Int), 5, 0, 0⟩ rfl
        have hb4 := hb3.setCell (p := ⟨wr.heap.size, 2, none⟩) hbr.size (.int .i64 5)
        have hsl5 : Sl ((w3.setCell ⟨wr.heap.size, 2, none⟩ (.int .i64 5)).alloc (.cells (vC ⟨(j : Int) + 1, 10 + (j : Int), 5, 0, 0⟩) 50)) 5 (.slice (some ⟨w3.heap.size, 0, none⟩) 1 1) (VS [⟨(j : Int) + 1, 10 + (j : Int), 5, 0, 0⟩]) := by
          have := own_sl (own_made (w3.setCell ⟨wr.heap.size, 2, none⟩ (.int .i64 5)) 0 50 5 1 (vC ⟨(j : Int) + 1, 10 + (j : Int), 5, 0, 0⟩) (VS [⟨(j : Int) + 1, 10 + (j : Int), 5, 0, 0⟩]) (Nat.zero_le _) rfl rfl (by omega) (by omega))
          simpa using this
        have hR5 := hR4.alloc (.cells (vC ⟨(j : Int) + 1, 10 + (j : Int), 5, 0, 0⟩) 50)
        have hb5 := hb4.alloc (by have := hb3.size; simp; omega) (.cells (vC ⟨(j : Int) + 1, 10 + (j : Int), 5, 0, 0⟩) 50)
        obtain ⟨hc3, hf3⟩ := blk_cells hR3.blk
        have hgw : w.heap.size ≤ wr.heap.size := hbr.size
        go_wp2_with (at_builtin; refine wpList_app rfl (.tmp 54) (.tmp 56) st_vots rfl w.heap.size rfl hR5.r.a rfl hsl5 (VS_one _) (by simp [maxLen]; omega) (by omega) hb5.size ?_)
        intro A6 c6 w6 ho6 hg6 hf6
        rw [← VS_append, show rowOf (vA k) j ++ [⟨(j : Int) + 1, 10 + (j : Int), 5, 0, 0⟩] = rowOf (vA k) (j + 1) by rw [rowOf_succ]; simp [vA, HJK.out]] at ho6
        have hR6 := hR5.appA ho6 hg6 (by simpa using hf6)
        have hb6 := hb5.trans (grown_below hR5.r.a hg6 hb5.size)
        clear hc3 hf3 hR3 hR4 hR5 hb3 hb4 hb5 hsl5 ho6 hg6 hf6
        obtain ⟨hc6, hf6⟩ := blk_cells hR6.blk
        have hR7 := (hR6.set 2 (.int .i64 (1 + (j : Int))) ⟨(j : Int) + 1, 10 + (j : Int), 1 + (j : Int), 0, 0⟩ rfl).set 3 (.int .u32 (10 + (k : Int))) (vCC k j) rfl
        have hb7 := (hb6.setCell (p := ⟨wr.heap.size, 2, none⟩) hgw (.int .i64 (1 + (j : Int)))).setCell (p := ⟨wr.heap.size, 3, none⟩) hgw (.int .u32 (10 + (k : Int)))
        have hsl8 : Sl (((w6.setCell ⟨wr.heap.size, 2, none⟩ (.int .i64 (1 + (j : Int)))).setCell ⟨wr.heap.size, 3, none⟩ (.int .u32 (10 + (k : Int)))).alloc (.cells (vC (vCC k j)) 50)) 5 (.slice (some ⟨w6.heap.size, 0, none⟩) 1 1) (VS [vCC k j]) := by
          have := own_sl (own_made ((w6.setCell ⟨wr.heap.size, 2, none⟩ (.int .i64 (1 + (j : Int)))).setCell ⟨wr.heap.size, 3, none⟩ (.int .u32 (10 + (k : Int)))) 0 50 5 1 (vC (vCC k j)) (VS [vCC k j]) (Nat.zero_le _) rfl rfl (by omega) (by omega))
          simpa using this
        have hR8 := hR7.alloc (.cells (vC (vCC k j)) 50)
        have hb8 := hb7.alloc (by have := hb6.size; simp; omega) (.cells (vC (vCC k j)) 50)
        go_wp2_with (at_builtin; refine wpList_app rfl (.tmp 65) (.tmp 67) st_vots rfl w.heap.size rfl hR8.r.c rfl hsl8 (VS_one _) (by simp [maxLen]; omega) (by omega) hb8.size ?_)
        intro A9 c9 w9 ho9 hg9 hf9
        rw [← VS_append, ← rowOf_succ] at ho9
        have hR9 := hR8.appC ho9 hg9 (by simpa using hf9)
        have hb9 := hb8.trans (grown_below hR8.r.c hg9 hb8.size)
        clear hc6 hf6 hR6 hR7 hR8 hb6 hb7 hb8 hsl8 ho9 hg9 hf9
        go_wp2_with fail
        go_light
        exact ⟨⟨j + 1, A6, A3, A9, c6, c3, c9, by omega, by go_num, rfl, rfl, rfl, hR9.r, hb9⟩, by simp [intOf]; omega⟩
      · have hR4 := hR3
        have hb4 := hb3
        have HJK := hid hjk
        clear hjk
        have qjk : ((j : Int) == (k : Int)) = false := by rw [beq_eq_false_iff_ne]; have := HJK.out; omega
        have hsl5 : Sl ((w3).alloc (.cells (vC (vB j)) 50)) 5 (.slice (some ⟨w3.heap.size, 0, none⟩) 1 1) (VS [(vB j)]) := by
          have := own_sl (own_made (w3) 0 50 5 1 (vC (vB j)) (VS [(vB j)]) (Nat.zero_le _) rfl rfl (by omega) (by omega))
          simpa using this
        have hR5 := hR4.alloc (.cells (vC (vB j)) 50)
        have hb5 := hb4.alloc (by have := hb3.size; simp; omega) (.cells (vC (vB j)) 50)
        obtain ⟨hc3, hf3⟩ := blk_cells hR3.blk
        have hgw : w.heap.size ≤ wr.heap.size := hbr.size
        go_wp2_with (at_builtin; refine wpList_app rfl (.tmp 54) (.tmp 56) st_vots rfl w.heap.size rfl hR5.r.a rfl hsl5 (VS_one _) (by simp [maxLen]; omega) (by omega) hb5.size ?_)
        intro A6 c6 w6 ho6 hg6 hf6
        rw [← VS_append, show rowOf (vA k) j ++ [(vB j)] = rowOf (vA k) (j + 1) by rw [rowOf_succ]; simp [vA, HJK.out]] at ho6
        have hR6 := hR5.appA ho6 hg6 (by simpa using hf6)
        have hb6 := hb5.trans (grown_below hR5.r.a hg6 hb5.size)
        clear hc3 hf3 hR3 hR4 hR5 hb3 hb4 hb5 hsl5 ho6 hg6 hf6
        obtain ⟨hc6, hf6⟩ := blk_cells hR6.blk
        have hR7 := (hR6.set 2 (.int .i64 (1 + (j : Int))) ⟨(j : Int) + 1, 10 + (j : Int), 1 + (j : Int), 0, 0⟩ rfl).set 3 (.int .u32 (10 + (k : Int))) (vCC k j) rfl
        have hb7 := (hb6.setCell (p := ⟨wr.heap.size, 2, none⟩) hgw (.int .i64 (1 + (j : Int)))).setCell (p := ⟨wr.heap.size, 3, none⟩) hgw (.int .u32 (10 + (k : Int)))
        have hsl8 : Sl (((w6.setCell ⟨wr.heap.size, 2, none⟩ (.int .i64 (1 + (j : Int)))).setCell ⟨wr.heap.size, 3, none⟩ (.int .u32 (10 + (k : Int)))).alloc (.cells (vC (vCC k j)) 50)) 5 (.slice (some ⟨w6.heap.size, 0, none⟩) 1 1) (VS [vCC k j]) := by
          have := own_sl (own_made ((w6.setCell ⟨wr.heap.size, 2, none⟩ (.int .i64 (1 + (j : Int)))).setCell ⟨wr.heap.size, 3, none⟩ (.int .u32 (10 + (k : Int)))) 0 50 5 1 (vC (vCC k j)) (VS [vCC k j]) (Nat.zero_le _) rfl rfl (by omega) (by omega))
          simpa using this
        have hR8 := hR7.alloc (.cells (vC (vCC k j)) 50)
        have hb8 := hb7.alloc (by have := hb6.size; simp; omega) (.cells (vC (vCC k j)) 50)
        go_wp2_with (at_builtin; refine wpList_app rfl (.tmp 65) (.tmp 67) st_vots rfl w.heap.size rfl hR8.r.c rfl hsl8 (VS_one _) (by simp [maxLen]; omega) (by omega) hb8.size ?_)
        intro A9 c9 w9 ho9 hg9 hf9
        rw [← VS_append, ← rowOf_succ] at ho9
        have hR9 := hR8.appC ho9 hg9 (by simpa using hf9)
        have hb9 := hb8.trans (grown_below hR8.r.c hg9 hb8.size)
        clear hc6 hf6 hR6 hR7 hR8 hb6 hb7 hb8 hsl8 ho9 hg9 hf9
        go_wp2_with fail
        go_light
        exact ⟨⟨j + 1, A6, A3, A9, c6, c3, c9, by omega, by go_num, rfl, rfl, rfl, hR9.r, hb9⟩, by simp [intOf]; omega⟩
    · obtain rfl : j = n := by omega
      have F := lawOne_true j (by omega) hn1 k hk
      simp only [lawOne, Bool.and_eq_true, decide_eq_true_eq] at F
      obtain ⟨⟨⟨⟨⟨f1, f2⟩, f3⟩, f4⟩, f5⟩, f6⟩ := F
      have h1 := own_sl hR.a
      have h2 := own_sl hR.b
      have h3 := own_sl hR.c
      obtain ⟨m1, e1⟩ : ∃ m, Hid (stable (rowOf (vA k) j) = (10 + (k : Int), 0, m)) := ⟨_, Prod.ext f1 (Prod.ext f2 rfl)⟩
      obtain ⟨m2, e2⟩ : ∃ m, Hid (stable (rowOf vB j) = (0, 0, m)) := ⟨_, Prod.ext f3 (Prod.ext f4 rfl)⟩
      clear f1 f2 f3 f4 hR
      by_cases hk1 : k + 1 = j
      · have qk : ((k : Int) == (j : Int) - 1) = true := by rw [beq_iff_eq]; omega
        by_cases hj1 : j = 1
        · obtain ⟨m3, e3⟩ : ∃ m, Hid (stable (rowOf (vCC k) j) = (10 + (k : Int), 0, m)) := ⟨_, Prod.ext f5 (Prod.ext (by rw [f6, if_pos hj1]) rfl)⟩
          have hd : (j : Int) - 2 < 0 := by omega
          clear f5 f6 hj1 hk1
          go_wp2_with fail
          refine (stable_any Aa j ca (rowOf (vA k) j) wr h1 (by omega)).mono ?_
          rintro e w1 ⟨rfl, hb1⟩
          rw [e1.out]
          have hb1' := hbr.trans (hb1.mono hbr.size)
          replace h2 := h2.below hb1
          replace h3 := h3.below hb1
          go_wp2_with fail
          refine (stable_any Ab j cb (rowOf vB j) w1 h2 (by omega)).mono ?_
          rintro e w2 ⟨rfl, hb2⟩
          rw [e2.out]
          have hb2' := hb1'.trans (hb2.mono hb1'.size)
          replace h3 := h3.below hb2
          go_wp2_with fail
          refine (stable_any Ac j cc (rowOf (vCC k) j) w2 h3 (by omega)).mono ?_
          rintro e w3 ⟨rfl, hb3⟩
          rw [e3.out]
          have hb3' := hb2'.trans (hb3.mono hb2'.size)
          clear h1 h2 h3 hb1 hb2 hb3 hb1' hb2' hbr
          go_wp2_with fail
          refine (elects_any w3).mono ?_
          rintro e w4 ⟨rfl, hb4⟩
          have hb4' := hb3'.trans (hb4.mono hb3'.size)
          clear hb3' hb4
          go_wp2_with fail
          go_ret
          exact ⟨rfl, hb4'⟩
        · obtain ⟨m3, e3⟩ : ∃ m, Hid (stable (rowOf (vCC k) j) = (10 + (k : Int), 10 + ((j : Int) - 2), m)) := ⟨_, Prod.ext f5 (Prod.ext (by rw [f6, if_neg hj1, if_pos hk1]; show 10 + (j : Int) - 2 = 10 + ((j : Int) - 2); omega) rfl)⟩
          have hd : 0 ≤ (j : Int) - 2 := by omega
          have hd2 : 2 ≤ j := by omega
          clear f5 f6 hj1 hk1
          go_wp2_with fail
          refine (stable_any Aa j ca (rowOf (vA k) j) wr h1 (by omega)).mono ?_
          rintro e w1 ⟨rfl, hb1⟩
          rw [e1.out]
          have hb1' := hbr.trans (hb1.mono hbr.size)
          replace h2 := h2.below hb1
          replace h3 := h3.below hb1
          go_wp2_with fail
          refine (stable_any Ab j cb (rowOf vB j) w1 h2 (by omega)).mono ?_
          rintro e w2 ⟨rfl, hb2⟩
          rw [e2.out]
          have hb2' := hb1'.trans (hb2.mono hb1'.size)
          replace h3 := h3.below hb2
          go_wp2_with fail
          refine (stable_any Ac j cc (rowOf (vCC k) j) w2 h3 (by omega)).mono ?_
          rintro e w3 ⟨rfl, hb3⟩
          rw [e3.out]
          have hb3' := hb2'.trans (hb3.mono hb2'.size)
          clear h1 h2 h3 hb1 hb2 hb3 hb1' hb2' hbr
          go_wp2_with fail
          refine (elects_any w3).mono ?_
          rintro e w4 ⟨rfl, hb4⟩
          have hb4' := hb3'.trans (hb4.mono hb3'.size)
          clear hb3' hb4
          go_wp2_with fail
          go_ret
          exact ⟨rfl, hb4'⟩
      · have qk : ((k : Int) == (j : Int) - 1) = false := by rw [beq_eq_false_iff_ne]; omega
        obtain ⟨m3, e3⟩ : ∃ m, Hid (stable (rowOf (vCC k) j) = (10 + (k : Int), 10 + ((j : Int) - 1), m)) := ⟨_, Prod.ext f5 (Prod.ext (by rw [f6, if_neg (by omega), if_neg hk1]; show 10 + (j : Int) - 1 = 10 + ((j : Int) - 1); omega) rfl)⟩
        have hd : 0 ≤ (j : Int) - 1 := by omega
        clear f5 f6 hk1
        go_wp2_with fail
        refine (stable_any Aa j ca (rowOf (vA k) j) wr h1 (by omega)).mono ?_
        rintro e w1 ⟨rfl, hb1⟩
        rw [e1.out]
        have hb1' := hbr.trans (hb1.mono hbr.size)
        replace h2 := h2.below hb1
        replace h3 := h3.below hb1
        go_wp2_with fail
        refine (stable_any Ab j cb (rowOf vB j) w1 h2 (by omega)).mono ?_
        rintro e w2 ⟨rfl, hb2⟩
        rw [e2.out]
        have hb2' := hb1'.trans (hb2.mono hb1'.size)
        replace h3 := h3.below hb2
        go_wp2_with fail
        refine (stable_any Ac j cc (rowOf (vCC k) j) w2 h3 (by omega)).mono ?_
        rintro e w3 ⟨rfl, hb3⟩
        rw [e3.out]
        have hb3' := hb2'.trans (hb3.mono hb2'.size)
        clear h1 h2 h3 hb1 hb2 hb3 hb1' hb2' hbr
        go_wp2_with fail
        refine (elects_any w3).mono ?_
        rintro e w4 ⟨rfl, hb4⟩
        have hb4' := hb3'.trans (hb4.mono hb3'.size)
        clear hb3' hb4
        go_wp2_with fail
        go_ret
        exact ⟨rfl, hb4'⟩
end Go.Proofs.Ytaajhkdifliblaa
