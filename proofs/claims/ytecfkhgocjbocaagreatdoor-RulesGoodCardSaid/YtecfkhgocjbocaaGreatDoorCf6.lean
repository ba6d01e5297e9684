/-
  Contract of slices.Insert at lines, of one line.
-/
import Derived.Test.YtecfkhgocjbocaaGreatDoorCf5
import Derived.Shelf.Spec.SlicesInsert
import Derived.Lib.AppendZerosOnto
namespace Go.Proofs.YtecfkhgocjbocaaGreatDoor
set_option linter.unusedVariables false
set_option linter.unusedSimpArgs false
open Go Go.RowKit

namespace CF
/-- a row with a line laid in -/
def InsPost (B : Nat) (n : Nat) (zs : List Value) (w : World) (e : Ending) (w' : World) : Prop := ∃ A' c', e = .returned (.slice A' (n + 1) c') ∧ Sl w' 4 (.slice A' (n + 1) c') zs ∧ Below B w w'
theorem blk_range {w : World} {g : Nat} {cs : Array Value} {T : TypeId} (h : w.heap[g]? = some (.cells cs T (0, 0))) : ∀ j v, cs.toList[j]? = some v → w.cell? ⟨g, j, none⟩ = some v := fun j v hj => by
  rw [blkCell h j]
  simpa using hj
theorem sl_blk {w : World} {g : Nat} {l : Ln} (h : w.heap[g]? = some (.cells (lnV l) 29 (0, 0))) : Sl w 4 (.slice (some ⟨g, 0, none⟩) 1 1) (lnC l) :=
  ⟨_, _, _, rfl, rfl, Nat.le_refl _, by decide, fun _ => ⟨g, 0, rfl, blk_lt h, fun i hi => by rw [Nat.zero_add, blkCell h i]; simp⟩⟩
theorem lnC_one (l : Ln) : ∀ u ∈ lnC l, u.oneCell' = true := by
  intro u hu
  simp [lnC] at hu
  rcases hu with rfl | rfl | rfl | rfl <;> rfl
theorem append_types {P : Program} (w : World) (t u ty e e' : TypeId) (ht : P.underlying t = some (.slice e)) (hu : P.underlying u = some (.slice e')) (a : Option Addr) (n c : Nat) (x : Value) :
    (Builtin.append_ #[t, u] ty #[.slice a n c, x]).run P w = (Builtin.append_ #[t, t] ty #[.slice a n c, x]).run P w := by
  unfold Builtin.append_
  simp [run_underlying ht, run_underlying hu]
/-- append, where the second slice is of another named type -/
theorem wpList_app2 {P : Program} {w : World} {ops : Array Oper} {rest : List Oper} {o : Oper} {a : Act} {Q : Exit → Act → World → Prop} (hgd : o.guard = none) (s x : Operand)
    {t u e e' : TypeId} {size bytes : Nat} (hT : ST P t e size bytes) (hu : P.underlying u = some (.slice e')) (ho : o.op = .call { callee := .builtin .append, args := #[s, x], argTypes := #[t, u] })
    (base : Nat) {n c : Nat} {A : Option Addr} {xs : List Value} (hs : a.eval s = .slice A n c) (hown : w.ownsRow base e size (.slice A n c) n xs)
    {m c2 : Nat} {A2 : Option Addr} {news : List Value} (hx : a.eval x = .slice A2 m c2) (hr : Sl w size (.slice A2 m c2) news) (h1 : ∀ u ∈ news, u.oneCell' = true)
    (h63 : n + m ≤ maxLen) (hby : (n + m) * bytes ≤ 140737488355328) (hbase : base ≤ w.heap.size)
    (h : ∀ A' c' w', w'.ownsRow base e size (.slice A' (n + m) c') (n + m) (xs ++ news) → w.grownBy w' (Value.ownBlock (.slice A n c)) →
      (Value.ownBlock (.slice A' (n + m) c') = Value.ownBlock (.slice A n c) ∨ Value.ownBlock (.slice A' (n + m) c') = some w.heap.size) →
      wpList P ops Q rest (a.put o.dst (.slice A' (n + m) c')) w') : wpList P ops Q (o :: rest) a w :=
  wpList_plain hgd fun _ hK => by
    obtain ⟨A', c', w', hrun, h2, h3, h4⟩ := append_run (P := P) w hT o.type base n c A xs hown m c2 A2 news hr h1 h63 hby hbase
    rw [← append_types w t u o.type e e' hT.1 hu A n c] at hrun
    unfold Oper.wp execOp
    simp only [ho, resolve, invoke, builtin, Sem.run_bind, Sem.run_pure, Result.andThen_ok, List.map_toArray, List.map_cons, List.map_nil, hs, hx, hrun]
    exact hK _ _ (h A' c' w' h2 h3 h4)
set_option maxRecDepth 100000 in
set_option maxHeartbeats 1600000 in
theorem insert_end (B : Nat) (A : Option Addr) (n c vb : Nat) (xs : List Value) (l : Ln) (w : World) (hown : w.ownsRow B 29 4 (.slice A n c) n xs) (hvb : w.heap[vb]? = some (.cells (lnV l) 29 (0, 0))) (hn : n ≤ 1000) (hB : B ≤ w.heap.size) :
    Calls Tryz.prog 54 #[.slice A n c, .int .i64 (n : Int), .slice (some ⟨vb, 0, none⟩) 1 1] w (InsPost B n (xs ++ lnC l) w) := by
  have hcn : n ≤ c ∧ c ≤ 9223372036854775807 := by
    obtain ⟨_, _, _, he, _, h2, h3, _⟩ := own_sl hown
    injection he with e1 e2 e3
    subst e2; subst e3
    exact ⟨h2, by simpa [maxLen] using h3⟩
  obtain ⟨hc1, hc2⟩ := hcn
  have hsl := sl_blk hvb
  by_cases hcn : c = n
  · subst hcn
    go_enter Tryz.func54, Tryz.ntmps54
    go_wp2_with (at_builtin; refine wpList_app2 rfl (.tmp 23) (.tmp 24) st_lns Tryz.underlying22 rfl B rfl hown rfl hsl (lnC_one l) (by simp [maxLen]; omega) (by omega) hB ?_)
    intro A3 c3 w3 hown3 hg3 hf3
    have hb3 := grown_below hown hg3 hB
    go_wp2_with fail
    go_ret
    exact ⟨A3, c3, rfl, own_sl hown3, hb3⟩
  · go_enter Tryz.func54, Tryz.ntmps54
    go_wp2_with (at_builtin; refine wpList_app2 rfl (.tmp 23) (.tmp 24) st_lns Tryz.underlying22 rfl B rfl hown rfl hsl (lnC_one l) (by simp [maxLen]; omega) (by omega) hB ?_)
    intro A3 c3 w3 hown3 hg3 hf3
    have hb3 := grown_below hown hg3 hB
    go_wp2_with fail
    go_ret
    exact ⟨A3, c3, rfl, own_sl hown3, hb3⟩
theorem own_row {w : World} {B g n c : Nat} {e : TypeId} {xs : List Value} (h : w.ownsRow B e 4 (.slice (some ⟨g, 0, none⟩) n c) n xs) :
    B ≤ g ∧ g < w.heap.size ∧ n ≤ c ∧ c ≤ maxLen ∧ xs.length = n * 4 ∧ (∀ j < c * 4, (w.cell? ⟨g, j, none⟩).isSome = true) ∧ (∀ j, w.frozen? ⟨g, j, none⟩ = false) ∧ (∀ j < n * 4, w.cell? ⟨g, j, none⟩ = xs[j]?) ∧ w.shape? g = some (e, c * 4) := by
  obtain ⟨hl, h1 | ⟨g', cap, cur, hv, hb, hg, hnc, hm, hsz, ht⟩⟩ := h
  · obtain ⟨h1, _⟩ := h1
    cases h1
  · injection hv with e1 e2 e3
    injection e1 with e1
    injection e1 with e1
    subst e1; subst e3
    refine ⟨hb, blk_lt hg, hnc, hm, hl, fun j hj => ?_, fun j => frozen_of_row w _ j cur e hg, fun j hj => ?_, by simp [World.shape?, hg, hsz]⟩
    · rw [cell_of_row w _ j cur e (0, 0) hg, Array.getElem?_eq_getElem (by omega)]; rfl
    · rw [cell_of_row w _ j cur e (0, 0) hg, ← ht, List.getElem?_take, if_pos (by omega)]
      simp
theorem setCells_size (b : Nat) (vs : List Value) : ∀ (o : Nat) (w : World), (w.setCells b o vs).heap.size = w.heap.size := by
  induction vs with
  | nil => intro o w; rfl
  | cons v r ih => intro o w; rw [World.setCells, ih]; simp
theorem below_setCells {B b : Nat} {w : World} (hb : B ≤ b) (vs : List Value) : ∀ (o : Nat) (w' : World), Below B w w' → Below B w (w'.setCells b o vs) := by
  induction vs with
  | nil => intro o w' h; exact h
  | cons v r ih => intro o w' h; rw [World.setCells]; exact ih _ _ (h.setCell hb v)
set_option maxRecDepth 100000 in
set_option maxHeartbeats 4000000 in
theorem insert_shift (B g n c i vb : Nat) (xs : List Value) (l : Ln) (w : World) (hown : w.ownsRow B 29 4 (.slice (some ⟨g, 0, none⟩) n c) n xs) (h1x : ∀ u ∈ xs, u.oneCell' = true) (hvb : w.heap[vb]? = some (.cells (lnV l) 29 (0, 0))) (hne : vb ≠ g) (hi : i < n) (hn : n ≤ 1000) (hroom : n + 1 ≤ c) (hB : B ≤ w.heap.size) :
    Calls Tryz.prog 54 #[.slice (some ⟨g, 0, none⟩) n c, .int .i64 (i : Int), .slice (some ⟨vb, 0, none⟩) 1 1] w (InsPost B n (xs.take (i * 4) ++ lnC l ++ xs.drop (i * 4)) w) := by
  obtain ⟨hBg, hgl, hnc, hcm, hxl, hsome, hfz, hcell, hshape⟩ := own_row hown
  have hlv : (lnC l).length = 4 := rfl
  have hc63 : c ≤ 9223372036854775807 := by simpa [maxLen] using hcm
  have hshv : w.shape? vb = some (29, 4) := by simp [World.shape?, hvb, lnC]
  have hfv : ∀ j, w.frozen? ⟨vb, j, none⟩ = false := fun j => frozen_of_row w _ j _ _ hvb
  have hdl : (xs.drop (i * 4)).length = n * 4 - i * 4 := by rw [List.length_drop, hxl]
  have hov : ∀ lb cb, (callFunc 87 #[.slice (some ⟨vb, 0, none⟩) 1 1, .slice (some ⟨g, (i + 1) * 4, none⟩) lb cb]).run Tryz.prog w = .ok (.value (.bool false)) w := fun lb cb => by
    rw [run_callFunc_extern Tryz.func87 (by kernel_rfl) (by kernel_rfl) (by kernel_rfl) (e := Extern.SlicesOverlaps.overlaps #[22, 22] #[4]) (by kernel_rfl),
      Lib.run_overlaps_apart w 22 4 29 Tryz.underlying22 4 Tryz.sizeOf29 ⟨vb, 0, none⟩ ⟨g, (i + 1) * 4, none⟩ 1 1 lb cb hne _ _ _ _ hshv hshape (by omega) (hfv 0) (hfv 4)]
    rfl
  have hcp1 : ∀ ty dc sc, (Builtin.copy_ #[23, 23] ty #[.slice (some ⟨g, (i + 1) * 4, none⟩) (n - i) dc, .slice (some ⟨g, i * 4, none⟩) (n + 1 - i) sc]).run Tryz.prog w.drew = .ok (goInt (Nat.min (n + 1 - i) (n - i))) (w.drew.setCells g ((i + 1) * 4) (xs.drop (i * 4))) := fun ty dc sc =>
    run_copy_rows w.drew _ _ ty 29 4 g ((i + 1) * 4) (n - i) dc ⟨g, i * 4, none⟩ (n + 1 - i) sc (xs.drop (i * 4)) Tryz.underlying23 i4 (by rw [hdl]; simp only [Nat.min_def]; split <;> omega)
      (fun j v hj => by
        rw [Addr.add_lit]
        refine (hcell _ (by have := (List.getElem?_eq_some_iff.1 hj).1; omega)).trans ?_
        rwa [List.getElem?_drop] at hj)
      (fun j hj => hsome _ (by omega)) (fun j hj => hfz _) (fun v hv => h1x v (List.mem_of_mem_drop hv))
  obtain ⟨W1, hW1⟩ : ∃ W1, W1 = w.drew.setCells g ((i + 1) * 4) (xs.drop (i * 4)) := ⟨_, rfl⟩
  have hsp1 : ∀ k, k < c * 4 → (W1.cell? ⟨g, k, none⟩).isSome = true := fun k hk => by
    rw [hW1]
    exact isSome_setCells g (xs.drop (i * 4)) ((i + 1) * 4) w.drew (fun j hj => hsome ((i + 1) * 4 + j) (by omega)) k (hsome k hk)
  have hcp2 : ∀ (W : World), (∀ x, W.cell? x = W1.cell? x) → (∀ x, W.frozen? x = W1.frozen? x) → ∀ ty dc, (Builtin.copy_ #[23, 22] ty #[.slice (some ⟨g, i * 4, none⟩) (n + 1 - i) dc, .slice (some ⟨vb, 0, none⟩) 1 1]).run Tryz.prog W = .ok (goInt (Nat.min 1 (n + 1 - i))) (W.setCells g (i * 4) (lnC l)) := fun W hWc hWf ty dc =>
    run_copy_rows W _ _ ty 29 4 g (i * 4) (n + 1 - i) dc ⟨vb, 0, none⟩ 1 1 (lnC l) Tryz.underlying23 i4 (by rw [hlv]; simp only [Nat.min_def]; split <;> omega)
      (fun j v hj => by
        rw [Addr.add_lit, hWc, hW1, World.cell?_setCells_out g _ _ _ _ (fun h _ => absurd h hne), Nat.zero_add]
        exact blk_range hvb j v hj)
      (fun j hj => by rw [hWc]; exact hsp1 _ (by omega)) (fun j hj => by rw [hWf, hW1, World.frozen?_setCells]; exact hfz _) (lnC_one l)
  have hpost : ∀ w' : World, w'.heap.size = w.heap.size → (∀ x, w'.cell? x = ((w.drew.setCells g ((i + 1) * 4) (xs.drop (i * 4))).setCells g (i * 4) (lnC l)).cell? x) → Below B w w' → InsPost B n (xs.take (i * 4) ++ lnC l ++ xs.drop (i * 4)) w (.returned (.slice (some ⟨g, 0, none⟩) (n + 1) c)) w' := fun w' hs hc hb =>
    ⟨_, _, rfl, sl_ins hxl hlv (by omega) hroom hcm (by omega) (reads_ins (w1 := w.drew) (by omega) (fun j hj => hsome j (by rw [hxl, hlv] at hj; omega)) (fun j hj => hcell j (by omega)) (fun x => by rw [hlv, show i * 4 + 4 = (i + 1) * 4 by omega]) hc), hb⟩
  rw [← hW1] at hcp1
  have hw1 : IntKind.i64.wrap ((i : Int) + 1) = (i : Int) + 1 := by rw [IntKind.wrap_i64]; omega
  have hb2 : ¬ (c = i + 1) := by omega
  have hb1 : (0 : Int) ≤ (i : Int) + 1 := by omega
  have htn : ((i : Int) + 1).toNat = i + 1 := by omega
  have hb3 : (i : Int) ≤ (n : Int) + 1 := by omega
  have hb4 : ¬ (c = i) := by omega
  have hin : i ≤ n := by omega
  have hz2 : ¬ ((i : Int) = (n : Int)) := by omega
  generalize hzs : xs.take (i * 4) ++ lnC l ++ xs.drop (i * 4) = zs at *
  have HPO := hid hpost
  have HW := hid hW1
  clear hpost hsp1 hsome hcell hfz hshape hshv hfv hdl h1x hown hvb hzs
  go_enter Tryz.func54, Tryz.ntmps54
  go_wp2_with (simp only [hov])
  go_region_law (refine step_copy_runI rfl _ _ 23 23 rfl _ _ (by simp [Act.eval, Act.put]) (by simp [Act.eval, Act.put]) (hcp1 _ _ _) ?_)
  go_wp2_with (at_builtin; refine wpList_copy_runI _ rfl _ _ 23 22 rfl _ _ rfl rfl (hcp2 _ (fun _ => rfl) (fun _ => rfl) _ _) ?_)
  go_ret
  refine HPO.out _ ?_ ?_ ?_
  · rw [setCells_size, setCells_size]; rfl
  · intro x; rfl
  · exact below_setCells hBg _ _ _ (below_setCells hBg _ _ _ (Below.refl B w).drew)
theorem info_ln : (Tryz.prog.info? 29).map (fun i => (i.zero, i.size, i.bytes)) = some (some (.agg (lnV ln0)), 4, 56) := by kernel_rfl
theorem zc_size (k : Nat) : (Builtin.zeroCells (Value.agg (lnV ln0)).cells k).size = k * 4 := by
  have : (Value.agg (lnV ln0)).cells.size = 4 := rfl
  simp [Builtin.zeroCells, this]
set_option maxRecDepth 100000 in
set_option maxHeartbeats 4000000 in
theorem insert_grow (B g n c i vb : Nat) (xs : List Value) (l : Ln) (w : World) (hown : w.ownsRow B 29 4 (.slice (some ⟨g, 0, none⟩) n c) n xs) (h1x : ∀ u ∈ xs, u.oneCell' = true) (hvb : w.heap[vb]? = some (.cells (lnV l) 29 (0, 0))) (hi : i < n) (hn : n ≤ 1000) (hroom : c < n + 1) (hB : B ≤ w.heap.size) :
    Calls Tryz.prog 54 #[.slice (some ⟨g, 0, none⟩) n c, .int .i64 (i : Int), .slice (some ⟨vb, 0, none⟩) 1 1] w (InsPost B n (xs.take (i * 4) ++ lnC l ++ xs.drop (i * 4)) w) := by
  obtain ⟨hBg, hgl, hnc, hcm, hxl, hsome, hfz, hcell, hshape⟩ := own_row hown
  have hlv : (lnC l).length = 4 := rfl
  have hc63 : c ≤ 9223372036854775807 := by simpa [maxLen] using hcm
  have hvl := blk_lt hvb
  have hdl : (xs.drop (i * 4)).length = n * 4 - i * 4 := by rw [List.length_drop, hxl]
  obtain ⟨i0, hi0, hz0, hzs, hzb⟩ := info_parts info_ln
  have hkk : (n : Int) + 1 - (i : Int) = ((n + 1 - i : Nat) : Int) := by omega
  have hik : i + (n + 1 - i) = n + 1 := by omega
  have hold : (Builtin.firstCells i0.size i (.slice (some ⟨g, 0, none⟩) i c)).run Tryz.prog w.drew = .ok (xs.take (i * 4)).toArray w.drew := by
    rw [hzs]
    exact run_firstCells_some w.drew 4 i ⟨g, 0, none⟩ i c (xs.take (i * 4)) (by rw [List.length_take]; omega) (fun j v hj => by
      rw [Addr.add_lit, Nat.zero_add]
      have hlt := (List.getElem?_eq_some_iff.1 hj).1
      rw [List.length_take] at hlt
      rw [List.getElem?_take_of_lt (by omega)] at hj
      exact (hcell j (by omega)).trans hj)
  have hrz : ∀ ty, (Builtin.append_ #[23, 3] ty #[.slice (some ⟨g, 0, none⟩) i c, .int .i64 ((n : Int) + 1 - (i : Int))]).run Tryz.prog w =
      .ok (.slice (some ⟨w.heap.size, 0, none⟩) (n + 1) (grownCap w (n + 1) c 29)) (w.drew.alloc (.cells ((xs.take (i * 4)).toArray ++ Builtin.zeroCells (Value.agg (lnV ln0)).cells (n + 1 - i) ++ Builtin.zeroCells (Value.agg (lnV ln0)).cells (grownCap w (n + 1) c 29 - (n + 1))) 29)) := fun ty => by
    have h := Lib.run_append_grow_zeros w 23 3 ty 29 i0 _ .i64 .i64 Tryz.underlying23 Tryz.underlying3 hi0 hz0 (some ⟨g, 0, none⟩) i c (xs.take (i * 4)) hold (n + 1 - i) (by omega) (by omega) (by omega) (by omega) (by rw [hzb]; omega) (by rw [hzb, hik]; exact growslice_fits hroom (by omega))
    rw [hik] at h
    rw [hkk]
    exact h
  obtain ⟨G, hG⟩ : ∃ G, G = grownCap w (n + 1) c 29 := ⟨_, rfl⟩
  have hGn : n + 1 ≤ G := by rw [hG]; exact grownCap_ge w _ _ _
  have hGm : G ≤ maxLen := by rw [hG]; exact grownCap_le_maxLen w (n + 1) c _ (by unfold maxLen; omega)
  obtain ⟨ROW, hROW⟩ : ∃ ROW : Array Value, ROW = (xs.take (i * 4)).toArray ++ Builtin.zeroCells (Value.agg (lnV ln0)).cells (n + 1 - i) ++ Builtin.zeroCells (Value.agg (lnV ln0)).cells (G - (n + 1)) := ⟨_, rfl⟩
  rw [← hG] at hrz
  rw [← hROW] at hrz
  have hRl : (n + 1) * 4 ≤ ROW.size := by
    rw [hROW, Array.size_append, Array.size_append, zc_size, zc_size]
    simp only [List.size_toArray, List.length_take]
    omega
  have hRx : ∀ j < i * 4, ROW[j]? = xs[j]? := fun j hj => by
    rw [hROW, Array.append_assoc, Array.getElem?_append_left (by simp only [List.size_toArray, List.length_take]; omega), List.getElem?_toArray, List.getElem?_take_of_lt hj]
  obtain ⟨W1, hW1⟩ : ∃ W1, W1 = w.drew.alloc (.cells ROW 29) := ⟨_, rfl⟩
  rw [← hW1] at hrz
  have hN : ∀ j, j < (n + 1) * 4 → (W1.cell? ⟨w.heap.size, j, none⟩).isSome = true := fun j hj => by
    rw [hW1, World.cell?_alloc_at (w := w.drew) ROW _ w.heap.size j rfl, Array.getElem?_eq_getElem (by omega)]; rfl
  have hNx : ∀ j, j < i * 4 → W1.cell? ⟨w.heap.size, j, none⟩ = xs[j]? := fun j hj => by
    rw [hW1, World.cell?_alloc_at (w := w.drew) ROW _ w.heap.size j rfl, hRx j hj]
  have hNf : ∀ j, W1.frozen? ⟨w.heap.size, j, none⟩ = false := fun j => by rw [hW1]; exact World.frozen?_alloc_at (w := w.drew) ROW _ w.heap.size j rfl
  have hOb : ∀ j v, w.cell? ⟨g, j, none⟩ = some v → W1.cell? ⟨g, j, none⟩ = some v := fun j v h => by rw [hW1, World.cell?_alloc_past (w := w.drew) _ g j hgl]; exact h
  have hOv : ∀ j v, w.cell? ⟨vb, j, none⟩ = some v → W1.cell? ⟨vb, j, none⟩ = some v := fun j v h => by rw [hW1, World.cell?_alloc_past (w := w.drew) _ vb j hvl]; exact h
  have hcpA : ∀ (W : World), (∀ x, W.cell? x = W1.cell? x) → (∀ x, W.frozen? x = W1.frozen? x) → ∀ ty dc, (Builtin.copy_ #[23, 22] ty #[.slice (some ⟨w.heap.size, i * 4, none⟩) (n + 1 - i) dc, .slice (some ⟨vb, 0, none⟩) 1 1]).run Tryz.prog W = .ok (goInt (Nat.min 1 (n + 1 - i))) (W.setCells w.heap.size (i * 4) (lnC l)) := fun W hWc hWf ty dc =>
    run_copy_rows W _ _ ty 29 4 w.heap.size (i * 4) (n + 1 - i) dc ⟨vb, 0, none⟩ 1 1 (lnC l) Tryz.underlying23 i4 (by rw [hlv]; simp only [Nat.min_def]; split <;> omega)
      (fun j v hj => by rw [Addr.add_lit, hWc, Nat.zero_add]; exact hOv _ v (blk_range hvb j v hj))
      (fun j hj => by rw [hWc]; exact hN _ (by omega)) (fun j hj => by rw [hWf]; exact hNf _) (lnC_one l)
  have hbN : g ≠ w.heap.size := by omega
  have hcpB : ∀ (W : World), (∀ x, W.cell? x = (W1.setCells w.heap.size (i * 4) (lnC l)).cell? x) → (∀ x, W.frozen? x = (W1.setCells w.heap.size (i * 4) (lnC l)).frozen? x) → ∀ ty dc sc, (Builtin.copy_ #[23, 23] ty #[.slice (some ⟨w.heap.size, (i + 1) * 4, none⟩) (n - i) dc, .slice (some ⟨g, i * 4, none⟩) (n - i) sc]).run Tryz.prog W = .ok (goInt (Nat.min (n - i) (n - i))) (W.setCells w.heap.size ((i + 1) * 4) (xs.drop (i * 4))) := fun W hWc hWf ty dc sc =>
    run_copy_rows W _ _ ty 29 4 w.heap.size ((i + 1) * 4) (n - i) dc ⟨g, i * 4, none⟩ (n - i) sc (xs.drop (i * 4)) Tryz.underlying23 i4 (by rw [hdl]; simp only [Nat.min_def]; split <;> omega)
      (fun j v hj => by
        rw [Addr.add_lit, hWc, World.cell?_setCells_out _ _ _ _ _ (fun h _ => absurd h hbN)]
        refine hOb _ v ((hcell _ (by have := (List.getElem?_eq_some_iff.1 hj).1; omega)).trans ?_)
        rwa [List.getElem?_drop] at hj)
      (fun j hj => by rw [hWc]; exact isSome_setCells w.heap.size (lnC l) (i * 4) W1 (fun t ht => hN (i * 4 + t) (by omega)) ((i + 1) * 4 + j) (hN ((i + 1) * 4 + j) (by omega)))
      (fun j hj => by rw [hWf, World.frozen?_setCells]; exact hNf _) (fun v hv => h1x v (List.mem_of_mem_drop hv))
  have hpost : ∀ w' : World, w'.heap.size = w.heap.size + 1 → (∀ x, w'.cell? x = ((W1.setCells w.heap.size (i * 4) (lnC l)).setCells w.heap.size ((i + 1) * 4) (xs.drop (i * 4))).cell? x) → Below B w w' → InsPost B n (xs.take (i * 4) ++ lnC l ++ xs.drop (i * 4)) w (.returned (.slice (some ⟨w.heap.size, 0, none⟩) (n + 1) G)) w' := fun w' hs hc hb =>
    ⟨_, _, rfl, sl_ins hxl hlv (by omega) hGn hGm (by omega) (reads_ins' (w1 := W1) (w2 := W1.setCells w.heap.size (i * 4) (lnC l)) (by omega) (fun j hj => hN j (by rw [hxl, hlv] at hj; omega)) hNx (fun x => rfl) (fun x => by rw [hlv, show i * 4 + 4 = (i + 1) * 4 by omega]; exact hc x)), hb⟩
  subst hW1
  generalize hzsl : xs.take (i * 4) ++ lnC l ++ xs.drop (i * 4) = zs at *
  have HPO := hid hpost
  have hG63 : G ≤ 9223372036854775807 := by simpa [maxLen] using hGm
  have hE1 : ∀ x, ((w.alloc (.cells ROW 29)).drew).cell? x = (w.drew.alloc (.cells ROW 29)).cell? x := fun x => rfl
  have hE2 : ∀ x, ((w.alloc (.cells ROW 29)).drew).frozen? x = (w.drew.alloc (.cells ROW 29)).frozen? x := fun x => rfl
  have hF1 : ∀ x, (((w.alloc (.cells ROW 29)).drew.setCells w.heap.size (i * 4) (lnC l)).drew).cell? x = ((w.drew.alloc (.cells ROW 29)).setCells w.heap.size (i * 4) (lnC l)).cell? x := fun x => rfl
  have hF2 : ∀ x, (((w.alloc (.cells ROW 29)).drew.setCells w.heap.size (i * 4) (lnC l)).drew).frozen? x = ((w.drew.alloc (.cells ROW 29)).setCells w.heap.size (i * 4) (lnC l)).frozen? x := fun x => rfl
  have hw1 : IntKind.i64.wrap ((i : Int) + 1) = (i : Int) + 1 := by rw [IntKind.wrap_i64]; omega
  have hb1 : (0 : Int) ≤ (i : Int) + 1 := by omega
  have htn : ((i : Int) + 1).toNat = i + 1 := by omega
  have hb3 : (i : Int) ≤ (n : Int) := by omega
  have hin : i ≤ n := by omega
  have hGi : ¬ (G = i) := by omega
  have hGim : ¬ (G = i + 1) := by omega
  have hci : ¬ (c = i) := by omega
  have hz2 : ¬ ((i : Int) = (n : Int)) := by omega
  have hz3 : (c : Int) < (n : Int) + 1 := by omega
  clear hpost hkk hik hold hG hROW hRl hRx hN hNx hNf hOb hOv hsome hcell hfz hshape hdl h1x hown hvb hzsl hi0 hz0 hzs hzb
  go_enter Tryz.func54, Tryz.ntmps54
  go_wp2_with (first
    | (at_builtin; refine Lib.wpList_append_run _ rfl _ _ _ _ rfl _ _ rfl rfl _ _ (hrz _) ?_)
    | (at_builtin; refine wpList_copy_runI _ rfl _ _ 23 22 rfl _ _ rfl rfl (hcpA _ hE1 hE2 _ _) ?_)
    | (at_builtin; refine wpList_copy_runI _ rfl _ _ 23 23 rfl _ _ rfl rfl (hcpB _ (fun _ => rfl) (fun _ => rfl) _ _ _) ?_))
  go_region_law (refine step_copy_runI rfl _ _ 23 23 rfl (.slice (some ⟨w.heap.size, (i + 1) * 4, none⟩) (n - i) (G - (i + 1))) (.slice (some ⟨g, i * 4, none⟩) (n - i) (c - i)) (by simp [Act.eval, Act.put]) (by simp [Act.eval, Act.put]) (hcpB _ hF1 hF2 3 (G - (i + 1)) (c - i)) ?_)
  go_wp2_with fail
  go_ret
  refine HPO.out _ ?_ ?_ ?_
  · rw [setCells_size]; show ((w.alloc (.cells ROW 29)).drew.setCells _ _ _).heap.size = _; rw [setCells_size]; simp [World.drew]
  · intro x; rw [← drew_setCells]; rfl
  · refine below_setCells hB _ _ _ (Below.drew (below_setCells hB _ _ _ (Below.drew ((Below.refl B w).alloc hB _))))
end CF
end Go.Proofs.YtecfkhgocjbocaaGreatDoor
