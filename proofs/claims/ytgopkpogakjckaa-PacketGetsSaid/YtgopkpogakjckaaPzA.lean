/-
  Contracts of packet's reader: take, greeting.
  Contract of packet's reader's greeting.
  Contract of packet's reader's lsas.
  Contract of packet's tells: what a packet tells, read.
  Contract of packet's tells: keys, Lsas, and nothing.
  Contract of packet's framed: a packet's frame.
  A packet's block laid whole; what is read is in the numbers' bounds.
-/
import Derived.Test.YtgopkpogakjckaaPk2
import Derived.Test.YtgopkpogakjckaaPkP
import Derived.Test.YtgopkpogakjckaaLsa10
import Derived.Test.YtgopkpogakjckaaLg1
import Derived.Laws.BitsAllLaws
import Derived.Test.YtgopkpogakjckaaPk8
namespace Go.Proofs.Ytgopkpogakjckaa
set_option linter.unusedVariables false
set_option linter.unusedSimpArgs false
open Go Go.RowKit SM LM PK

/-- a reader at block g, with so many bytes left; bad: were there too few? -/
def RdP (B : Nat) (w : World) (g : Nat) (l : List UInt8) (bad : Bool) : Prop :=
  ∃ A n c, w.heap[g]? = some (.cells #[.slice A n c, .bool bad] 113 (0, 0)) ∧ Sl w 1 (.slice A n c) (B8 l) ∧ ∀ ad, A = some ad → ad.block < B
theorem grown_set2 (w : World) (g i j : Nat) (v u : Value) : w.grownBy ((w.setCell ⟨g, i, none⟩ v).setCell ⟨g, j, none⟩ u) (some g) :=
  grown_trans (grown_set w g i v) (From.refl _ _) (grown_set _ g j u)
theorem set_fst {w : World} {g : Nat} {T : TypeId} {x y : Value} (hb : w.heap[g]? = some (.cells #[x, y] T (0, 0))) (v : Value) : (w.setCell ⟨g, 0, none⟩ v).heap[g]? = some (.cells #[v, y] T (0, 0)) := by
  simp [World.setCell, Array.getElem?_modify, hb]
theorem RdP.lt {B : Nat} {w : World} {g : Nat} {l : List UInt8} {bad : Bool} (h : RdP B w g l bad) : g < w.heap.size := by
  obtain ⟨A, n, c, hb, hsl, hlt⟩ := h
  exact blk_lt hb
theorem RdP.kept {B g : Nat} {w w' : World} {l : List UInt8} {bad : Bool} {S : Nat → Prop} (h : RdP B w g l bad) (hk : Kept S w w') (hg : ¬ S g) (hB : ∀ b, b < B → ¬ S b) : RdP B w' g l bad := by
  obtain ⟨A, n, c, hb, hsl, hlt⟩ := h
  exact ⟨A, n, c, blk_kept hb hk hg, sl_kept hsl hk (fun ad had => hB _ (hlt ad had)), hlt⟩
theorem RdP.cell {B g : Nat} {w : World} {l : List UInt8} {bad : Bool} (h : RdP B w g l bad) : ∃ A n c, w.cell? ⟨g, 0, none⟩ = some (.slice A n c) ∧ w.cell? ⟨g, 1, none⟩ = some (.bool bad) ∧ n = l.length ∧ Sl w 1 (.slice A n c) (B8 l) ∧ ∀ ad, A = some ad → ad.block < B := by
  obtain ⟨A, n, c, hb, hsl, h3⟩ := h
  exact ⟨A, n, c, by simp [World.cell?, hb], by simp [World.cell?, hb], hsl.len.1.symm, hsl, h3⟩
theorem RdP.len {B g : Nat} {w : World} {l : List UInt8} {bad : Bool} (h : RdP B w g l bad) : rdLen g w = l.length := by
  obtain ⟨A, n, c, hb, hsl, _⟩ := h
  have := hsl.len.1
  simp [rdLen, World.cell?, hb]
  omega
set_option maxRecDepth 100000 in
set_option maxHeartbeats 800000 in
theorem takeP_any (B g size : Nat) (l : List UInt8) (bad : Bool) (w : World) (h : RdP B w g l bad) (hBg : B ≤ g) (hs : size ≤ 4) (h1 : 1 ≤ size) :
    Calls Try.prog 47 #[.pointer (some ⟨g, 0, none⟩), .int .i64 size] w fun e w' => e = .returned (.int .u32 (takeV l size : Nat)) ∧ RdP B w' g (takeR l size) (bad || decide (l.length < size)) ∧ w.grownBy w' (some g) := by
  obtain ⟨A, n, c, hb, hsl, hne⟩ := h
  obtain ⟨hl1, hl2, hl3⟩ := hsl.len
  have hcell : w.cell? ⟨g, 0, none⟩ = some (.slice A n c) := by simp [World.cell?, hb]
  have hcell1 : w.cell? ⟨g, 1, none⟩ = some (.bool bad) := by simp [World.cell?, hb]
  have hfr : w.frozen? ⟨g, 0, none⟩ = false := by simp [World.frozen?, hb]
  have hfr1 : w.frozen? ⟨g, 1, none⟩ = false := by simp [World.frozen?, hb]
  have HB := hid hb
  have HN := hid hne
  clear hb hne
  by_cases hlt : n < size
  · have HL := hid hl1
    clear hl1
    go_enter Try.func47, Try.ntmps47
    go_wp2
    go_ret
    refine ⟨ret_int ?_, ⟨none, 0, 0, ?_, ?_, by simp⟩, grown_set2 _ _ _ _ _ _⟩
    · unfold takeV; rw [if_pos (by rw [HL.out]; exact hlt)]; rfl
    · have := set_in (set_in HB.out 0 (.slice none 0 0)) 1 (.bool true)
      rw [this]
      simp [HL.out, hlt]
    · unfold takeR; rw [if_pos (by rw [HL.out]; exact hlt)]; exact sl_nil _ _
  · have HL := hid hl1
    clear hl1
    have hbad : Hid ((bad || decide (l.length < size)) = bad) := by show _ = _; simp [HL.out, hlt]
    have hcut := hsl.take size (by omega)
    have HD := hid (sl_drop hsl size (by omega))
    go_enter Try.func47, Try.ntmps47
    go_wp2
    go_loop [5, 28] (fun s i => ∃ k : Nat, k ≤ size ∧ i = .int .i64 k ∧ s = .int .u32 (nv l k : Nat)) (fun _ i => size - (intOf i).toNat)
    case atStart => exact ⟨0, Nat.zero_le _, rfl, rfl⟩
    case round =>
      obtain ⟨k, hk, rfl, rfl⟩ := hrel
      by_cases hlt2 : k < size
      · have hs3 := nv_bd3 l k (by omega)
        obtain ⟨b, off, rfl, _, hc⟩ := hsl.byte (k := k) (by omega)
        have hx := byt_lt l k
        have H1 := hid (show nv l (k + 1) = nv l k * 256 + byt l k from rfl)
        have hor : bits .or .u32 ((nv l k : Int) * 256) (byt l k : Int) = ((nv l k * 256 + byt l k : Nat) : Int) := by
          have := u32_or_nat (nv l k * 256) (byt l k) (by omega) (by omega)
          rw [nat_join 8 (nv l k * 256) (byt l k) (by omega) (by omega)] at this
          rw [← this]
          simp
        go_wp2
        go_light
        exact ⟨⟨k + 1, by omega, by go_num, by rw [H1.out]; go_num⟩, by simp [intOf]; omega⟩
      · obtain rfl : k = size := by omega
        go_wp2
        all_goals go_light
        all_goals go_ret
        all_goals
          have hd := HD.out
          have hl := HL.out
          rw [hbad.out]
          refine ⟨ret_int ?_, ⟨_, _, _, set_fst HB.out _, ?_, ?_⟩, grown_set _ _ _ _⟩
        · unfold takeV; rw [if_neg (by omega)]
        · unfold takeR
          rw [if_neg (by omega)]
          rw [if_pos ‹c = k›] at hd
          rw [show c - k = 0 by omega] at hd
          exact hd.grown (grown_set _ _ _ _) (fun ad had => by have := HN.out ad had; simp; omega)
        · exact HN.out
        · unfold takeV; rw [if_neg (by omega)]
        · unfold takeR
          rw [if_neg (by omega)]
          rw [if_neg ‹¬c = k›] at hd
          refine hd.grown (grown_set _ _ _ _) (fun ad had => ?_)
          rcases A with _ | ⟨b, off, spot⟩
          · cases had
          · injection had with had
            subst had
            have := HN.out _ rfl
            rw [show ((⟨b, off, spot⟩ : Addr).add k).block = b by unfold Addr.add; split <;> rfl]
            simp at this ⊢
            omega
        · intro ad had
          rcases A with _ | ⟨b, off, spot⟩
          · cases had
          · injection had with had
            subst had
            have := HN.out _ rfl
            rw [show ((⟨b, off, spot⟩ : Addr).add k).block = b by unfold Addr.add; split <;> rfl]
            exact this
end Go.Proofs.Ytgopkpogakjckaa
namespace Go.Proofs.Ytgopkpogakjckaa
set_option linter.unusedVariables false
set_option linter.unusedSimpArgs false
open Go Go.RowKit SM LM PK

/-- a struct that is built, a row that it will hold, and a reader -/
structure BP (w : World) (T : TypeId) (B gl gr : Nat) (cs : Array Value) (e : TypeId) (size n : Nat) (v : Value) (xs : List Value) (rest : List UInt8) (bad : Bool) (wr : World) : Prop where
  rd : RdP B wr gr rest bad
  hl : wr.heap[gl]? = some (.cells cs T (0, 0))
  own : wr.ownsRow w.heap.size e size v n xs
  kp : Kept (fun b => b = gl ∨ b = gr) w wr
def RdQ (w0 : World) (B g : Nat) (l : List UInt8) (bad : Bool) : Fact := fun S w => S g ∧ ∃ A n c, w.heap[g]? = some (.cells #[.slice A n c, .bool bad] 113 (0, 0)) ∧ Sl w0 1 (.slice A n c) (B8 l) ∧ ∀ ad, A = some ad → ad.block < B
theorem good_rdQ (w0 : World) (B g : Nat) (l : List UInt8) (bad : Bool) : Good (RdQ w0 B g l bad) := fun S S' w w' h1 h2 ⟨h3, A, n, c, h4, h5⟩ => ⟨h1 g h3, A, n, c, (h2 g h3).trans h4, h5⟩
theorem rdQ_in {w0 : World} {B g : Nat} {l : List UInt8} {bad : Bool} (h : RdP B w0 g l bad) : RdQ w0 B g l bad (fun b => b = g) w0 := by
  obtain ⟨A, n, c, h1, h2, h3⟩ := h
  exact ⟨rfl, A, n, c, h1, h2, h3⟩
theorem rdQ_out {w0 w : World} {B g : Nat} {l : List UInt8} {bad : Bool} {S S0 : Nat → Prop} (h : RdQ w0 B g l bad S w) (hk : Kept S0 w0 w) (hB : ∀ b, b < B → ¬ S0 b) (hB0 : B ≤ w0.heap.size) : RdP B w g l bad := by
  obtain ⟨_, A, n, c, h1, h2, h3⟩ := h
  exact ⟨A, n, c, h1, sl_same h2 (fun ad had => hk.block _ (by have := h3 ad had; omega) (hB _ (h3 ad had))), h3⟩
theorem rdQ_of {w0 w : World} {B g : Nat} {l : List UInt8} {bad : Bool} {S S0 : Nat → Prop} (h : RdP B w g l bad) (hS : S g) (hk : Kept S0 w0 w) (hB : ∀ b, b < B → ¬ S0 b) (hB0 : B ≤ w0.heap.size) : RdQ w0 B g l bad S w := by
  obtain ⟨A, n, c, h1, h2, h3⟩ := h
  exact ⟨hS, A, n, c, h1, sl_same h2 (fun ad had => (hk.block _ (by have := h3 ad had; omega) (hB _ (h3 ad had))).symm), h3⟩
theorem takeR_len (l : List UInt8) (k : Nat) : (takeR l k).length ≤ l.length := by unfold takeR; split <;> simp

/-- seven cells laid, one by one -/
def lay7 (w : World) (g : Nat) (a0 a1 a2 a3 a4 a5 a6 : Value) : World := ((((((w.setCell ⟨g, 0, none⟩ a0).setCell ⟨g, 1, none⟩ a1).setCell ⟨g, 2, none⟩ a2).setCell ⟨g, 3, none⟩ a3).setCell ⟨g, 4, none⟩ a4).setCell ⟨g, 5, none⟩ a5).setCell ⟨g, 6, none⟩ a6
theorem lay7_in {w : World} {g : Nat} {T : TypeId} {z0 z1 z2 z3 z4 z5 z6 : Value} (h : w.heap[g]? = some (.cells #[z0, z1, z2, z3, z4, z5, z6] T (0, 0))) (a0 a1 a2 a3 a4 a5 a6 : Value) :
    (lay7 w g a0 a1 a2 a3 a4 a5 a6).heap[g]? = some (.cells #[a0, a1, a2, a3, a4, a5, a6] T (0, 0)) := by
  simp [lay7, World.setCell, Array.getElem?_modify, h]
theorem lay7_grown (w : World) (g : Nat) (a0 a1 a2 a3 a4 a5 a6 : Value) : w.grownBy (lay7 w g a0 a1 a2 a3 a4 a5 a6) (some g) :=
  grown_trans (grown_trans (grown_trans (grown_trans (grown_trans (grown_trans (grown_set w g 0 a0) (From.refl _ _) (grown_set _ g 1 a1)) (From.refl _ _) (grown_set _ g 2 a2)) (From.refl _ _) (grown_set _ g 3 a3)) (From.refl _ _) (grown_set _ g 4 a4)) (From.refl _ _) (grown_set _ g 5 a5)) (From.refl _ _) (grown_set _ g 6 a6)
set_option maxRecDepth 100000 in
set_option maxHeartbeats 3200000 in
theorem rgreeting_any (B g : Nat) (y : List UInt8) (bad : Bool) (w : World) (h : RdP B w g y bad) (hBg : B ≤ g) (hy : y.length ≤ 100000) :
    Calls Try.prog 82 #[.pointer (some ⟨g, 0, none⟩)] w fun e w' => ∃ A n c, e = .returned (.agg (gtC (helloP y zeroP) A n c)) ∧ Sl w' 1 (.slice A n c) (U32 (helloP y zeroP).nbs) ∧ FreshA w.heap.size A ∧ w.grownBy w' (some g) := by
  have hgl := h.lt
  have HH : Hid (helloP y zeroP = { zeroP with
    mask := takeV y 4, intv := (takeV (takeR y 4) 2 : Nat), prio := (takeV (takeR (takeR (takeR y 4) 2) 1) 1 : Nat),
    dead := (takeV (takeR (takeR (takeR (takeR y 4) 2) 1) 1) 4 : Nat),
    dr := takeV (takeR (takeR (takeR (takeR (takeR y 4) 2) 1) 1) 4) 4,
    bdr := takeV (takeR (takeR (takeR (takeR (takeR (takeR y 4) 2) 1) 1) 4) 4) 4,
    nbs := routersOf (takeR (takeR (takeR (takeR (takeR (takeR (takeR y 4) 2) 1) 1) 4) 4) 4) }) := rfl
  generalize hQ : helloP y zeroP = Q at HH ⊢
  clear hQ
  have hg0 := World.grownBy_alloc w (.cells #[.int .u32 0, .int .i64 0, .int .i64 0, .int .i64 0, .int .u32 0, .int .u32 0, .slice none 0 0] 35) (some g)
  have hR0 : RdP B (w.alloc (.cells #[.int .u32 0, .int .i64 0, .int .i64 0, .int .i64 0, .int .u32 0, .int .u32 0, .slice none 0 0] 35)) g y bad := h.kept (S := fun _ => False) ((Kept.refl _ _).alloc _) (by simp) (by simp)
  have hz0 : (w.alloc (.cells #[.int .u32 0, .int .i64 0, .int .i64 0, .int .i64 0, .int .u32 0, .int .u32 0, .slice none 0 0] 35)).heap.size = w.heap.size + 1 := by simp
  have hb0 := heap_alloc_new w (.cells #[.int .u32 0, .int .i64 0, .int .i64 0, .int .i64 0, .int .u32 0, .int .u32 0, .slice none 0 0] 35)
  clear h
  go_enter Try.func82, Try.ntmps82
  go_upto_region 1 with fail
  generalize w.alloc (.cells #[.int .u32 0, .int .i64 0, .int .i64 0, .int .i64 0, .int .u32 0, .int .u32 0, .slice none 0 0] 35) = w0 at *
  go_wp2_with fail
  refine (takeP_any B g 4 y bad _ hR0 hBg (by omega) (by omega)).mono ?_
  rintro e w1 ⟨rfl, hR1, hg1⟩
  replace hb0 := blk_grown hb0 hg1 (by simp; omega)
  have x1b := takeV_bd y 4 (by omega)
  have y1l := takeR_len y 4
  generalize hx1 : takeV y 4 = x1 at *
  generalize hy1 : takeR y 4 = y1 at *
  generalize (bad || decide ((y).length < 4)) = bad1 at *
  have Hx1 := hid hx1
  have Hy1 := hid hy1
  clear hx1 hy1
  replace hg1 := grown_trans hg0 (From.refl _ _) hg1
  go_wp2_with fail
  refine (takeP_any B g 2 y1 bad1 _ hR1 hBg (by omega) (by omega)).mono ?_
  rintro e w2 ⟨rfl, hR2, hg2⟩
  replace hb0 := blk_grown hb0 hg2 (by simp; omega)
  have x2b := takeV_bd y1 2 (by omega)
  have y2l := takeR_len y1 2
  generalize hx2 : takeV y1 2 = x2 at *
  generalize hy2 : takeR y1 2 = y2 at *
  generalize (bad1 || decide ((y1).length < 2)) = bad2 at *
  have Hx2 := hid hx2
  have Hy2 := hid hy2
  clear hx2 hy2
  replace hg2 := grown_trans hg1 (From.refl _ _) hg2
  go_upto_region 2 with fail
  have hz2 := hg2.size
  have hz2' := blk_lt hb0
  replace hb0 := blk_alloc hb0 (.cells #[.int .u32 (x1 : Int), .int .i64 (x2 : Int), .int .i64 0, .int .i64 0, .int .u32 0, .int .u32 0, .slice none 0 0] 35)
  have hbl := heap_alloc_new w2 (.cells #[.int .u32 (x1 : Int), .int .i64 (x2 : Int), .int .i64 0, .int .i64 0, .int .u32 0, .int .u32 0, .slice none 0 0] 35)
  have hR3 : RdP B (w2.alloc (.cells #[.int .u32 (x1 : Int), .int .i64 (x2 : Int), .int .i64 0, .int .i64 0, .int .u32 0, .int .u32 0, .slice none 0 0] 35)) g y2 bad2 := hR2.kept (S := fun _ => False) ((Kept.refl _ _).alloc _) (by simp) (by simp)
  replace hg2 := grown_alloc hg2 (.cells #[.int .u32 (x1 : Int), .int .i64 (x2 : Int), .int .i64 0, .int .i64 0, .int .u32 0, .int .u32 0, .slice none 0 0] 35)
  have hz3 : (w2.alloc (.cells #[.int .u32 (x1 : Int), .int .i64 (x2 : Int), .int .i64 0, .int .i64 0, .int .u32 0, .int .u32 0, .slice none 0 0] 35)).heap.size = w2.heap.size + 1 := by simp
  generalize w2.alloc (.cells #[.int .u32 (x1 : Int), .int .i64 (x2 : Int), .int .i64 0, .int .i64 0, .int .u32 0, .int .u32 0, .slice none 0 0] 35) = w3 at *
  obtain ⟨gl, hgl2⟩ : ∃ gl : Nat, gl = w2.heap.size := ⟨_, rfl⟩
  rw [← hgl2] at hbl hz3 ⊢
  have hne : gl ≠ g := by omega
  have hglw : w.heap.size < gl := by omega
  clear hgl2 hR2 hR1 hg1 hR0
  go_wp2_with fail
  refine (takeP_any B g 1 y2 bad2 _ hR3 hBg (by omega) (by omega)).mono ?_
  rintro e w4 ⟨rfl, hR4, hg4⟩
  replace hb0 := blk_grown hb0 hg4 (by simp; omega)
  have x3b := takeV_bd y2 1 (by omega)
  have y3l := takeR_len y2 1
  generalize hx3 : takeV y2 1 = x3 at *
  generalize hy3 : takeR y2 1 = y3 at *
  generalize (bad2 || decide ((y2).length < 1)) = bad3 at *
  have Hx3 := hid hx3
  have Hy3 := hid hy3
  clear hx3 hy3
  replace hbl := blk_grown hbl hg4 (by simp; omega)
  replace hg4 := grown_trans hg2 (From.refl _ _) hg4
  clear hR3
  go_wp2_with fail
  refine (takeP_any B g 1 y3 bad3 _ hR4 hBg (by omega) (by omega)).mono ?_
  rintro e w5 ⟨rfl, hR5, hg5⟩
  replace hb0 := blk_grown hb0 hg5 (by simp; omega)
  have x4b := takeV_bd y3 1 (by omega)
  have y4l := takeR_len y3 1
  generalize hx4 : takeV y3 1 = x4 at *
  generalize hy4 : takeR y3 1 = y4 at *
  generalize (bad3 || decide ((y3).length < 1)) = bad4 at *
  have Hx4 := hid hx4
  have Hy4 := hid hy4
  clear hx4 hy4
  replace hbl := blk_grown hbl hg5 (by simp; omega)
  replace hg5 := grown_trans hg4 (From.refl _ _) hg5
  clear hR4
  go_wp2_with fail
  refine (takeP_any B g 4 y4 bad4 _ hR5 hBg (by omega) (by omega)).mono ?_
  rintro e w6 ⟨rfl, hR6, hg6⟩
  replace hb0 := blk_grown hb0 hg6 (by simp; omega)
  have x5b := takeV_bd y4 4 (by omega)
  have y5l := takeR_len y4 4
  generalize hx5 : takeV y4 4 = x5 at *
  generalize hy5 : takeR y4 4 = y5 at *
  generalize (bad4 || decide ((y4).length < 4)) = bad5 at *
  have Hx5 := hid hx5
  have Hy5 := hid hy5
  clear hx5 hy5
  replace hbl := blk_grown hbl hg6 (by simp; omega)
  replace hg6 := grown_trans hg5 (From.refl _ _) hg6
  clear hR5
  obtain ⟨hcl, hfl⟩ := blk_cells hbl
  go_upto_region 4 with fail
  have hb7 := blk_set (blk_set hbl 3 (.int .i64 (x4 : Int))) 2 (.int .i64 (x5 : Int))
  simp at hb7
  have hK7 : Kept (fun b => b = gl) w6 ((w6.setCell ⟨gl, 3, none⟩ (.int .i64 (x4 : Int))).setCell ⟨gl, 2, none⟩ (.int .i64 (x5 : Int))) := Kept.setCell (S := fun b => b = gl) (Kept.setCell (S := fun b => b = gl) (Kept.refl _ w6) (p := ⟨gl, 3, none⟩) (.inl rfl) _) (p := ⟨gl, 2, none⟩) (.inl rfl) _
  replace hb0 := set_far (set_far hb0 (p := ⟨gl, 3, none⟩) (by simp; omega) (.int .i64 (x4 : Int))) (p := ⟨gl, 2, none⟩) (by simp; omega) (.int .i64 (x5 : Int))
  have hR7 := hR6.kept hK7 (Ne.symm hne) (fun b hb => by omega)
  have hg7 : w.grownBy ((w6.setCell ⟨gl, 3, none⟩ (.int .i64 (x4 : Int))).setCell ⟨gl, 2, none⟩ (.int .i64 (x5 : Int))) (some g) := ⟨hK7.os.trans hg6.os, hK7.tape.trans hg6.tape, hK7.output.trans hg6.output, Nat.le_trans hg6.size hK7.size, fun b hb hn => (hK7.block b (by have := hg6.size; omega) (by omega)).trans (hg6.block b hb hn)⟩
  generalize (w6.setCell ⟨gl, 3, none⟩ (.int .i64 (x4 : Int))).setCell ⟨gl, 2, none⟩ (.int .i64 (x5 : Int)) = w7 at *
  clear hcl hfl hbl hK7 hR6 hg6 hg5 hg4 hg2
  go_wp2_with fail
  refine (takeP_any B g 4 y5 bad5 _ hR7 hBg (by omega) (by omega)).mono ?_
  rintro e w8 ⟨rfl, hR8, hg8⟩
  replace hb0 := blk_grown hb0 hg8 (by simp; omega)
  have x6b := takeV_bd y5 4 (by omega)
  have y6l := takeR_len y5 4
  generalize hx6 : takeV y5 4 = x6 at *
  generalize hy6 : takeR y5 4 = y6 at *
  generalize (bad5 || decide ((y5).length < 4)) = bad6 at *
  have Hx6 := hid hx6
  have Hy6 := hid hy6
  clear hx6 hy6
  replace hb7 := blk_grown hb7 hg8 (by simp; omega)
  replace hg8 := grown_trans hg7 (From.refl _ _) hg8
  clear hR7
  go_wp2_with fail
  refine (takeP_any B g 4 y6 bad6 _ hR8 hBg (by omega) (by omega)).mono ?_
  rintro e w9 ⟨rfl, hR9, hg9⟩
  replace hb0 := blk_grown hb0 hg9 (by simp; omega)
  have x7b := takeV_bd y6 4 (by omega)
  have y7l := takeR_len y6 4
  generalize hx7 : takeV y6 4 = x7 at *
  generalize hy7 : takeR y6 4 = y7 at *
  generalize (bad6 || decide ((y6).length < 4)) = bad7 at *
  have Hx7 := hid hx7
  have Hy7 := hid hy7
  clear hx7 hy7
  replace hb7 := blk_grown hb7 hg9 (by simp; omega)
  replace hg9 := grown_trans hg8 (From.refl _ _) hg9
  clear hR8
  obtain ⟨hcl, hfl⟩ := blk_cells hb7
  go_upto_region 5 with fail
  have hbA := blk_set (blk_set hb7 4 (.int .u32 (x6 : Int))) 5 (.int .u32 (x7 : Int))
  simp at hbA
  have hKA : Kept (fun b => b = gl) w9 ((w9.setCell ⟨gl, 4, none⟩ (.int .u32 (x6 : Int))).setCell ⟨gl, 5, none⟩ (.int .u32 (x7 : Int))) := Kept.setCell (S := fun b => b = gl) (Kept.setCell (S := fun b => b = gl) (Kept.refl _ w9) (p := ⟨gl, 4, none⟩) (.inl rfl) _) (p := ⟨gl, 5, none⟩) (.inl rfl) _
  replace hb0 := set_far (set_far hb0 (p := ⟨gl, 4, none⟩) (by simp; omega) (.int .u32 (x6 : Int))) (p := ⟨gl, 5, none⟩) (by simp; omega) (.int .u32 (x7 : Int))
  have hRA := hR9.kept hKA (Ne.symm hne) (fun b hb => by omega)
  have hgA : w.grownBy ((w9.setCell ⟨gl, 4, none⟩ (.int .u32 (x6 : Int))).setCell ⟨gl, 5, none⟩ (.int .u32 (x7 : Int))) (some g) := ⟨hKA.os.trans hg9.os, hKA.tape.trans hg9.tape, hKA.output.trans hg9.output, Nat.le_trans hg9.size hKA.size, fun b hb hn => (hKA.block b (by have := hg9.size; omega) (by omega)).trans (hg9.block b hb hn)⟩
  have hszA : gl < ((w9.setCell ⟨gl, 4, none⟩ (.int .u32 (x6 : Int))).setCell ⟨gl, 5, none⟩ (.int .u32 (x7 : Int))).heap.size := (Array.getElem?_eq_some_iff.1 hbA).1
  generalize (w9.setCell ⟨gl, 4, none⟩ (.int .u32 (x6 : Int))).setCell ⟨gl, 5, none⟩ (.int .u32 (x7 : Int)) = wA at *
  clear hcl hfl hb7 hKA hR9 hg9 hg8 hg7
  have hIA : BP wA 35 B gl g #[.int .u32 (x1 : Int), .int .i64 (x2 : Int), .int .i64 (x5 : Int), .int .i64 (x4 : Int), .int .u32 (x6 : Int), .int .u32 (x7 : Int), .slice none 0 0] 22 1 0 (.slice none 0 0) [] y7 bad7 wA :=
    ⟨hRA, hbA, World.ownsRow_nil _ _ _ _, Kept.refl _ _⟩
  have HBR := hid hb0
  have hb0l := blk_lt hb0
  clear hb0
  have hgA8 : g < wA.heap.size := by have := hgA.size; omega
  have hy7 : y7.length ≤ 100000 := by omega
  clear hRA hbA
  go_loopw [26] (fun s wr => ∃ (done : List Nat) (rest : List UInt8) (bd : Bool) (n : Nat) (A : Option Addr) (c : Nat), BP wA 35 B gl g #[.int .u32 (x1 : Int), .int .i64 (x2 : Int), .int .i64 (x5 : Int), .int .i64 (x4 : Int), .int .u32 (x6 : Int), .int .u32 (x7 : Int), .slice A n c] 22 1 n (.slice A n c) (U32 done) rest bd wr ∧
      Hid (done ++ routersOf rest = routersOf y7) ∧ n * 4 + rest.length ≤ 100000) (fun _ w' => rdLen g w')
  case atStart => exact ⟨[], y7, bad7, 0, none, 0, hIA, rfl, by omega⟩
  case round =>
    obtain ⟨done, rest, bd, n, A, c, hI, HD, hn12⟩ := hrel
    clear hIA
    have HR0 := hid hI.rd.len
    obtain ⟨hcl, hfl⟩ := blk_cells hI.hl
    obtain ⟨A', n', c', hcr, hcr1, hn', hslr, hltr⟩ := hI.rd.cell
    have hlt8 := hI.rd.lt
    by_cases h12 : 4 ≤ rest.length
    · have h12' : 4 ≤ n' := by omega
      have HLK := hid (routersOf_yes rest h12)
      have V0 := hid (show takeV rest 4 = nv rest 4 by unfold takeV; rw [if_neg (by omega)])
      have R0 := hid (show takeR rest 4 = rest.drop 4 by unfold takeR; rw [if_neg (by omega)])
      have B0 : Hid ((bd || decide (rest.length < 4)) = bd) := by show _ = _; simp; omega
      have HN' := hid hn'
      clear hn' hslr hltr
      have b0 := nv_bd rest 4 (by omega)
      generalize nv rest 4 = x0 at *
      go_wp2_with fail
      clear hcl hfl hcr hcr1
      have hown := hI.own
      have hgl8 : gl < wr.heap.size := (Array.getElem?_eq_some_iff.1 hI.hl).1
      have hB8 := hI.kp.size
      have hSB : ∀ b, b < B → ¬ ((((False ∨ b = gl) ∨ Value.ownBlock (.slice A n c) = some b)) ∨ b = g) := fun b hb h => by
        rcases h with ((h | h) | h) | h
        · exact h
        · omega
        · have := (hown.lt _ h).1; omega
        · omega
      have hd1 : ∀ b, Value.ownBlock (.slice A n c) = some b → (False ∨ b = gl) → False := by
        rintro b h1 (h2 | h2)
        · exact h2
        · have := (hown.lt b h1).1; omega
      have hd2 : ∀ b, b = g → ((False ∨ b = gl) ∨ Value.ownBlock (.slice A n c) = some b) → False := by
        rintro b h1 ((h2 | h2) | h2)
        · exact h2
        · omega
        · have := (hown.lt b h2).1; omega
      obtain ⟨CS, hCS⟩ : ∃ CS : Value → Array Value, CS = fun v => #[.int .u32 (x1 : Int), .int .i64 (x2 : Int), .int .i64 (x5 : Int), .int .i64 (x4 : Int), .int .u32 (x6 : Int), .int .u32 (x7 : Int), v] := ⟨_, rfl⟩
      have HCS := hid hCS
      have hhl : wr.heap[gl]? = some (.cells (CS (.slice A n c)) 35 (0, 0)) := by rw [hCS]; exact hI.hl
      clear hCS
      refine wp_region_loud (fun b => ((False ∨ b = gl) ∨ Value.ownBlock (.slice A n c) = some b) ∨ b = g)
        [(1, loadL [100] (.slice A n c) (BlkF gl 35 (CS (.slice A n c)))), (3, factL [102] (fun v => v = .int .u32 (x0 : Nat)) (fun _ => RdQ wr B g (rest.drop 4) bd)), (4, rowL [] wA.heap.size 22 1 1 (U32 [x0])), (5, rowL [101, 4] wA.heap.size 22 1 (n + 1) (U32 (done ++ [x0]))),
         (7, factL [1, 5] (fun _ => True) (fun _ S w' => ∃ A' c', BlkF gl 35 (CS (.slice A' (n + 1) c')) S w' ∧ OwnF wA.heap.size 22 1 (n + 1) (U32 (done ++ [x0])) (.slice A' (n + 1) c') S w'))]
        (addL 102 (RdQ wr B g rest bd) (addL 101 (OwnF wA.heap.size 22 1 n (U32 done) (.slice A n c)) (addL 100 (BlkF gl 35 (CS (.slice A n c))) (fun _ => Fact.none)))) (by kernel_rfl) (by kernel_rfl)
        (.cons (loadL_ok _ _ (good_blk _ _ _)) (.cons (factL_ok ⟨_, rfl⟩ (fun _ => good_rdQ _ _ _ _ _)) (.cons (rowL_ok _ _ _ _ _ _) (.cons (rowL_ok _ _ _ _ _ _) (.cons (factL_ok ⟨undef, trivial⟩ (fun _ S S' w w' h1 h2 ⟨A', c', h3, h4⟩ => ⟨A', c', good_blk _ _ _ S S' w w' h1 h2 h3, good_own _ _ _ _ _ _ S S' w w' h1 h2 h4⟩)) .nil)))))
        (good_add _ (good_rdQ _ _ _ _ _) (good_add _ (good_own _ _ _ _ _ _) (good_add _ (good_blk _ _ _) good_nothing)))
        (sat_add 102 (sat_add 101 (sat_add 100 sat_none (fun b _ h => h) (fun b (hb : b = gl) => by omega) ⟨rfl, hhl⟩) hd1 (ownF_lt hown) (ownF_in hown))
          hd2 (fun b (hb : b = g) => by omega) (rdQ_in hI.rd)) (WX.out ?_)
      repeat (first | ((first | refine wx_quietU (by rfl) (by rfl) (by rfl) (fun K hK => ?_) | refine wx_quietG (by rfl) (by rfl) (by rfl) (by rfl) (by rfl) (fun K hK => ?_)); go_big_quiet_op; refine hK _ ?_; clear hK K) | ((first | refine wx_skipG (by rfl) (by rfl) (by rfl) (fun K hK => ?_) | refine wx_skipN (by rfl) (by rfl) (by rfl) (fun K hK => ?_)); go_simp; refine hK _ ?_; clear hK K))
      refine wx_loudU (us := [100]) (by rfl) (by rfl) (fun S wS hC hS hU => ?_) (fun v hv K hK => ?_)
      · have hB : BlkF gl 35 (CS (.slice A n c)) S wS := hU 100 (by simp)
        have hB2 := hB
        rw [HCS.out] at hB2
        obtain ⟨hc, hf⟩ := blkF_cells hB2
        exact load_x (by go_simp) (good_blk _ _ _) hB
      obtain rfl := hv; (go_simp; refine hK _ ?_; clear hK K)
      repeat (first | ((first | refine wx_quietU (by rfl) (by rfl) (by rfl) (fun K hK => ?_) | refine wx_quietG (by rfl) (by rfl) (by rfl) (by rfl) (by rfl) (fun K hK => ?_)); go_big_quiet_op; refine hK _ ?_; clear hK K) | ((first | refine wx_skipG (by rfl) (by rfl) (by rfl) (fun K hK => ?_) | refine wx_skipN (by rfl) (by rfl) (by rfl) (fun K hK => ?_)); go_simp; refine hK _ ?_; clear hK K))
      refine wx_loudU (us := [102]) (by rfl) (by rfl) (fun S wS hC hS hU => runs_enter (f := 47) (by go_simp <;> rfl) ?_) (fun v hv K hK => ?_)
      · have hF : RdQ wr B g rest bd S wS := hU 102 (by simp)
        refine (takeP_any B g 4 rest bd wS (rdQ_out hF hC hSB (by omega)) hBg (by omega) (by omega)).mono ?_
        rintro e w' ⟨rfl, hR2, hg2⟩
        rw [V0.out]
        rw [R0.out, B0.out] at hR2
        have hk2 : Kept S wS w' := Kept.of_grown hg2 (fun g' hg' => by injection hg' with hg'; rw [← hg']; exact hF.1)
        have h9 : RdQ wr B g (rest.drop 4) bd (fun b => S b ∨ (wS.heap.size ≤ b ∧ b < w'.heap.size)) w' := rdQ_of hR2 (.inl hF.1) (hC.step hk2 (fun b hb => (hS b hb).1)) hSB (by omega)
        exact ⟨_, rfl, rfl, hk2, h9⟩
      obtain rfl := hv; (go_simp; refine hK _ ?_; clear hK K)
      repeat (first | ((first | refine wx_quietU (by rfl) (by rfl) (by rfl) (fun K hK => ?_) | refine wx_quietG (by rfl) (by rfl) (by rfl) (by rfl) (by rfl) (fun K hK => ?_)); go_big_quiet_op; refine hK _ ?_; clear hK K) | ((first | refine wx_skipG (by rfl) (by rfl) (by rfl) (fun K hK => ?_) | refine wx_skipN (by rfl) (by rfl) (by rfl) (fun K hK => ?_)); go_simp; refine hK _ ?_; clear hK K))
      refine wx_loudU (us := []) (by rfl) (by rfl) (fun S wS hC hS hU => ?_) (fun v hv K hK => ?_)
      · exact runs_value (by go_simp <;> rfl) (made_x rfl (Nat.le_trans hB8 hC.size) (by rfl) (by rfl) (by omega) (by omega))
      obtain ⟨A6, c6, rfl⟩ := hv; (go_simp; refine hK _ ?_; clear hK K)
      repeat (first | ((first | refine wx_quietU (by rfl) (by rfl) (by rfl) (fun K hK => ?_) | refine wx_quietG (by rfl) (by rfl) (by rfl) (by rfl) (by rfl) (fun K hK => ?_)); go_big_quiet_op; refine hK _ ?_; clear hK K) | ((first | refine wx_skipG (by rfl) (by rfl) (by rfl) (fun K hK => ?_) | refine wx_skipN (by rfl) (by rfl) (by rfl) (fun K hK => ?_)); go_simp; refine hK _ ?_; clear hK K))
      refine wx_loudU (us := [101, 4]) (by rfl) (by rfl) (fun S wS hC hS hU => ?_) (fun v hv K hK => ?_)
      · exact appS_x (.tmp 33) (.tmp 36) st_u32 (by rfl) (by rfl) (by rfl) (hU 101 (by simp)) (own_sl (hU 4 (by simp)).2) (U32_one _) (by simp [maxLen]; omega) (by omega) (Nat.le_trans hB8 hC.size) (U32_append _ _)
      obtain ⟨A7, c7, rfl⟩ := hv; (go_simp; refine hK _ ?_; clear hK K)
      repeat (first | ((first | refine wx_quietU (by rfl) (by rfl) (by rfl) (fun K hK => ?_) | refine wx_quietG (by rfl) (by rfl) (by rfl) (by rfl) (by rfl) (fun K hK => ?_)); go_big_quiet_op; refine hK _ ?_; clear hK K) | ((first | refine wx_skipG (by rfl) (by rfl) (by rfl) (fun K hK => ?_) | refine wx_skipN (by rfl) (by rfl) (by rfl) (fun K hK => ?_)); go_simp; refine hK _ ?_; clear hK K))
      refine wx_loudU (us := [1, 5]) (by rfl) (by rfl) (fun S wS hC hS hU => ?_) (fun v hv K hK => ?_)
      · have hB : BlkF gl 35 (CS (.slice A n c)) S wS := hU 1 (by simp)
        rw [HCS.out] at hB
        have hO : OwnF wA.heap.size 22 1 (n + 1) (U32 (done ++ [x0])) (.slice A7 (n + 1) c7) S wS := hU 5 (by simp)
        obtain ⟨hc, hf⟩ := blkF_cells hB
        unfold runs
        go_simp
        have hO9 := ownsRow_kept hO.2 (Kept.setCell (S := fun b => b = gl) (Kept.refl _ wS) (p := ⟨gl, 6, none⟩) (.inl rfl) (.slice A7 (n + 1) c7)) (fun g' hg' => by have := (hO.2.lt g' hg').1; omega)
        have hB9 := blk_set hB.2 6 (.slice A7 (n + 1) c7)
        simp at hB9
        exact ⟨trivial, (Kept.refl _ _).setCell (.inl hB.1) _, A7, c7, ⟨.inl hB.1, by rw [HCS.out]; exact hB9⟩, ⟨fun g' hg' => .inl (hO.1 g' hg'), hO9⟩⟩
      (go_simp; refine hK _ ?_; clear hK K)
      refine wx_nil fun w9 hsat => ?_
      obtain ⟨S, hS, hfin⟩ := sat_get hsat 7
      obtain ⟨A', c', hb9, ho9⟩ := (hfin : ∃ A' c', BlkF gl 35 (CS (.slice A' (n + 1) c')) S w9 ∧ OwnF wA.heap.size 22 1 (n + 1) (U32 (done ++ [x0])) (.slice A' (n + 1) c') S w9)
      rw [HCS.out] at hb9
      obtain ⟨S2, _, hfin2⟩ := sat_get hsat 3
      have hrd9 := rdQ_out (hfin2 : RdQ wr B g (rest.drop 4) bd S2 w9) hsat.1 hSB (by omega)
      have hkp9 := hI.kp.then hsat.1 (fun b hb h => by
        rcases h with ((h | h) | h) | h
        · exact h.elim
        · exact .inl h
        · have := (hown.lt _ h).1; omega
        · exact .inr h)
      have hm9 := hrd9.len
      have HM9 := hid hm9
      clear hm9 hsat hS hfin2
      go_wp2_with fail
      go_light
      refine ⟨⟨done ++ [x0], _, bd, n + 1, A', c', ⟨hrd9, hb9.2, ho9.2, hkp9⟩, ?_, ?_⟩, ?_⟩
      · show _ = _
        rw [← HD.out, HLK.out]
        simp
      · simp
        omega
      · rw [HM9.out, HR0.out]
        simp
        omega
    · have h12' : n' < 4 := by omega
      have HN' := hid hn'
      clear hn'
      have hD := HD.out
      rw [routersOf_no rest (by omega), List.append_nil] at hD
      have HD2 := hid hD
      have hslo := own_sl hI.own
      have hfr := freshA_own hI.own
      have hkp := hI.kp
      have hw0 : w.heap.size < wr.heap.size := by have := hkp.size; omega
      have hbr : wr.heap[w.heap.size]? = some (.cells #[.int .u32 0, .int .i64 0, .int .i64 0, .int .i64 0, .int .u32 0, .int .u32 0, .slice none 0 0] 35 (0, 0)) := by
        refine (hkp.block _ (by omega) (by omega)).trans ?_
        exact HBR.out
      obtain ⟨hcr0, hfr0⟩ := blk_cells hbr
      clear hD hI HD
      go_wp2_with fail
      have hin := lay7_in hbr (.int .u32 (x1 : Int)) (.int .i64 (x2 : Int)) (.int .i64 (x5 : Int)) (.int .i64 (x4 : Int)) (.int .u32 (x6 : Int)) (.int .u32 (x7 : Int)) (.slice A n c)
      have hgr := lay7_grown wr w.heap.size (.int .u32 (x1 : Int)) (.int .i64 (x2 : Int)) (.int .i64 (x5 : Int)) (.int .i64 (x4 : Int)) (.int .u32 (x6 : Int)) (.int .u32 (x7 : Int)) (.slice A n c)
      unfold lay7 at hin hgr
      refine ret_blk (v := .agg #[.int .u32 (x1 : Int), .int .i64 (x2 : Int), .int .i64 (x5 : Int), .int .i64 (x4 : Int), .int .u32 (x6 : Int), .int .u32 (x7 : Int), .slice A n c]) (g := w.heap.size) (T := 35) (cs := #[.int .u32 (x1 : Int), .int .i64 (x2 : Int), .int .i64 (x5 : Int), .int .i64 (x4 : Int), .int .u32 (x6 : Int), .int .u32 (x7 : Int), .slice A n c]) (fun W hW => by obtain ⟨hc, hf⟩ := blk_cells hW; simp [results, Try.results82, go_sem, hc]) hin rfl ?_
      refine ⟨A, n, c, ?_, ?_, ?_, ?_⟩
      · rw [HH.out]
      · rw [HH.out]
        rw [← HD2.out]
        exact hslo.grown hgr (fun ad had => by have := hfr ad had; simp; omega)
      · exact fun ad had => by have := hfr ad had; have := hgA.size; omega
      · refine ⟨hgr.os.trans (hkp.os.trans hgA.os), hgr.tape.trans (hkp.tape.trans hgA.tape), hgr.output.trans (hkp.output.trans hgA.output), Nat.le_trans hgA.size (Nat.le_trans hkp.size hgr.size), fun b hb hn => ?_⟩
        have hs1 := hgA.size
        have hs2 := hkp.size
        have hne : b ≠ g := fun hh => hn (by rw [hh])
        exact (hgr.block b (by omega) (by simp; omega)).trans ((hkp.block b (by omega) (by omega)).trans (hgA.block b hb hn))
end Go.Proofs.Ytgopkpogakjckaa
namespace Go.Proofs.Ytgopkpogakjckaa
set_option linter.unusedVariables false
set_option linter.unusedSimpArgs false
open Go Go.RowKit SM LM PK

theorem st_lsas : ST Try.prog 38 63 9 96 := .mk Try.underlying38 (z := .agg #[.int .i64 0, .int .i64 0, .int .u32 0, .int .u32 0, .int .i64 0, .slice none 0 0, .int .u32 0, .slice none 0 0, .int .i64 0]) (by kernel_rfl) rfl (by omega)
theorem LS_one (l : List (Lsa × LsR)) : ∀ u ∈ LS l, u.oneCell' = true := by
  intro u hu
  obtain ⟨x, _, hx⟩ := List.mem_flatMap.1 hu
  simp [lsC] at hx
  rcases hx with rfl | rfl | rfl | rfl | rfl | rfl | rfl | rfl | rfl <;> rfl
theorem LS_append (l r : List (Lsa × LsR)) : LS (l ++ r) = LS l ++ LS r := by simp [LS]
theorem i64_or_nat (a b : Nat) (ha : a < 65536) (hb : b < 65536) : bits .or .i64 (a : Int) (b : Int) = ((a ||| b : Nat) : Int) := by
  have hx : a ||| b < 2 ^ 16 := Nat.or_lt_two_pow (by omega) (by omega)
  show IntKind.i64.wrap ((BitVec.ofInt 64 (a : Int) ||| BitVec.ofInt 64 (b : Int)).toNat : Int) = _
  have e : ∀ n : Nat, n < 65536 → (BitVec.ofInt 64 (n : Int)).toNat = n := fun n hn => by
    rw [BitVec.toNat_ofInt]
    omega
  rw [BitVec.toNat_or, e a ha, e b hb]
  exact IntWalk.i64_in _ (by omega)
theorem lsas_stop (n : Nat) (y : List UInt8) (h : y.length < 20 ∨ fld y 18 2 < 20 ∨ y.length < fld y 18 2) : lsasOf (n + 1) y = (3, []) := if_pos h
theorem lsas_bad (n : Nat) (y : List UInt8) (h : ¬ (y.length < 20 ∨ fld y 18 2 < 20 ∨ y.length < fld y 18 2)) (he : getE (y.take (fld y 18 2)) ≠ 0) : lsasOf (n + 1) y = (getE (y.take (fld y 18 2)), []) := (if_neg h).trans (if_pos he)
theorem lsas_ok (n : Nat) (y : List UInt8) (h : ¬ (y.length < 20 ∨ fld y 18 2 < 20 ∨ y.length < fld y 18 2)) (he : getE (y.take (fld y 18 2)) = 0) :
    lsasOf (n + 1) y = ((lsasOf n (y.drop (fld y 18 2))).1, bodyL (y.take (fld y 18 2)) :: (lsasOf n (y.drop (fld y 18 2))).2) := (if_neg h).trans (if_neg (by simp [he]))
theorem sl_keptP {S : Nat → Prop} {w w' : World} {size n c : Nat} {A : Option Addr} {xs : List Value} (h : Sl w size (.slice A n c) xs) (hk : Kept S w w') (hs : 0 < n → ∀ ad, A = some ad → ¬ S ad.block) : Sl w' size (.slice A n c) xs := by
  obtain ⟨A', n', c', he, hl, hnc, hcm, hr⟩ := h
  injection he with e1 e2 e3
  subst e1; subst e2; subst e3
  refine ⟨_, _, _, rfl, hl, hnc, hcm, fun hn => ?_⟩
  obtain ⟨b, off, rfl, hlt, hc⟩ := hr hn
  exact ⟨b, off, rfl, Nat.lt_of_lt_of_le hlt hk.size, fun i hi => (hk.cell (p := ⟨b, off + i, none⟩) hlt (hs hn ⟨b, off, none⟩ rfl)).trans (hc i hi)⟩
theorem sl_ltP {w : World} {size n c : Nat} {A : Option Addr} {xs : List Value} (h : Sl w size (.slice A n c) xs) (hn : 0 < n) : ∀ ad, A = some ad → ad.block < w.heap.size := by
  obtain ⟨A', n', c', he, hl, hnc, hcm, hr⟩ := h
  injection he with e1 e2 e3
  subst e1; subst e2; subst e3
  obtain ⟨b, off, rfl, hlt, hc⟩ := hr hn
  intro ad had
  injection had with had
  subst had
  exact hlt
/-- none of an Lsa's lists lies in a row's block -/
def Apart (v : Value) (p : Lsa × LsR) : Prop := (0 < p.2.n1 → ∀ ad, p.2.A1 = some ad → v.ownBlock ≠ some ad.block) ∧ (0 < p.2.n2 → ∀ ad, p.2.A2 = some ad → v.ownBlock ≠ some ad.block)
theorem isL_kept {S : Nat → Prop} {w w' : World} {p : Lsa × LsR} {v : Value} {B : Nat} (h : IsL w p) (hk : Kept S w w') (f1 : FreshA B p.2.A1) (f2 : FreshA B p.2.A2) (ha : Apart v p) (hS : ∀ b, B ≤ b → S b → v.ownBlock = some b) : IsL w' p :=
  ⟨sl_keptP h.links hk (fun hn ad had hs => ha.1 hn ad had (hS _ (f1 ad had) hs)), sl_keptP h.routers hk (fun hn ad had hs => ha.2 hn ad had (hS _ (f2 ad had) hs))⟩
/-- a row that is the old one, or new -/
theorem apart_from {w : World} {v v' : Value} {p : Lsa × LsR} (h : IsL w p) (ha : Apart v p) (hf : ∀ b, v'.ownBlock = some b → v.ownBlock = some b ∨ w.heap.size ≤ b) : Apart v' p :=
  ⟨fun hn ad had he => by
      rcases hf _ he with h1 | h1
      · exact ha.1 hn ad had h1
      · have := sl_ltP h.links hn ad had; omega,
    fun hn ad had he => by
      rcases hf _ he with h1 | h1
      · exact ha.2 hn ad had h1
      · have := sl_ltP h.routers hn ad had; omega⟩
def LsasPost (y : List UInt8) (w : World) (g : Nat) (e : Ending) (w' : World) : Prop :=
  ∃ A n c, e = .returned (.tuple #[.slice A n c, .int .i64 (lsasE y)]) ∧ w.grownBy w' (some g) ∧
    (lsasE y = 0 → ∃ P : List (Lsa × LsR), (lsasOf (nv y 4) (y.drop 4)).2 = P.map Prod.fst ∧ Sl w' 9 (.slice A n c) (LS P) ∧ FreshA w.heap.size A ∧ ∀ p ∈ P, IsL w' p ∧ FreshA w.heap.size p.2.A1 ∧ FreshA w.heap.size p.2.A2)
set_option maxRecDepth 100000 in
set_option maxHeartbeats 3200000 in
theorem rlsas_any (B g : Nat) (y : List UInt8) (w : World) (h : RdP B w g y false) (hBg : B ≤ g) (hy : y.length ≤ 100000) :
    Calls Try.prog 83 #[.pointer (some ⟨g, 0, none⟩)] w (LsasPost y w g) := by
  have hgl := h.lt
  have hE : Hid (lsasE y = if y.length < 4 ∨ 20 < nv y 4 then 3 else (lsasOf (nv y 4) (y.drop 4)).1) := rfl
  by_cases h4 : y.length < 4
  · have hE3 : lsasE y = 3 := by rw [hE.out, if_pos (.inl h4)]
    have HE3 := hid hE3
    have hbb : Hid ((false || decide (y.length < 4)) = true) := by show _ = _; simp [h4]
    clear hE3
    go_enter Try.func83, Try.ntmps83
    go_wp2_with fail
    refine (takeP_any B g 4 y false w h hBg (by omega) (by omega)).mono ?_
    rintro e w1 ⟨rfl, hR1, hg1⟩
    rw [hbb.out] at hR1
    obtain ⟨A', n', c', hcr, hcr1, hn', hslr, hltr⟩ := hR1.cell
    have HN' := hid hn'
    clear hn'
    generalize takeV y 4 = x0 at *
    go_wp2_with fail
    go_ret2
    exact ⟨none, 0, 0, by rw [HE3.out]; rfl, hg1, fun hh => by rw [HE3.out] at hh; omega⟩
  have hV : takeV y 4 = nv y 4 := by unfold takeV; rw [if_neg h4]
  have hR : takeR y 4 = y.drop 4 := by unfold takeR; rw [if_neg h4]
  have HV := hid hV
  have HR := hid hR
  have hbb : Hid ((false || decide (y.length < 4)) = false) := by show _ = _; simp [h4]
  have hb4 := nv_bd y 4 (by omega)
  clear hV hR
  by_cases h20 : 20 < nv y 4
  · have hE3 : lsasE y = 3 := by rw [hE.out, if_pos (.inr h20)]
    have HE3 := hid hE3
    clear hE3
    go_enter Try.func83, Try.ntmps83
    go_wp2_with fail
    refine (takeP_any B g 4 y false w h hBg (by omega) (by omega)).mono ?_
    rintro e w1 ⟨rfl, hR1, hg1⟩
    rw [hbb.out] at hR1
    rw [HV.out]
    obtain ⟨A', n', c', hcr, hcr1, hn', hslr, hltr⟩ := hR1.cell
    have HN' := hid hn'
    clear hn'
    generalize nv y 4 = x0 at *
    go_wp2_with fail
    go_ret2
    exact ⟨none, 0, 0, by rw [HE3.out]; rfl, hg1, fun hh => by rw [HE3.out] at hh; omega⟩
  have hE2 : Hid (lsasE y = (lsasOf (nv y 4) (y.drop 4)).1) := by show _ = _; rw [hE.out, if_neg (by omega)]
  have hlen : (y.drop 4).length ≤ 100000 := by simp; omega
  go_enter Try.func83, Try.ntmps83
  go_wp2_with fail
  refine (takeP_any B g 4 y false w h hBg (by omega) (by omega)).mono ?_
  rintro e w1 ⟨rfl, hR1, hg1⟩
  rw [hbb.out, HR.out] at hR1
  rw [HV.out]
  have HPost : Hid (∀ (e : Ending) (w' : World) (A : Option Addr) (n c : Nat), e = .returned (.tuple #[.slice A n c, .int .i64 (lsasOf (nv y 4) (y.drop 4)).1]) → w.grownBy w' (some g) →
      ((lsasOf (nv y 4) (y.drop 4)).1 = 0 → ∃ P : List (Lsa × LsR), (lsasOf (nv y 4) (y.drop 4)).2 = P.map Prod.fst ∧ Sl w' 9 (.slice A n c) (LS P) ∧ FreshA w.heap.size A ∧ ∀ p ∈ P, IsL w' p ∧ FreshA w.heap.size p.2.A1 ∧ FreshA w.heap.size p.2.A2) → LsasPost y w g e w') := by
    intro e w' A n c h1 h2 h3
    exact ⟨A, n, c, by rw [hE2.out]; exact h1, h2, fun hh => h3 (by rw [← hE2.out]; exact hh)⟩
  clear hE hE2 HV HR hbb
  generalize nv y 4 = N at *
  generalize y.drop 4 = z at *
  obtain ⟨A', n', c', hcr, hcr1, hn', hslr, hltr⟩ := hR1.cell
  clear hslr hltr hn' hcr
  go_upto_region 6 with fail
  clear hcr1
  have hz1 := hg1.size
  go_loopw [5, 20] (fun v i wr => ∃ (k : Nat) (done : List (Lsa × LsR)) (rest : List UInt8) (A : Option Addr) (m c : Nat), k ≤ N ∧ i = .int .u32 k ∧ v = .slice A m c ∧ m ≤ k ∧ RdP B wr g rest false ∧ wr.ownsRow w1.heap.size 63 9 (.slice A m c) m (LS done) ∧
      Hid (lsasOf N z = ((lsasOf (N - k) rest).1, done.map Prod.fst ++ (lsasOf (N - k) rest).2)) ∧ (∀ p ∈ done, IsL wr p ∧ FreshA w1.heap.size p.2.A1 ∧ FreshA w1.heap.size p.2.A2 ∧ Apart (.slice A m c) p) ∧ rest.length ≤ 100000 ∧ w1.grownBy wr (some g)) (fun _ i _ => N - (intOf i).toNat)
  case atStart => exact ⟨0, [], z, none, 0, 0, Nat.zero_le _, rfl, rfl, Nat.le_refl _, hR1, World.ownsRow_nil _ _ _ _, by show _ = _; simp, (fun p hp => by cases hp), hlen, World.grownBy.refl _ _⟩
  case round =>
    obtain ⟨k, done, rest, A, m, c, hk, rfl, rfl, hmk, hR, hown, HD, heach, hrl, hgr⟩ := hrel
    clear hR1 hlen n' A' c'
    have hgw := grown_trans hg1 (From.refl _ _) hgr
    by_cases hlt : k < N
    · obtain ⟨A', n', c', hcr, hcr1, hn', hslr, hltr⟩ := hR.cell
      have HN' := hid hn'
      have hrl' : n' ≤ 100000 := by omega
      obtain ⟨q, hq⟩ : ∃ q, N - k = q + 1 := ⟨N - k - 1, by omega⟩
      rw [hq] at HD
      have HQ := hid hq
      by_cases hs1 : n' < 20
      · have HL := hid (lsas_stop q rest (.inl (by omega)))
        clear hn' hq hown
        go_wp2_with fail
        go_ret2
        exact HPost.out _ _ none 0 0 (by rw [HD.out, HL.out]; rfl) hgw (fun hh => by rw [HD.out, HL.out] at hh; simp at hh)
      obtain ⟨b, off, rfl, hbl, p18⟩ := hslr.byte (k := 18) (by omega)
      obtain ⟨_, _, e1, _, p19⟩ := hslr.byte (k := 19) (by omega)
      injection e1 with e1
      injection e1 with e1 e2
      subst e1; subst e2
      have b18 := byt_lt rest 18
      have b19 := byt_lt rest 19
      have hf : Hid (fld rest 18 2 = byt rest 18 * 256 + byt rest 19) := by show _ = _; unfold fld; simp [nv, byt_drop]
      have hor : bits .or .i64 ((byt rest 18 : Int) * 256) (byt rest 19 : Int) = ((byt rest 18 * 256 + byt rest 19 : Nat) : Int) := by
        have := i64_or_nat (byt rest 18 * 256) (byt rest 19) (by omega) (by omega)
        rw [nat_join 8 (byt rest 18 * 256) (byt rest 19) (by omega) (by omega)] at this
        rw [← this]
        simp
      have hx1 : IntKind.i64.wrap ((byt rest 18 : Int) * 256) = (byt rest 18 : Int) * 256 := IntWalk.i64_in _ (by omega)
      obtain ⟨sz, hsz⟩ : ∃ sz : Nat, sz = byt rest 18 * 256 + byt rest 19 := ⟨_, rfl⟩
      rw [← hsz] at hor
      have hszb : sz < 65536 := by omega
      have HSZ : Hid (fld rest 18 2 = sz) := by show _ = _; rw [hf.out, hsz]
      clear hf hsz
      clear hn' hq
      go_upto_region 9 with fail
      have hnc := hslr.len.2.1
      by_cases hs2 : sz < 20
      · have HL := hid (lsas_stop q rest (.inr (.inl (by rw [HSZ.out]; exact hs2))))
        go_quiet (fail)
        clear hown hslr
        go_wp2_with fail
        go_ret2
        exact HPost.out _ _ none 0 0 (by rw [HD.out, HL.out]; rfl) (grown_drewN hgw _) (fun hh => by rw [HD.out, HL.out] at hh; simp at hh)
      by_cases hs3 : n' < sz
      · have HL := hid (lsas_stop q rest (.inr (.inr (by rw [HSZ.out, ← HN'.out]; exact hs3))))
        go_quiet (fail)
        clear hown hslr
        go_wp2_with fail
        go_ret2
        exact HPost.out _ _ none 0 0 (by rw [HD.out, HL.out]; rfl) (grown_drewN hgw _) (fun hh => by rw [HD.out, HL.out] at hh; simp at hh)
      have hns : Hid (¬ (rest.length < 20 ∨ fld rest 18 2 < 20 ∨ rest.length < fld rest 18 2)) := by show ¬ _; rw [HSZ.out, ← HN'.out]; omega
      go_quiet (fail)
      have hRq : RdP B (wr.drewN nq) g rest false := hR
      have hownq : (wr.drewN nq).ownsRow w1.heap.size 63 9 (.slice A m c) m (LS done) := hown
      have heachq : ∀ p ∈ done, IsL (wr.drewN nq) p ∧ FreshA w1.heap.size p.2.A1 ∧ FreshA w1.heap.size p.2.A2 ∧ Apart (.slice A m c) p := fun p hp => ⟨IsLsa.below (heach p hp).1 (below_drewN (Below.refl _ _) nq), (heach p hp).2⟩
      have hgwq := grown_drewN hgw nq
      have hgrq := grown_drewN hgr nq
      have hslq : Sl (wr.drewN nq) 1 (.slice (some ⟨b, off, none⟩) n' c') (B8 rest) := hslr
      have hcq : (wr.drewN nq).cell? ⟨g, 0, none⟩ = some (.slice (some ⟨b, off, none⟩) n' c') := hcr
      clear p18 p19 hR hown heach hgw hgr hslr hcr hcr1 hor hx1
      generalize wr.drewN nq = wq at *
      have hcut := hslq.take sz (by omega)
      go_wp2_with fail
      refine (get_any _ sz c' (rest.take sz) wq hcut (by omega)).mono ?_
      rintro e w3 ⟨L1, m1, d1, L2, m2, d2, rfl, hI3, hb3, hf1, hf2⟩
      have hgw3 := grown_trans hgwq (From.refl _ _) (below_grown hb3 (some g))
      by_cases hE : getE (rest.take sz) = 0
      rotate_left
      · have HL := hid (lsas_bad q rest hns.out (by rw [HSZ.out]; exact hE))
        rw [HSZ.out] at HL
        have hEb : -9223372036854775808 ≤ getE (rest.take sz) ∧ getE (rest.take sz) ≤ 9223372036854775807 := by unfold getE; split <;> (try split) <;> (try split) <;> omega
        generalize getE (rest.take sz) = er at *
        generalize getL (rest.take sz) = X at *
        have hne : (er != 0) = true := by simpa using hE
        clear hE hownq hslq hcq hcut
        go_wp2_with fail
        go_ret2
        refine HPost.out _ _ none 0 0 (by rw [HD.out, HL.out]; rfl) (grown_alloc hgw3 _) (fun hh => ?_)
        rw [HD.out, HL.out] at hh
        simp at hh
        simp [hh] at hne
      have HL := hid (lsas_ok q rest hns.out (by rw [HSZ.out]; exact hE))
      have hgl3 : getL (rest.take sz) = bodyL (rest.take sz) := by unfold getL; rw [if_pos hE]
      rw [HSZ.out] at HL
      rw [hgl3] at hI3 ⊢
      rw [hE]
      clear hE hgl3 hcut
      generalize bodyL (rest.take sz) = X at *
      have hR4 : RdP B (w3.alloc (.cells (lsaC X L1 m1 d1 L2 m2 d2) 63)) g rest false := (hRq.kept (Kept.of_below (S := fun _ => False) hb3) (by simp) (by simp)).kept (S := fun _ => False) ((Kept.refl _ _).alloc _) (by simp) (by simp)
      have hownlt := ownF_lt (own_below hownq hb3)
      have hownlq := ownF_lt hownq
      have hown4 := (own_below hownq hb3).alloc (.cells (lsaC X L1 m1 d1 L2 m2 d2) 63)
      have hgw4 := grown_alloc hgw3 (.cells (lsaC X L1 m1 d1 L2 m2 d2) 63)
      have hgr4 := grown_alloc (grown_trans hgrq (From.refl _ _) (below_grown hb3 (some g))) (.cells (lsaC X L1 m1 d1 L2 m2 d2) 63)
      have hsl4 := (hslq.below hb3).alloc (.cells (lsaC X L1 m1 d1 L2 m2 d2) 63)
      have hbA := (Below.refl w3.heap.size w3).alloc (Nat.le_refl _) (.cells (lsaC X L1 m1 d1 L2 m2 d2) 63)
      have hI4 := hI3.below hbA
      have hea4 : ∀ p ∈ done, IsL (w3.alloc (.cells (lsaC X L1 m1 d1 L2 m2 d2) 63)) p ∧ FreshA w1.heap.size p.2.A1 ∧ FreshA w1.heap.size p.2.A2 ∧ Apart (.slice A m c) p := fun p hp => ⟨IsLsa.below (IsLsa.below (heachq p hp).1 hb3) hbA, (heachq p hp).2⟩
      have hgx := heap_alloc_new w3 (.cells (lsaC X L1 m1 d1 L2 m2 d2) 63)
      have hz4 : (w3.alloc (.cells (lsaC X L1 m1 d1 L2 m2 d2) 63)).heap.size = w3.heap.size + 1 := by simp
      have hz3 := hb3.size
      have hzq := hgrq.size
      clear hRq hownq hgwq hgrq hslq hcq hb3 hI3 hbA heachq hgw3
      go_upto_region 15 with fail
      generalize w3.alloc (.cells (lsaC X L1 m1 d1 L2 m2 d2) 63) = w4 at *
      obtain ⟨gx, hgxe⟩ : ∃ gx : Nat, gx = w3.heap.size := ⟨_, rfl⟩
      rw [← hgxe] at hgx hz4 ⊢
      have hgxg : gx ≠ g := by omega
      have hgx1 : w1.heap.size ≤ gx := by omega
      have hgx3 : w3.heap.size ≤ gx := by omega
      clear hgxe
      obtain ⟨A5, n5, c5, hb5, hsl5, hlt5⟩ := hR4
      have hn5 := hsl5.len
      have hnn : n5 = n' := by have := HN'.out; omega
      subst hnn
      obtain ⟨b5, off5, rfl, hbl5, _⟩ := hsl5.byte (k := 0) (by omega)
      have hd5 := sl_drop hsl5 sz (by omega)
      obtain ⟨hn5, hnc5, _⟩ := hn5
      have hgxlt : gx < w4.heap.size := by omega
      have hg4 : g < w4.heap.size := by omega
      have hz14 : w1.heap.size ≤ w4.heap.size := by omega
      have hS0 : ¬ ((False ∨ gx = g) ∨ Value.ownBlock (.slice A m c) = some gx) := fun hh => by
        rcases hh with (hh | hh) | hh
        · exact hh
        · exact hgxg hh
        · have := hownlt _ hh; omega
      have hd1 : ∀ b, Value.ownBlock (.slice A m c) = some b → (False ∨ b = g) → False := by
        rintro b h1 (h2 | h2)
        · exact h2
        · have := (hown4.lt b h1).1; omega
      have kx : ∀ (x : WK (fun b => (False ∨ b = g) ∨ Value.ownBlock (.slice A m c) = some b) w4) j, (wat x).cell? ⟨gx, j, none⟩ = _ := fun x j => (wat_cell (p := ⟨gx, j, none⟩) hgxlt hS0 x).trans ((blk_cells hgx).1 j)
      have kx0 := fun x => kx x 0
      have kx1 := fun x => kx x 1
      have kx2 := fun x => kx x 2
      have kx3 := fun x => kx x 3
      have kx4 := fun x => kx x 4
      have kx5 := fun x => kx x 5
      have kx6 := fun x => kx x 6
      have kx7 := fun x => kx x 7
      have kx8 := fun x => kx x 8
      simp at kx0 kx1 kx2 kx3 kx4 kx5 kx6 kx7 kx8
      clear kx hn5
      by_cases hc5 : c5 = sz
      · subst hc5
        obtain rfl : n5 = c5 := by omega
        rw [if_pos rfl, Nat.sub_self] at hd5
        refine wp_region_loud (fun b => (False ∨ b = g) ∨ Value.ownBlock (.slice A m c) = some b)
          [(3, rowL [] w1.heap.size 63 9 1 (LS [(X, ⟨L1, m1, d1, L2, m2, d2⟩)])), (4, rowL [101, 3] w1.heap.size 63 9 (m + 1) (LS (done ++ [(X, ⟨L1, m1, d1, L2, m2, d2⟩)]))),
           (8, loadL [100] (.slice (some ⟨b5, off5, none⟩) n5 n5) (BlkF g 113 #[.slice (some ⟨b5, off5, none⟩) n5 n5, .bool false])),
           (14, factL [8] (fun _ => True) (fun _ => BlkF g 113 #[.slice (some ⟨b5, off5, none⟩) 0 0, .bool false]))]
          (addL 101 (OwnF w1.heap.size 63 9 m (LS done) (.slice A m c)) (addL 100 (BlkF g 113 #[.slice (some ⟨b5, off5, none⟩) n5 n5, .bool false]) (fun _ => Fact.none))) (by kernel_rfl) (by kernel_rfl)
          (.cons (rowL_ok _ _ _ _ _ _) (.cons (rowL_ok _ _ _ _ _ _) (.cons (loadL_ok _ _ (good_blk _ _ _)) (.cons (factL_ok ⟨undef, trivial⟩ (fun _ => good_blk _ _ _)) .nil))))
          (good_add _ (good_own _ _ _ _ _ _) (good_add _ (good_blk _ _ _) good_nothing))
          (sat_add 101 (sat_add 100 sat_none (fun b _ h => h) (fun b (hb : b = g) => by omega) ⟨rfl, hb5⟩) hd1 (ownF_lt hown4) (ownF_in hown4)) (WX.out ?_)
        repeat (first | ((first | refine wx_quietU (by rfl) (by rfl) (by rfl) (fun K hK => ?_) | refine wx_quietG (by rfl) (by rfl) (by rfl) (by rfl) (by rfl) (fun K hK => ?_)); go_big_quiet_op; refine hK _ ?_; clear hK K) | ((first | refine wx_skipG (by rfl) (by rfl) (by rfl) (fun K hK => ?_) | refine wx_skipN (by rfl) (by rfl) (by rfl) (fun K hK => ?_)); go_simp; refine hK _ ?_; clear hK K))
        refine wx_loudU (us := []) (by rfl) (by rfl) (fun S wS hC hS hU => ?_) (fun v hv K hK => ?_)
        · exact runs_value (by go_simp <;> rfl) (made_x rfl (Nat.le_trans hz14 hC.size) (by rfl) (by rfl) (by omega) (by omega))
        obtain ⟨RA3, Rc3, rfl⟩ := hv; (go_simp; refine hK _ ?_; clear hK K)
        repeat (first | ((first | refine wx_quietU (by rfl) (by rfl) (by rfl) (fun K hK => ?_) | refine wx_quietG (by rfl) (by rfl) (by rfl) (by rfl) (by rfl) (fun K hK => ?_)); go_big_quiet_op; refine hK _ ?_; clear hK K) | ((first | refine wx_skipG (by rfl) (by rfl) (by rfl) (fun K hK => ?_) | refine wx_skipN (by rfl) (by rfl) (by rfl) (fun K hK => ?_)); go_simp; refine hK _ ?_; clear hK K))
        refine wx_loudU (us := [101, 3]) (by rfl) (by rfl) (fun S wS hC hS hU => ?_) (fun v hv K hK => ?_)
        · exact appS_x (.tmp 69) (.tmp 71) st_lsas (by rfl) (by rfl) (by rfl) (hU 101 (by simp)) (own_sl (hU 3 (by simp)).2) (LS_one _) (by simp [maxLen]; omega) (by omega) (Nat.le_trans hz14 hC.size) (LS_append _ _)
        obtain ⟨RA4, Rc4, rfl⟩ := hv; (go_simp; refine hK _ ?_; clear hK K)
        repeat (first | ((first | refine wx_quietU (by rfl) (by rfl) (by rfl) (fun K hK => ?_) | refine wx_quietG (by rfl) (by rfl) (by rfl) (by rfl) (by rfl) (fun K hK => ?_)); go_big_quiet_op; refine hK _ ?_; clear hK K) | ((first | refine wx_skipG (by rfl) (by rfl) (by rfl) (fun K hK => ?_) | refine wx_skipN (by rfl) (by rfl) (by rfl) (fun K hK => ?_)); go_simp; refine hK _ ?_; clear hK K))
        refine wx_loudU (us := [100]) (by rfl) (by rfl) (fun S wS hC hS hU => ?_) (fun v hv K hK => ?_)
        · have hB : BlkF g 113 #[.slice (some ⟨b5, off5, none⟩) n5 n5, .bool false] S wS := hU 100 (by simp)
          obtain ⟨hc, hf⟩ := blkF_cells hB
          exact load_x (by go_simp) (good_blk _ _ _) hB
        obtain rfl := hv; (go_simp; refine hK _ ?_; clear hK K)
        repeat (first | ((first | refine wx_quietU (by rfl) (by rfl) (by rfl) (fun K hK => ?_) | refine wx_quietG (by rfl) (by rfl) (by rfl) (by rfl) (by rfl) (fun K hK => ?_)); go_big_quiet_op; refine hK _ ?_; clear hK K) | ((first | refine wx_skipG (by rfl) (by rfl) (by rfl) (fun K hK => ?_) | refine wx_skipN (by rfl) (by rfl) (by rfl) (fun K hK => ?_)); go_simp; refine hK _ ?_; clear hK K))
        refine wx_loudU (us := [8]) (by rfl) (by rfl) (fun S wS hC hS hU => ?_) (fun v hv K hK => ?_)
        · have hB : BlkF g 113 #[.slice (some ⟨b5, off5, none⟩) n5 n5, .bool false] S wS := hU 8 (by simp)
          obtain ⟨hc, hf⟩ := blkF_cells hB
          unfold runs
          go_simp
          exact ⟨trivial, (Kept.refl _ _).setCell (.inl hB.1) _, .inl hB.1, set_fst hB.2 _⟩
        (go_simp; refine hK _ ?_; clear hK K)
        refine wx_nil fun w9 hsat => ?_
        obtain ⟨S4, hS4, hF4⟩ := sat_get hsat 4
        have hO9 : OwnF w1.heap.size 63 9 (m + 1) (LS (done ++ [(X, ⟨L1, m1, d1, L2, m2, d2⟩)])) (.slice RA4 (m + 1) Rc4) S4 w9 := hF4
        obtain ⟨S14, _, hF14⟩ := sat_get hsat 14
        have hB9 := (hF14 : BlkF g 113 #[.slice (some ⟨b5, off5, none⟩) 0 0, .bool false] S14 w9).2
        have hK9 := hsat.1
        have hown9 := hO9.2
        have hfrom : ∀ b, Value.ownBlock (.slice RA4 (m + 1) Rc4) = some b → Value.ownBlock (.slice A m c) = some b ∨ w4.heap.size ≤ b := fun b hb => by
          have h1 := (hown9.lt b hb).1
          rcases (hS4 b (hO9.1 b hb)).1 with ((h2 | h2) | h2) | h2
          · exact h2.elim
          · omega
          · exact .inl h2
          · exact .inr h2
        have hSw : ∀ b, w1.heap.size ≤ b → ((False ∨ b = g) ∨ Value.ownBlock (.slice A m c) = some b) → Value.ownBlock (.slice A m c) = some b := fun b hb h2 => by
          rcases h2 with (h2 | h2) | h2
          · exact h2.elim
          · omega
          · exact h2
        have hap : Apart (.slice A m c) (X, ⟨L1, m1, d1, L2, m2, d2⟩) :=
          ⟨fun _ ad had he => by have h1 := hf1 ad had; have h2 := hownlq _ he; omega, fun _ ad had he => by have h1 := hf2 ad had; have h2 := hownlq _ he; omega⟩
        have hea9 : ∀ p ∈ done ++ [(X, (⟨L1, m1, d1, L2, m2, d2⟩ : LsR))], IsL w9 p ∧ FreshA w1.heap.size p.2.A1 ∧ FreshA w1.heap.size p.2.A2 ∧ Apart (.slice RA4 (m + 1) Rc4) p := by
          intro p hp
          rcases List.mem_append.1 hp with hp | hp
          · obtain ⟨e1, e2, e3, e4⟩ := hea4 p hp
            exact ⟨isL_kept e1 hK9 e2 e3 e4 hSw, e2, e3, apart_from e1 e4 hfrom⟩
          · obtain rfl : p = (X, ⟨L1, m1, d1, L2, m2, d2⟩) := by simpa using hp
            have e2 : FreshA w1.heap.size L1 := fun ad had => by have := hf1 ad had; omega
            have e3 : FreshA w1.heap.size L2 := fun ad had => by have := hf2 ad had; omega
            exact ⟨isL_kept (p := (X, ⟨L1, m1, d1, L2, m2, d2⟩)) hI4 hK9 e2 e3 hap hSw, e2, e3, apart_from (p := (X, ⟨L1, m1, d1, L2, m2, d2⟩)) hI4 hap hfrom⟩
        have hR9 : RdP B w9 g (rest.drop n5) false := ⟨_, _, _, hB9, sl_kept hd5 hK9 (fun ad had hs => by
          injection had with had
          subst had
          have h1 := hlt5 _ rfl
          rcases hs with (hs | hs) | hs
          · exact hs
          · simp at hs h1; omega
          · have := (hown4.lt _ hs).1; simp at this h1; omega), fun ad had => by
          injection had with had
          subst had
          have h9 := hlt5 _ rfl
          exact h9⟩
        have hgr9 : w1.grownBy w9 (some g) := ⟨hK9.os.trans hgr4.os, hK9.tape.trans hgr4.tape, hK9.output.trans hgr4.output, Nat.le_trans hgr4.size hK9.size, fun b hb hn => (hK9.block b (by omega) (fun hs => by
          rcases hs with (hs | hs) | hs
          · exact hs
          · exact hn (by rw [hs])
          · have := (hown4.lt _ hs).1; omega)).trans (hgr4.block b hb hn)⟩
        clear hsat hF4 hF14 hO9 hB9 hK9 hown4 hea4 hI4 hgx kx0 kx1 kx2 kx3 kx4 kx5 kx6 kx7 kx8 hd5 hb5 hsl5
        go_wp2_with fail
        go_light
        refine ⟨⟨k + 1, done ++ [(X, ⟨L1, m1, d1, L2, m2, d2⟩)], rest.drop n5, RA4, m + 1, Rc4, by omega, by go_num, rfl, by omega, hR9, hown9, ?_, hea9, ?_, hgr9⟩, ?_⟩
        · show _ = _
          rw [HD.out, HL.out, show N - (k + 1) = q by have := HQ.out; omega]
          simp
        · rw [List.length_drop]; omega
        · simp [intOf]; omega
      · rw [if_neg hc5] at hd5
        simp only [Option.map_some, addr_add] at hd5
        refine wp_region_loud (fun b => (False ∨ b = g) ∨ Value.ownBlock (.slice A m c) = some b)
          [(3, rowL [] w1.heap.size 63 9 1 (LS [(X, ⟨L1, m1, d1, L2, m2, d2⟩)])), (4, rowL [101, 3] w1.heap.size 63 9 (m + 1) (LS (done ++ [(X, ⟨L1, m1, d1, L2, m2, d2⟩)]))),
           (8, loadL [100] (.slice (some ⟨b5, off5, none⟩) n5 c5) (BlkF g 113 #[.slice (some ⟨b5, off5, none⟩) n5 c5, .bool false])),
           (14, factL [8] (fun _ => True) (fun _ => BlkF g 113 #[.slice (some ⟨b5, off5 + sz, none⟩) (n5 - sz) (c5 - sz), .bool false]))]
          (addL 101 (OwnF w1.heap.size 63 9 m (LS done) (.slice A m c)) (addL 100 (BlkF g 113 #[.slice (some ⟨b5, off5, none⟩) n5 c5, .bool false]) (fun _ => Fact.none))) (by kernel_rfl) (by kernel_rfl)
          (.cons (rowL_ok _ _ _ _ _ _) (.cons (rowL_ok _ _ _ _ _ _) (.cons (loadL_ok _ _ (good_blk _ _ _)) (.cons (factL_ok ⟨undef, trivial⟩ (fun _ => good_blk _ _ _)) .nil))))
          (good_add _ (good_own _ _ _ _ _ _) (good_add _ (good_blk _ _ _) good_nothing))
          (sat_add 101 (sat_add 100 sat_none (fun b _ h => h) (fun b (hb : b = g) => by omega) ⟨rfl, hb5⟩) hd1 (ownF_lt hown4) (ownF_in hown4)) (WX.out ?_)
        repeat (first | ((first | refine wx_quietU (by rfl) (by rfl) (by rfl) (fun K hK => ?_) | refine wx_quietG (by rfl) (by rfl) (by rfl) (by rfl) (by rfl) (fun K hK => ?_)); go_big_quiet_op; refine hK _ ?_; clear hK K) | ((first | refine wx_skipG (by rfl) (by rfl) (by rfl) (fun K hK => ?_) | refine wx_skipN (by rfl) (by rfl) (by rfl) (fun K hK => ?_)); go_simp; refine hK _ ?_; clear hK K))
        refine wx_loudU (us := []) (by rfl) (by rfl) (fun S wS hC hS hU => ?_) (fun v hv K hK => ?_)
        · exact runs_value (by go_simp <;> rfl) (made_x rfl (Nat.le_trans hz14 hC.size) (by rfl) (by rfl) (by omega) (by omega))
        obtain ⟨RA3, Rc3, rfl⟩ := hv; (go_simp; refine hK _ ?_; clear hK K)
        repeat (first | ((first | refine wx_quietU (by rfl) (by rfl) (by rfl) (fun K hK => ?_) | refine wx_quietG (by rfl) (by rfl) (by rfl) (by rfl) (by rfl) (fun K hK => ?_)); go_big_quiet_op; refine hK _ ?_; clear hK K) | ((first | refine wx_skipG (by rfl) (by rfl) (by rfl) (fun K hK => ?_) | refine wx_skipN (by rfl) (by rfl) (by rfl) (fun K hK => ?_)); go_simp; refine hK _ ?_; clear hK K))
        refine wx_loudU (us := [101, 3]) (by rfl) (by rfl) (fun S wS hC hS hU => ?_) (fun v hv K hK => ?_)
        · exact appS_x (.tmp 69) (.tmp 71) st_lsas (by rfl) (by rfl) (by rfl) (hU 101 (by simp)) (own_sl (hU 3 (by simp)).2) (LS_one _) (by simp [maxLen]; omega) (by omega) (Nat.le_trans hz14 hC.size) (LS_append _ _)
        obtain ⟨RA4, Rc4, rfl⟩ := hv; (go_simp; refine hK _ ?_; clear hK K)
        repeat (first | ((first | refine wx_quietU (by rfl) (by rfl) (by rfl) (fun K hK => ?_) | refine wx_quietG (by rfl) (by rfl) (by rfl) (by rfl) (by rfl) (fun K hK => ?_)); go_big_quiet_op; refine hK _ ?_; clear hK K) | ((first | refine wx_skipG (by rfl) (by rfl) (by rfl) (fun K hK => ?_) | refine wx_skipN (by rfl) (by rfl) (by rfl) (fun K hK => ?_)); go_simp; refine hK _ ?_; clear hK K))
        refine wx_loudU (us := [100]) (by rfl) (by rfl) (fun S wS hC hS hU => ?_) (fun v hv K hK => ?_)
        · have hB : BlkF g 113 #[.slice (some ⟨b5, off5, none⟩) n5 c5, .bool false] S wS := hU 100 (by simp)
          obtain ⟨hc, hf⟩ := blkF_cells hB
          exact load_x (by go_simp) (good_blk _ _ _) hB
        obtain rfl := hv; (go_simp; refine hK _ ?_; clear hK K)
        repeat (first | ((first | refine wx_quietU (by rfl) (by rfl) (by rfl) (fun K hK => ?_) | refine wx_quietG (by rfl) (by rfl) (by rfl) (by rfl) (by rfl) (fun K hK => ?_)); go_big_quiet_op; refine hK _ ?_; clear hK K) | ((first | refine wx_skipG (by rfl) (by rfl) (by rfl) (fun K hK => ?_) | refine wx_skipN (by rfl) (by rfl) (by rfl) (fun K hK => ?_)); go_simp; refine hK _ ?_; clear hK K))
        refine wx_loudU (us := [8]) (by rfl) (by rfl) (fun S wS hC hS hU => ?_) (fun v hv K hK => ?_)
        · have hB : BlkF g 113 #[.slice (some ⟨b5, off5, none⟩) n5 c5, .bool false] S wS := hU 8 (by simp)
          obtain ⟨hc, hf⟩ := blkF_cells hB
          unfold runs
          go_simp
          exact ⟨trivial, (Kept.refl _ _).setCell (.inl hB.1) _, .inl hB.1, set_fst hB.2 _⟩
        (go_simp; refine hK _ ?_; clear hK K)
        refine wx_nil fun w9 hsat => ?_
        obtain ⟨S4, hS4, hF4⟩ := sat_get hsat 4
        have hO9 : OwnF w1.heap.size 63 9 (m + 1) (LS (done ++ [(X, ⟨L1, m1, d1, L2, m2, d2⟩)])) (.slice RA4 (m + 1) Rc4) S4 w9 := hF4
        obtain ⟨S14, _, hF14⟩ := sat_get hsat 14
        have hB9 := (hF14 : BlkF g 113 #[.slice (some ⟨b5, off5 + sz, none⟩) (n5 - sz) (c5 - sz), .bool false] S14 w9).2
        have hK9 := hsat.1
        have hown9 := hO9.2
        have hfrom : ∀ b, Value.ownBlock (.slice RA4 (m + 1) Rc4) = some b → Value.ownBlock (.slice A m c) = some b ∨ w4.heap.size ≤ b := fun b hb => by
          have h1 := (hown9.lt b hb).1
          rcases (hS4 b (hO9.1 b hb)).1 with ((h2 | h2) | h2) | h2
          · exact h2.elim
          · omega
          · exact .inl h2
          · exact .inr h2
        have hSw : ∀ b, w1.heap.size ≤ b → ((False ∨ b = g) ∨ Value.ownBlock (.slice A m c) = some b) → Value.ownBlock (.slice A m c) = some b := fun b hb h2 => by
          rcases h2 with (h2 | h2) | h2
          · exact h2.elim
          · omega
          · exact h2
        have hap : Apart (.slice A m c) (X, ⟨L1, m1, d1, L2, m2, d2⟩) :=
          ⟨fun _ ad had he => by have h1 := hf1 ad had; have h2 := hownlq _ he; omega, fun _ ad had he => by have h1 := hf2 ad had; have h2 := hownlq _ he; omega⟩
        have hea9 : ∀ p ∈ done ++ [(X, (⟨L1, m1, d1, L2, m2, d2⟩ : LsR))], IsL w9 p ∧ FreshA w1.heap.size p.2.A1 ∧ FreshA w1.heap.size p.2.A2 ∧ Apart (.slice RA4 (m + 1) Rc4) p := by
          intro p hp
          rcases List.mem_append.1 hp with hp | hp
          · obtain ⟨e1, e2, e3, e4⟩ := hea4 p hp
            exact ⟨isL_kept e1 hK9 e2 e3 e4 hSw, e2, e3, apart_from e1 e4 hfrom⟩
          · obtain rfl : p = (X, ⟨L1, m1, d1, L2, m2, d2⟩) := by simpa using hp
            have e2 : FreshA w1.heap.size L1 := fun ad had => by have := hf1 ad had; omega
            have e3 : FreshA w1.heap.size L2 := fun ad had => by have := hf2 ad had; omega
            exact ⟨isL_kept (p := (X, ⟨L1, m1, d1, L2, m2, d2⟩)) hI4 hK9 e2 e3 hap hSw, e2, e3, apart_from (p := (X, ⟨L1, m1, d1, L2, m2, d2⟩)) hI4 hap hfrom⟩
        have hR9 : RdP B w9 g (rest.drop sz) false := ⟨_, _, _, hB9, sl_kept hd5 hK9 (fun ad had hs => by
          injection had with had
          subst had
          have h1 := hlt5 _ rfl
          rcases hs with (hs | hs) | hs
          · exact hs
          · simp at hs h1; omega
          · have := (hown4.lt _ hs).1; simp at this h1; omega), fun ad had => by
          injection had with had
          subst had
          have h9 := hlt5 _ rfl
          exact h9⟩
        have hgr9 : w1.grownBy w9 (some g) := ⟨hK9.os.trans hgr4.os, hK9.tape.trans hgr4.tape, hK9.output.trans hgr4.output, Nat.le_trans hgr4.size hK9.size, fun b hb hn => (hK9.block b (by omega) (fun hs => by
          rcases hs with (hs | hs) | hs
          · exact hs
          · exact hn (by rw [hs])
          · have := (hown4.lt _ hs).1; omega)).trans (hgr4.block b hb hn)⟩
        clear hsat hF4 hF14 hO9 hB9 hK9 hown4 hea4 hI4 hgx kx0 kx1 kx2 kx3 kx4 kx5 kx6 kx7 kx8 hd5 hb5 hsl5
        go_wp2_with fail
        go_light
        refine ⟨⟨k + 1, done ++ [(X, ⟨L1, m1, d1, L2, m2, d2⟩)], rest.drop sz, RA4, m + 1, Rc4, by omega, by go_num, rfl, by omega, hR9, hown9, ?_, hea9, ?_, hgr9⟩, ?_⟩
        · show _ = _
          rw [HD.out, HL.out, show N - (k + 1) = q by have := HQ.out; omega]
          simp
        · rw [List.length_drop]; omega
        · simp [intOf]; omega
    · obtain rfl : k = N := by omega
      go_wp2_with fail
      go_ret2
      have hD := HD.out
      rw [Nat.sub_self] at hD
      have hD2 : lsasOf k z = (0, done.map Prod.fst) := by rw [hD]; simp [lsasOf]
      refine HPost.out _ _ A m c (by rw [hD2]; rfl) hgw (fun _ => ⟨done, by rw [hD2], own_sl hown, fun ad had => by have := freshA_own hown ad had; omega, fun p hp => ?_⟩)
      obtain ⟨e1, e2, e3, _⟩ := heach p hp
      exact ⟨e1, fun ad had => by have := e2 ad had; omega, fun ad had => by have := e3 ad had; omega⟩
end Go.Proofs.Ytgopkpogakjckaa
namespace Go.Proofs.Ytgopkpogakjckaa
set_option linter.unusedVariables false
set_option linter.unusedSimpArgs false
open Go Go.RowKit SM LM PK

/-- a packet of which nothing is told yet -/
def bareP (ty : Int) (router area : Nat) (s : ByteArray) : Pkt := ⟨ty, router, area, s, 0, 0, 0, 0, 0, 0, [], 0, 0, [], [], []⟩
/-- what tells leaves: the packet's block gl, the reader's block g -/
def TellsPost (P : Pkt) (y : List UInt8) (w : World) (gl g : Nat) (e : Ending) (w' : World) : Prop :=
  e = .returned (.int .i64 (tellsE y P)) ∧ Kept (fun b => b = gl ∨ b = g) w w' ∧
    (tellsE y P = 0 → ∃ A1 n1 c1 A2 n2 c2 A3 n3 c3 A4 n4 c4 R, w'.heap[gl]? = some (.cells (pkC (tellsP y P) A1 n1 c1 A2 n2 c2 A3 n3 c3 A4 n4 c4) 40 (0, 0)) ∧ IsPk w' (tellsP y P) A1 n1 c1 A2 n2 c2 A3 n3 c3 A4 n4 c4 R ∧
      FreshA w.heap.size A1 ∧ FreshA w.heap.size A2 ∧ FreshA w.heap.size A3 ∧ FreshA w.heap.size A4 ∧ ∀ r ∈ R, FreshA w.heap.size r.A1 ∧ FreshA w.heap.size r.A2)
theorem nil7 (w : World) : Sl w 7 (.slice none 0 0) (HD []) := sl_nil w 7
theorem nil3 (w : World) : Sl w 3 (.slice none 0 0) (KY []) := sl_nil w 3
theorem nil9 (w : World) (R : List LsR) : Sl w 9 (.slice none 0 0) (LS (([] : List Lsa).zip R)) := sl_nil w 9
theorem nilU (w : World) : Sl w 1 (.slice none 0 0) (U32 []) := sl_nil w 1
/-- a greeting's seven cells laid into a packet's block -/
def layG (w : World) (g : Nat) (a0 a1 a2 a3 a4 a5 a6 : Value) : World := ((((((w.setCell ⟨g, 4, none⟩ a0).setCell ⟨g, 5, none⟩ a1).setCell ⟨g, 6, none⟩ a2).setCell ⟨g, 7, none⟩ a3).setCell ⟨g, 8, none⟩ a4).setCell ⟨g, 9, none⟩ a5).setCell ⟨g, 10, none⟩ a6
theorem layG_in {w : World} {g : Nat} {T : TypeId} {z0 z1 z2 z3 z4 z5 z6 z7 z8 z9 z10 z11 z12 z13 z14 z15 : Value} (h : w.heap[g]? = some (.cells #[z0, z1, z2, z3, z4, z5, z6, z7, z8, z9, z10, z11, z12, z13, z14, z15] T (0, 0))) (a0 a1 a2 a3 a4 a5 a6 : Value) :
    (layG w g a0 a1 a2 a3 a4 a5 a6).heap[g]? = some (.cells #[z0, z1, z2, z3, a0, a1, a2, a3, a4, a5, a6, z11, z12, z13, z14, z15] T (0, 0)) := by
  simp [layG, World.setCell, Array.getElem?_modify, h]
theorem layG_grown (w : World) (g : Nat) (a0 a1 a2 a3 a4 a5 a6 : Value) : w.grownBy (layG w g a0 a1 a2 a3 a4 a5 a6) (some g) :=
  grown_trans (grown_trans (grown_trans (grown_trans (grown_trans (grown_trans (grown_set w g 4 a0) (From.refl _ _) (grown_set _ g 5 a1)) (From.refl _ _) (grown_set _ g 6 a2)) (From.refl _ _) (grown_set _ g 7 a3)) (From.refl _ _) (grown_set _ g 8 a4)) (From.refl _ _) (grown_set _ g 9 a5)) (From.refl _ _) (grown_set _ g 10 a6)
set_option maxRecDepth 100000 in
set_option maxHeartbeats 1600000 in
theorem tells_t1
    (ty : Int) (router area : Nat) (s : ByteArray) (B gl g : Nat) (y : List UInt8) (w : World) (hl : w.heap[gl]? = some (.cells (pkC (bareP ty router area s) none 0 0 none 0 0 none 0 0 none 0 0) 40 (0, 0))) (hR : RdP B w g y false) (hBl : B ≤ gl) (hBg : B ≤ g) (hne : gl ≠ g) (hy : y.length ≤ 100000)
    (hk : ty = 1) : Calls Try.prog 48 #[.pointer (some ⟨gl, 0, none⟩), .pointer (some ⟨g, 0, none⟩)] w (TellsPost (bareP ty router area s) y w gl g) := by
  subst hk
  have hgl := blk_lt hl
  have HE : Hid (tellsE y (bareP 1 router area s) = 0) := by show _ = _; unfold tellsE bareP; simp
  have HP : Hid (tellsP y (bareP 1 router area s) = ⟨1, router, area, s, (helloP y zeroP).mask, (helloP y zeroP).intv, (helloP y zeroP).dead, (helloP y zeroP).prio, (helloP y zeroP).dr, (helloP y zeroP).bdr, (helloP y zeroP).nbs, 0, 0, [], [], []⟩) := by
    show _ = _
    have e := tells1 (y := y) (P := bareP 1 router area s) (by simp only [bareP])
    rw [e]
    simp only [helloP, bareP, zeroP]
  obtain ⟨hcl, hfl⟩ := blk_cells hl
  simp only [bareP] at hcl hl
  go_enter Try.func48, Try.ntmps48
  go_wp2_with fail
  refine (rgreeting_any B g y false w hR hBg hy).mono ?_
  rintro e w1 ⟨A, n, c, rfl, hsl, hfr, hgr⟩
  generalize helloP y zeroP = Q at *
  replace hl := blk_grown hl hgr (by simp; omega)
  clear hcl hfl
  obtain ⟨hcl, hfl⟩ := blk_cells hl
  go_upto_region 13 with fail
  have hin := layG_in hl (.int .u32 (Q.mask : Int)) (.int .i64 Q.intv) (.int .i64 Q.dead) (.int .i64 Q.prio) (.int .u32 (Q.dr : Int)) (.int .u32 (Q.bdr : Int)) (.slice A n c)
  have hgG := layG_grown w1 gl (.int .u32 (Q.mask : Int)) (.int .i64 Q.intv) (.int .i64 Q.dead) (.int .i64 Q.prio) (.int .u32 (Q.dr : Int)) (.int .u32 (Q.bdr : Int)) (.slice A n c)
  unfold layG at hin hgG
  generalize ((((((w1.setCell ⟨gl, 4, none⟩ (.int .u32 (Q.mask : Int))).setCell ⟨gl, 5, none⟩ (.int .i64 Q.intv)).setCell ⟨gl, 6, none⟩ (.int .i64 Q.dead)).setCell ⟨gl, 7, none⟩ (.int .i64 Q.prio)).setCell ⟨gl, 8, none⟩ (.int .u32 (Q.dr : Int))).setCell ⟨gl, 9, none⟩ (.int .u32 (Q.bdr : Int))).setCell ⟨gl, 10, none⟩ (.slice A n c) = wG at *
  clear hcl hfl hl
  obtain ⟨hcl, hfl⟩ := blk_cells hin
  have hslG := hsl.grown hgG (fun ad had => by have := hfr ad had; simp; omega)
  have hz1 := hgr.size
  have hkp : Kept (fun b => b = gl ∨ b = g) w wG := ⟨hgG.os.trans hgr.os, hgG.tape.trans hgr.tape, hgG.output.trans hgr.output, Nat.le_trans hz1 hgG.size, fun b hb hn => (hgG.block b (by omega) (by simp; omega)).trans (hgr.block b hb (by simp; omega))⟩
  have hin2 := hin
  have HIN := hid hin
  clear hin hin2
  go_loopw [69] (fun s wr => wr = wG) (fun _ _ => 0)
  case atStart => rfl
  case round =>
    subst hrel
    go_wp2_with fail
    go_ret
    refine ⟨by rw [HE.out]; rfl, hkp, fun _ => ⟨A, n, c, none, 0, 0, none, 0, 0, none, 0, 0, [], ?_, ?_, hfr, freshA_none _, freshA_none _, freshA_none _, by simp⟩⟩
    · rw [HP.out]; exact HIN.out
    · rw [HP.out]; exact ⟨hslG, nil7 _, nil3 _, nil9 _ _, rfl, by simp⟩
theorem BP.below {w : World} {T : TypeId} {B gl gr : Nat} {cs : Array Value} {e : TypeId} {size n : Nat} {v : Value} {xs : List Value} {rest : List UInt8} {bad : Bool} {wr w' : World} (h : BP w T B gl gr cs e size n v xs rest bad wr) (hb : Below wr.heap.size wr w') : BP w T B gl gr cs e size n v xs rest bad w' :=
  ⟨h.rd.kept (Kept.of_below (S := fun _ => False) hb) (by simp) (by simp), blk_below h.hl hb (blk_lt h.hl), own_below h.own hb, h.kp.then (Kept.of_below (S := fun _ => False) hb) (fun _ _ h => h.elim)⟩
theorem st_hds : ST Try.prog 36 96 7 48 := .mk Try.underlying36 (z := .agg #[.int .i64 0, .int .i64 0, .int .u32 0, .int .u32 0, .int .i64 0, .int .u16 0, .int .i64 0]) (by kernel_rfl) rfl (by omega)
theorem st_kys : ST Try.prog 37 60 3 16 := .mk Try.underlying37 (z := .agg #[.int .i64 0, .int .u32 0, .int .u32 0]) (by kernel_rfl) rfl (by omega)
theorem HD_one (l : List Hdr) : ∀ u ∈ HD l, u.oneCell' = true := by
  intro u hu
  obtain ⟨x, _, hx⟩ := List.mem_flatMap.1 hu
  simp [hdC] at hx
  rcases hx with rfl | rfl | rfl | rfl | rfl | rfl | rfl <;> rfl
theorem KY_one (l : List Ky) : ∀ u ∈ KY l, u.oneCell' = true := by
  intro u hu
  obtain ⟨x, _, hx⟩ := List.mem_flatMap.1 hu
  simp [kyC] at hx
  rcases hx with rfl | rfl | rfl <;> rfl
theorem HD_append (l r : List Hdr) : HD (l ++ r) = HD l ++ HD r := by simp [HD]
theorem KY_append (l r : List Ky) : KY (l ++ r) = KY l ++ KY r := by simp [KY]
set_option maxRecDepth 100000 in
set_option maxHeartbeats 3200000 in
theorem tells_t5
    (ty : Int) (router area : Nat) (s : ByteArray) (B gl g : Nat) (y : List UInt8) (w : World) (hl : w.heap[gl]? = some (.cells (pkC (bareP ty router area s) none 0 0 none 0 0 none 0 0 none 0 0) 40 (0, 0))) (hR : RdP B w g y false) (hBl : B ≤ gl) (hBg : B ≤ g) (hne : gl ≠ g) (hy : y.length ≤ 100000)
    (hk : ty = 5) : Calls Try.prog 48 #[.pointer (some ⟨gl, 0, none⟩), .pointer (some ⟨g, 0, none⟩)] w (TellsPost (bareP ty router area s) y w gl g) := by
  subst hk
  have hgl := blk_lt hl
  have HE : Hid (tellsE y (bareP 5 router area s) = 0) := by show _ = _; unfold tellsE bareP; simp
  have HP : Hid (tellsP y (bareP 5 router area s) = ⟨5, router, area, s, 0, 0, 0, 0, 0, 0, [], 0, 0, headsOf y, [], []⟩) := by
    show _ = _
    have e := tells5 (y := y) (P := bareP 5 router area s) (by simp only [bareP])
    rw [e]
    simp only [bareP]
  obtain ⟨hcl, hfl⟩ := blk_cells hl
  simp only [bareP] at hcl hl
  have hgR := hR.lt
  go_enter Try.func48, Try.ntmps48
  go_upto_region 13 with fail
  obtain ⟨wA, rfl⟩ : ∃ wA : World, wA = w := ⟨_, rfl⟩
  obtain ⟨y0, rfl⟩ : ∃ y0 : List UInt8, y0 = y := ⟨_, rfl⟩
  obtain ⟨s0, rfl⟩ : ∃ s0 : ByteArray, s0 = s := ⟨_, rfl⟩
  obtain ⟨bad0, hbad0⟩ : ∃ b : Bool, b = false := ⟨_, rfl⟩
  rw [← hbad0] at hR
  clear hcl hfl hbad0
  have hIA : BP wA 40 B gl g #[.int .i64 5, .int .u32 (router : Int), .int .u32 (area : Int), .string s0, .int .u32 0, .int .i64 0, .int .i64 0, .int .i64 0, .int .u32 0, .int .u32 0, .slice none 0 0, .int .i64 0, .int .u32 0, .slice none 0 0, .slice none 0 0, .slice none 0 0] 96 7 0 (.slice none 0 0) (HD []) y0 bad0 wA :=
    ⟨hR, hl, World.ownsRow_nil _ _ _ _, Kept.refl _ _⟩
  have hkw := Kept.refl (fun b => b = gl ∨ b = g) wA
  clear hR hl
  go_loopw [69] (fun s wr => ∃ (done : List Hdr) (rest : List UInt8) (bd : Bool) (n : Nat) (A : Option Addr) (c : Nat), BP wA 40 B gl g #[.int .i64 5, .int .u32 (router : Int), .int .u32 (area : Int), .string s0, .int .u32 0, .int .i64 0, .int .i64 0, .int .i64 0, .int .u32 0, .int .u32 0, .slice none 0 0, .int .i64 0, .int .u32 0, .slice A n c, .slice none 0 0, .slice none 0 0] 96 7 n (.slice A n c) (HD done) rest bd wr ∧
      Hid (done ++ headsOf rest = headsOf y0) ∧ n * 20 + rest.length ≤ 100000) (fun _ w' => rdLen g w')
  case atStart => exact ⟨[], y0, bad0, 0, none, 0, hIA, rfl, by omega⟩
  case round =>
    obtain ⟨done, rest, bd, n, A, c, hI, HD0, hn12⟩ := hrel
    clear hIA
    have HR0 := hid hI.rd.len
    obtain ⟨hcl, hfl⟩ := blk_cells hI.hl
    obtain ⟨A', n', c', hcr, hcr1, hn', hslr, hltr⟩ := hI.rd.cell
    have hlt8 := hI.rd.lt
    have HN' := hid hn'
    by_cases h12 : 20 ≤ rest.length
    · have h12' : 20 ≤ n' := by omega
      have HLK := hid (headsOf_yes rest h12)
      clear hn'
      obtain ⟨x0, hx0⟩ : ∃ x0, hdOf rest = x0 := ⟨_, rfl⟩
      have hcx : headC rest = #[.int .i64 x0.age, .int .i64 x0.ty, .int .u32 x0.id, .int .u32 x0.adv, .int .i64 x0.seq, .int .u16 x0.sum, .int .i64 x0.len] := by rw [← hx0]; rfl
      rw [hx0] at HLK
      clear hx0
      go_wp2_with fail
      refine (head_yes A' n' c' rest wr hslr h12').mono ?_
      rintro e w3 ⟨rfl, hb3⟩
      rw [hcx]
      clear hcx hcl hfl hcr hcr1 hslr hltr
      have hI3 := hI.below hb3
      have hownlt := ownF_lt hI3.own
      have hI4 := hI3.below ((Below.refl w3.heap.size w3).alloc (Nat.le_refl _) (.cells #[.int .i64 x0.age, .int .i64 x0.ty, .int .u32 x0.id, .int .u32 x0.adv, .int .i64 x0.seq, .int .u16 x0.sum, .int .i64 x0.len] 96))
      have hgx := heap_alloc_new w3 (.cells #[.int .i64 x0.age, .int .i64 x0.ty, .int .u32 x0.id, .int .u32 x0.adv, .int .i64 x0.seq, .int .u16 x0.sum, .int .i64 x0.len] 96)
      have hz4 : (w3.alloc (.cells #[.int .i64 x0.age, .int .i64 x0.ty, .int .u32 x0.id, .int .u32 x0.adv, .int .i64 x0.seq, .int .u16 x0.sum, .int .i64 x0.len] 96)).heap.size = w3.heap.size + 1 := by simp
      have hgl3 := blk_lt hI3.hl
      have hg3 := hI3.rd.lt
      have hB3 := hI3.kp.size
      clear hI3 hb3 hI
      go_upto_region 15 with fail
      generalize w3.alloc (.cells #[.int .i64 x0.age, .int .i64 x0.ty, .int .u32 x0.id, .int .u32 x0.adv, .int .i64 x0.seq, .int .u16 x0.sum, .int .i64 x0.len] 96) = w4 at *
      obtain ⟨gx, hgxe⟩ : ∃ gx : Nat, gx = w3.heap.size := ⟨_, rfl⟩
      rw [← hgxe] at hgx hz4 ⊢
      have hgxg : gx ≠ g := by omega
      have hgxl : gx ≠ gl := by omega
      have hgx3 : w3.heap.size ≤ gx := by omega
      clear hgxe
      obtain ⟨A5, n5, c5, hb5, hsl5, hlt5⟩ := hI4.rd
      have hn5 := hsl5.len
      have hnn : n5 = n' := by have := HN'.out; omega
      subst hnn
      obtain ⟨b5, off5, rfl, hbl5, _⟩ := hsl5.byte (k := 0) (by omega)
      have hd5 := sl_drop hsl5 20 (by omega)
      obtain ⟨hn5, hnc5, _⟩ := hn5
      have hown := hI4.own
      have hgxlt : gx < w4.heap.size := by omega
      have hg4 : g < w4.heap.size := by omega
      have hgl8 : gl < w4.heap.size := by omega
      have hB8 : wA.heap.size ≤ w4.heap.size := by omega
      have hS0 : ¬ (((False ∨ gx = gl) ∨ Value.ownBlock (.slice A n c) = some gx) ∨ gx = g) := fun hh => by
        rcases hh with ((hh | hh) | hh) | hh
        · exact hh
        · exact hgxl hh
        · have := hownlt _ hh; omega
        · exact hgxg hh
      have hd1 : ∀ b, Value.ownBlock (.slice A n c) = some b → (False ∨ b = gl) → False := by
        rintro b h1 (h2 | h2)
        · exact h2
        · have := (hown.lt b h1).1; omega
      have hd2 : ∀ b, b = g → ((False ∨ b = gl) ∨ Value.ownBlock (.slice A n c) = some b) → False := by
        rintro b h1 ((h2 | h2) | h2)
        · exact h2
        · omega
        · have := (hown.lt b h2).1; omega
      have kx : ∀ (x : WK (fun b => ((False ∨ b = gl) ∨ Value.ownBlock (.slice A n c) = some b) ∨ b = g) w4) j, (wat x).cell? ⟨gx, j, none⟩ = _ := fun x j => (wat_cell (p := ⟨gx, j, none⟩) hgxlt hS0 x).trans ((blk_cells hgx).1 j)
      have kx0 := fun x => kx x 0
      have kx1 := fun x => kx x 1
      have kx2 := fun x => kx x 2
      have kx3 := fun x => kx x 3
      have kx4 := fun x => kx x 4
      have kx5 := fun x => kx x 5
      have kx6 := fun x => kx x 6
      simp at kx0 kx1 kx2 kx3 kx4 kx5 kx6
      clear kx hn5
      obtain ⟨CS, hCS⟩ : ∃ CS : Value → Array Value, CS = fun v => #[.int .i64 5, .int .u32 (router : Int), .int .u32 (area : Int), .string s0, .int .u32 0, .int .i64 0, .int .i64 0, .int .i64 0, .int .u32 0, .int .u32 0, .slice none 0 0, .int .i64 0, .int .u32 0, v, .slice none 0 0, .slice none 0 0] := ⟨_, rfl⟩
      have HCS := hid hCS
      have hhl : w4.heap[gl]? = some (.cells (CS (.slice A n c)) 40 (0, 0)) := by rw [hCS]; exact hI4.hl
      clear hCS
      by_cases hc5 : c5 = 20
      · subst hc5
        obtain rfl : n5 = 20 := by omega
        rw [if_pos rfl, Nat.sub_self] at hd5
        refine wp_region_loud (fun b => ((False ∨ b = gl) ∨ Value.ownBlock (.slice A n c) = some b) ∨ b = g)
          [(5, loadL [100] (.slice A n c) (BlkF gl 40 (CS (.slice A n c)))), (7, rowL [] wA.heap.size 96 7 1 (HD [x0])), (8, rowL [101, 7] wA.heap.size 96 7 (n + 1) (HD (done ++ [x0]))),
           (12, loadL [102] (.slice (some ⟨b5, off5, none⟩) 20 20) (BlkF g 113 #[.slice (some ⟨b5, off5, none⟩) 20 20, .bool bd])),
           (16, factL [5, 8] (fun _ => True) (fun _ S w' => ∃ A' c', BlkF gl 40 (CS (.slice A' (n + 1) c')) S w' ∧ OwnF wA.heap.size 96 7 (n + 1) (HD (done ++ [x0])) (.slice A' (n + 1) c') S w')),
           (19, factL [12] (fun _ => True) (fun _ => BlkF g 113 #[.slice (some ⟨b5, off5, none⟩) 0 0, .bool bd]))]
          (addL 102 (BlkF g 113 #[.slice (some ⟨b5, off5, none⟩) 20 20, .bool bd]) (addL 101 (OwnF wA.heap.size 96 7 n (HD done) (.slice A n c)) (addL 100 (BlkF gl 40 (CS (.slice A n c))) (fun _ => Fact.none)))) (by kernel_rfl) (by kernel_rfl)
          (.cons (loadL_ok _ _ (good_blk _ _ _)) (.cons (rowL_ok _ _ _ _ _ _) (.cons (rowL_ok _ _ _ _ _ _) (.cons (loadL_ok _ _ (good_blk _ _ _)) (.cons (factL_ok ⟨undef, trivial⟩ (fun _ S S' w w' h1 h2 ⟨A', c', h3, h4⟩ => ⟨A', c', good_blk _ _ _ S S' w w' h1 h2 h3, good_own _ _ _ _ _ _ S S' w w' h1 h2 h4⟩)) (.cons (factL_ok ⟨undef, trivial⟩ (fun _ => good_blk _ _ _)) .nil))))))
          (good_add _ (good_blk _ _ _) (good_add _ (good_own _ _ _ _ _ _) (good_add _ (good_blk _ _ _) good_nothing)))
          (sat_add 102 (sat_add 101 (sat_add 100 sat_none (fun b _ h => h) (fun b (hb : b = gl) => by omega) ⟨rfl, hhl⟩) hd1 (ownF_lt hown) (ownF_in hown))
            hd2 (fun b (hb : b = g) => by omega) ⟨rfl, hb5⟩) (WX.out ?_)
        repeat (first | ((first | refine wx_quietU (by rfl) (by rfl) (by rfl) (fun K hK => ?_) | refine wx_quietG (by rfl) (by rfl) (by rfl) (by rfl) (by rfl) (fun K hK => ?_)); go_big_quiet_op; refine hK _ ?_; clear hK K) | ((first | refine wx_skipG (by rfl) (by rfl) (by rfl) (fun K hK => ?_) | refine wx_skipN (by rfl) (by rfl) (by rfl) (fun K hK => ?_)); go_simp; refine hK _ ?_; clear hK K))
        refine wx_loudU (us := [100]) (by rfl) (by rfl) (fun S wS hC hS hU => ?_) (fun v hv K hK => ?_)
        · have hB : BlkF gl 40 (CS (.slice A n c)) S wS := hU 100 (by simp)
          have hB2 := hB
          rw [HCS.out] at hB2
          obtain ⟨hc, hf⟩ := blkF_cells hB2
          exact load_x (by go_simp) (good_blk _ _ _) hB
        obtain rfl := hv; (go_simp; refine hK _ ?_; clear hK K)
        repeat (first | ((first | refine wx_quietU (by rfl) (by rfl) (by rfl) (fun K hK => ?_) | refine wx_quietG (by rfl) (by rfl) (by rfl) (by rfl) (by rfl) (fun K hK => ?_)); go_big_quiet_op; refine hK _ ?_; clear hK K) | ((first | refine wx_skipG (by rfl) (by rfl) (by rfl) (fun K hK => ?_) | refine wx_skipN (by rfl) (by rfl) (by rfl) (fun K hK => ?_)); go_simp; refine hK _ ?_; clear hK K))
        refine wx_loudU (us := []) (by rfl) (by rfl) (fun S wS hC hS hU => ?_) (fun v hv K hK => ?_)
        · exact runs_value (by go_simp <;> rfl) (made_x rfl (Nat.le_trans hB8 hC.size) (by rfl) (by rfl) (by omega) (by omega))
        obtain ⟨A6, c6, rfl⟩ := hv; (go_simp; refine hK _ ?_; clear hK K)
        repeat (first | ((first | refine wx_quietU (by rfl) (by rfl) (by rfl) (fun K hK => ?_) | refine wx_quietG (by rfl) (by rfl) (by rfl) (by rfl) (by rfl) (fun K hK => ?_)); go_big_quiet_op; refine hK _ ?_; clear hK K) | ((first | refine wx_skipG (by rfl) (by rfl) (by rfl) (fun K hK => ?_) | refine wx_skipN (by rfl) (by rfl) (by rfl) (fun K hK => ?_)); go_simp; refine hK _ ?_; clear hK K))
        refine wx_loudU (us := [101, 7]) (by rfl) (by rfl) (fun S wS hC hS hU => ?_) (fun v hv K hK => ?_)
        · exact appS_x (.tmp 102) (.tmp 104) st_hds (by rfl) (by rfl) (by rfl) (hU 101 (by simp)) (own_sl (hU 7 (by simp)).2) (HD_one _) (by simp [maxLen]; omega) (by omega) (Nat.le_trans hB8 hC.size) (HD_append _ _)
        obtain ⟨A7, c7, rfl⟩ := hv; (go_simp; refine hK _ ?_; clear hK K)
        repeat (first | ((first | refine wx_quietU (by rfl) (by rfl) (by rfl) (fun K hK => ?_) | refine wx_quietG (by rfl) (by rfl) (by rfl) (by rfl) (by rfl) (fun K hK => ?_)); go_big_quiet_op; refine hK _ ?_; clear hK K) | ((first | refine wx_skipG (by rfl) (by rfl) (by rfl) (fun K hK => ?_) | refine wx_skipN (by rfl) (by rfl) (by rfl) (fun K hK => ?_)); go_simp; refine hK _ ?_; clear hK K))
        refine wx_loudU (us := [102]) (by rfl) (by rfl) (fun S wS hC hS hU => ?_) (fun v hv K hK => ?_)
        · have hB : BlkF g 113 #[.slice (some ⟨b5, off5, none⟩) 20 20, .bool bd] S wS := hU 102 (by simp)
          obtain ⟨hc, hf⟩ := blkF_cells hB
          exact load_x (by go_simp) (good_blk _ _ _) hB
        obtain rfl := hv; (go_simp; refine hK _ ?_; clear hK K)
        repeat (first | ((first | refine wx_quietU (by rfl) (by rfl) (by rfl) (fun K hK => ?_) | refine wx_quietG (by rfl) (by rfl) (by rfl) (by rfl) (by rfl) (fun K hK => ?_)); go_big_quiet_op; refine hK _ ?_; clear hK K) | ((first | refine wx_skipG (by rfl) (by rfl) (by rfl) (fun K hK => ?_) | refine wx_skipN (by rfl) (by rfl) (by rfl) (fun K hK => ?_)); go_simp; refine hK _ ?_; clear hK K))
        refine wx_loudU (us := [5, 8]) (by rfl) (by rfl) (fun S wS hC hS hU => ?_) (fun v hv K hK => ?_)
        · have hB : BlkF gl 40 (CS (.slice A n c)) S wS := hU 5 (by simp)
          rw [HCS.out] at hB
          have hO : OwnF wA.heap.size 96 7 (n + 1) (HD (done ++ [x0])) (.slice A7 (n + 1) c7) S wS := hU 8 (by simp)
          obtain ⟨hc, hf⟩ := blkF_cells hB
          unfold runs
          go_simp
          have hO9 := ownsRow_kept hO.2 (Kept.setCell (S := fun b => b = gl) (Kept.refl _ wS) (p := ⟨gl, 13, none⟩) (.inl rfl) (.slice A7 (n + 1) c7)) (fun g' hg' => by have := (hO.2.lt g' hg').1; omega)
          have hB9 := blk_set hB.2 13 (.slice A7 (n + 1) c7)
          simp at hB9
          exact ⟨trivial, (Kept.refl _ _).setCell (.inl hB.1) _, A7, c7, ⟨.inl hB.1, by rw [HCS.out]; exact hB9⟩, ⟨fun g' hg' => .inl (hO.1 g' hg'), hO9⟩⟩
        (go_simp; refine hK _ ?_; clear hK K)
        repeat (first | ((first | refine wx_quietU (by rfl) (by rfl) (by rfl) (fun K hK => ?_) | refine wx_quietG (by rfl) (by rfl) (by rfl) (by rfl) (by rfl) (fun K hK => ?_)); go_big_quiet_op; refine hK _ ?_; clear hK K) | ((first | refine wx_skipG (by rfl) (by rfl) (by rfl) (fun K hK => ?_) | refine wx_skipN (by rfl) (by rfl) (by rfl) (fun K hK => ?_)); go_simp; refine hK _ ?_; clear hK K))
        refine wx_loudU (us := [12]) (by rfl) (by rfl) (fun S wS hC hS hU => ?_) (fun v hv K hK => ?_)
        · have hB : BlkF g 113 #[.slice (some ⟨b5, off5, none⟩) 20 20, .bool bd] S wS := hU 12 (by simp)
          obtain ⟨hc, hf⟩ := blkF_cells hB
          unfold runs
          go_simp
          exact ⟨trivial, (Kept.refl _ _).setCell (.inl hB.1) _, .inl hB.1, set_fst hB.2 _⟩
        (go_simp; refine hK _ ?_; clear hK K)
        refine wx_nil fun w9 hsat => ?_
        obtain ⟨S, hS, hfin⟩ := sat_get hsat 16
        obtain ⟨A', c', hb9, ho9⟩ := (hfin : ∃ A' c', BlkF gl 40 (CS (.slice A' (n + 1) c')) S w9 ∧ OwnF wA.heap.size 96 7 (n + 1) (HD (done ++ [x0])) (.slice A' (n + 1) c') S w9)
        rw [HCS.out] at hb9
        obtain ⟨S2, _, hfin2⟩ := sat_get hsat 19
        have hB9 := (hfin2 : BlkF g 113 #[.slice (some ⟨b5, off5, none⟩) 0 0, .bool bd] S2 w9).2
        have hK9 := hsat.1
        have hrd9 : RdP B w9 g (rest.drop 20) bd := ⟨_, _, _, hB9, sl_kept hd5 hK9 (fun ad had hs => by
          injection had with had
          subst had
          have h1 := hlt5 _ rfl
          rcases hs with ((hs | hs) | hs) | hs
          · exact hs
          · simp at hs h1; omega
          · have := (hown.lt _ hs).1; simp at this h1; omega
          · simp at hs h1; omega), fun ad had => by
          injection had with had
          subst had
          have h9 := hlt5 _ rfl
          exact h9⟩
        have hkp9 := hI4.kp.then hsat.1 (fun b hb h => by
          rcases h with ((h | h) | h) | h
          · exact h.elim
          · exact .inl h
          · have := (hown.lt _ h).1; omega
          · exact .inr h)
        have hm9 := hrd9.len
        have HM9 := hid hm9
        clear hm9 hsat hS hfin2 kx0 kx1 kx2 kx3 kx4 kx5 kx6 hgx hd5 hb5 hsl5 hhl
        go_wp2_with fail
        go_light
        refine ⟨⟨done ++ [x0], _, bd, n + 1, A', c', ⟨hrd9, hb9.2, ho9.2, hkp9⟩, ?_, ?_⟩, ?_⟩
        · show _ = _
          rw [← HD0.out, HLK.out]
          simp
        · simp
          omega
        · rw [HM9.out, HR0.out]
          simp
          omega
      · rw [if_neg hc5] at hd5
        simp only [Option.map_some, addr_add] at hd5
        refine wp_region_loud (fun b => ((False ∨ b = gl) ∨ Value.ownBlock (.slice A n c) = some b) ∨ b = g)
          [(5, loadL [100] (.slice A n c) (BlkF gl 40 (CS (.slice A n c)))), (7, rowL [] wA.heap.size 96 7 1 (HD [x0])), (8, rowL [101, 7] wA.heap.size 96 7 (n + 1) (HD (done ++ [x0]))),
           (12, loadL [102] (.slice (some ⟨b5, off5, none⟩) n5 c5) (BlkF g 113 #[.slice (some ⟨b5, off5, none⟩) n5 c5, .bool bd])),
           (16, factL [5, 8] (fun _ => True) (fun _ S w' => ∃ A' c', BlkF gl 40 (CS (.slice A' (n + 1) c')) S w' ∧ OwnF wA.heap.size 96 7 (n + 1) (HD (done ++ [x0])) (.slice A' (n + 1) c') S w')),
           (19, factL [12] (fun _ => True) (fun _ => BlkF g 113 #[.slice (some ⟨b5, off5 + 20, none⟩) (n5 - 20) (c5 - 20), .bool bd]))]
          (addL 102 (BlkF g 113 #[.slice (some ⟨b5, off5, none⟩) n5 c5, .bool bd]) (addL 101 (OwnF wA.heap.size 96 7 n (HD done) (.slice A n c)) (addL 100 (BlkF gl 40 (CS (.slice A n c))) (fun _ => Fact.none)))) (by kernel_rfl) (by kernel_rfl)
          (.cons (loadL_ok _ _ (good_blk _ _ _)) (.cons (rowL_ok _ _ _ _ _ _) (.cons (rowL_ok _ _ _ _ _ _) (.cons (loadL_ok _ _ (good_blk _ _ _)) (.cons (factL_ok ⟨undef, trivial⟩ (fun _ S S' w w' h1 h2 ⟨A', c', h3, h4⟩ => ⟨A', c', good_blk _ _ _ S S' w w' h1 h2 h3, good_own _ _ _ _ _ _ S S' w w' h1 h2 h4⟩)) (.cons (factL_ok ⟨undef, trivial⟩ (fun _ => good_blk _ _ _)) .nil))))))
          (good_add _ (good_blk _ _ _) (good_add _ (good_own _ _ _ _ _ _) (good_add _ (good_blk _ _ _) good_nothing)))
          (sat_add 102 (sat_add 101 (sat_add 100 sat_none (fun b _ h => h) (fun b (hb : b = gl) => by omega) ⟨rfl, hhl⟩) hd1 (ownF_lt hown) (ownF_in hown))
            hd2 (fun b (hb : b = g) => by omega) ⟨rfl, hb5⟩) (WX.out ?_)
        repeat (first | ((first | refine wx_quietU (by rfl) (by rfl) (by rfl) (fun K hK => ?_) | refine wx_quietG (by rfl) (by rfl) (by rfl) (by rfl) (by rfl) (fun K hK => ?_)); go_big_quiet_op; refine hK _ ?_; clear hK K) | ((first | refine wx_skipG (by rfl) (by rfl) (by rfl) (fun K hK => ?_) | refine wx_skipN (by rfl) (by rfl) (by rfl) (fun K hK => ?_)); go_simp; refine hK _ ?_; clear hK K))
        refine wx_loudU (us := [100]) (by rfl) (by rfl) (fun S wS hC hS hU => ?_) (fun v hv K hK => ?_)
        · have hB : BlkF gl 40 (CS (.slice A n c)) S wS := hU 100 (by simp)
          have hB2 := hB
          rw [HCS.out] at hB2
          obtain ⟨hc, hf⟩ := blkF_cells hB2
          exact load_x (by go_simp) (good_blk _ _ _) hB
        obtain rfl := hv; (go_simp; refine hK _ ?_; clear hK K)
        repeat (first | ((first | refine wx_quietU (by rfl) (by rfl) (by rfl) (fun K hK => ?_) | refine wx_quietG (by rfl) (by rfl) (by rfl) (by rfl) (by rfl) (fun K hK => ?_)); go_big_quiet_op; refine hK _ ?_; clear hK K) | ((first | refine wx_skipG (by rfl) (by rfl) (by rfl) (fun K hK => ?_) | refine wx_skipN (by rfl) (by rfl) (by rfl) (fun K hK => ?_)); go_simp; refine hK _ ?_; clear hK K))
        refine wx_loudU (us := []) (by rfl) (by rfl) (fun S wS hC hS hU => ?_) (fun v hv K hK => ?_)
        · exact runs_value (by go_simp <;> rfl) (made_x rfl (Nat.le_trans hB8 hC.size) (by rfl) (by rfl) (by omega) (by omega))
        obtain ⟨A6, c6, rfl⟩ := hv; (go_simp; refine hK _ ?_; clear hK K)
        repeat (first | ((first | refine wx_quietU (by rfl) (by rfl) (by rfl) (fun K hK => ?_) | refine wx_quietG (by rfl) (by rfl) (by rfl) (by rfl) (by rfl) (fun K hK => ?_)); go_big_quiet_op; refine hK _ ?_; clear hK K) | ((first | refine wx_skipG (by rfl) (by rfl) (by rfl) (fun K hK => ?_) | refine wx_skipN (by rfl) (by rfl) (by rfl) (fun K hK => ?_)); go_simp; refine hK _ ?_; clear hK K))
        refine wx_loudU (us := [101, 7]) (by rfl) (by rfl) (fun S wS hC hS hU => ?_) (fun v hv K hK => ?_)
        · exact appS_x (.tmp 102) (.tmp 104) st_hds (by rfl) (by rfl) (by rfl) (hU 101 (by simp)) (own_sl (hU 7 (by simp)).2) (HD_one _) (by simp [maxLen]; omega) (by omega) (Nat.le_trans hB8 hC.size) (HD_append _ _)
        obtain ⟨A7, c7, rfl⟩ := hv; (go_simp; refine hK _ ?_; clear hK K)
        repeat (first | ((first | refine wx_quietU (by rfl) (by rfl) (by rfl) (fun K hK => ?_) | refine wx_quietG (by rfl) (by rfl) (by rfl) (by rfl) (by rfl) (fun K hK => ?_)); go_big_quiet_op; refine hK _ ?_; clear hK K) | ((first | refine wx_skipG (by rfl) (by rfl) (by rfl) (fun K hK => ?_) | refine wx_skipN (by rfl) (by rfl) (by rfl) (fun K hK => ?_)); go_simp; refine hK _ ?_; clear hK K))
        refine wx_loudU (us := [102]) (by rfl) (by rfl) (fun S wS hC hS hU => ?_) (fun v hv K hK => ?_)
        · have hB : BlkF g 113 #[.slice (some ⟨b5, off5, none⟩) n5 c5, .bool bd] S wS := hU 102 (by simp)
          obtain ⟨hc, hf⟩ := blkF_cells hB
          exact load_x (by go_simp) (good_blk _ _ _) hB
        obtain rfl := hv; (go_simp; refine hK _ ?_; clear hK K)
        repeat (first | ((first | refine wx_quietU (by rfl) (by rfl) (by rfl) (fun K hK => ?_) | refine wx_quietG (by rfl) (by rfl) (by rfl) (by rfl) (by rfl) (fun K hK => ?_)); go_big_quiet_op; refine hK _ ?_; clear hK K) | ((first | refine wx_skipG (by rfl) (by rfl) (by rfl) (fun K hK => ?_) | refine wx_skipN (by rfl) (by rfl) (by rfl) (fun K hK => ?_)); go_simp; refine hK _ ?_; clear hK K))
        refine wx_loudU (us := [5, 8]) (by rfl) (by rfl) (fun S wS hC hS hU => ?_) (fun v hv K hK => ?_)
        · have hB : BlkF gl 40 (CS (.slice A n c)) S wS := hU 5 (by simp)
          rw [HCS.out] at hB
          have hO : OwnF wA.heap.size 96 7 (n + 1) (HD (done ++ [x0])) (.slice A7 (n + 1) c7) S wS := hU 8 (by simp)
          obtain ⟨hc, hf⟩ := blkF_cells hB
          unfold runs
          go_simp
          have hO9 := ownsRow_kept hO.2 (Kept.setCell (S := fun b => b = gl) (Kept.refl _ wS) (p := ⟨gl, 13, none⟩) (.inl rfl) (.slice A7 (n + 1) c7)) (fun g' hg' => by have := (hO.2.lt g' hg').1; omega)
          have hB9 := blk_set hB.2 13 (.slice A7 (n + 1) c7)
          simp at hB9
          exact ⟨trivial, (Kept.refl _ _).setCell (.inl hB.1) _, A7, c7, ⟨.inl hB.1, by rw [HCS.out]; exact hB9⟩, ⟨fun g' hg' => .inl (hO.1 g' hg'), hO9⟩⟩
        (go_simp; refine hK _ ?_; clear hK K)
        repeat (first | ((first | refine wx_quietU (by rfl) (by rfl) (by rfl) (fun K hK => ?_) | refine wx_quietG (by rfl) (by rfl) (by rfl) (by rfl) (by rfl) (fun K hK => ?_)); go_big_quiet_op; refine hK _ ?_; clear hK K) | ((first | refine wx_skipG (by rfl) (by rfl) (by rfl) (fun K hK => ?_) | refine wx_skipN (by rfl) (by rfl) (by rfl) (fun K hK => ?_)); go_simp; refine hK _ ?_; clear hK K))
        refine wx_loudU (us := [12]) (by rfl) (by rfl) (fun S wS hC hS hU => ?_) (fun v hv K hK => ?_)
        · have hB : BlkF g 113 #[.slice (some ⟨b5, off5, none⟩) n5 c5, .bool bd] S wS := hU 12 (by simp)
          obtain ⟨hc, hf⟩ := blkF_cells hB
          unfold runs
          go_simp
          exact ⟨trivial, (Kept.refl _ _).setCell (.inl hB.1) _, .inl hB.1, set_fst hB.2 _⟩
        (go_simp; refine hK _ ?_; clear hK K)
        refine wx_nil fun w9 hsat => ?_
        obtain ⟨S, hS, hfin⟩ := sat_get hsat 16
        obtain ⟨A', c', hb9, ho9⟩ := (hfin : ∃ A' c', BlkF gl 40 (CS (.slice A' (n + 1) c')) S w9 ∧ OwnF wA.heap.size 96 7 (n + 1) (HD (done ++ [x0])) (.slice A' (n + 1) c') S w9)
        rw [HCS.out] at hb9
        obtain ⟨S2, _, hfin2⟩ := sat_get hsat 19
        have hB9 := (hfin2 : BlkF g 113 #[.slice (some ⟨b5, off5 + 20, none⟩) (n5 - 20) (c5 - 20), .bool bd] S2 w9).2
        have hK9 := hsat.1
        have hrd9 : RdP B w9 g (rest.drop 20) bd := ⟨_, _, _, hB9, sl_kept hd5 hK9 (fun ad had hs => by
          injection had with had
          subst had
          have h1 := hlt5 _ rfl
          rcases hs with ((hs | hs) | hs) | hs
          · exact hs
          · simp at hs h1; omega
          · have := (hown.lt _ hs).1; simp at this h1; omega
          · simp at hs h1; omega), fun ad had => by
          injection had with had
          subst had
          have h9 := hlt5 _ rfl
          exact h9⟩
        have hkp9 := hI4.kp.then hsat.1 (fun b hb h => by
          rcases h with ((h | h) | h) | h
          · exact h.elim
          · exact .inl h
          · have := (hown.lt _ h).1; omega
          · exact .inr h)
        have hm9 := hrd9.len
        have HM9 := hid hm9
        clear hm9 hsat hS hfin2 kx0 kx1 kx2 kx3 kx4 kx5 kx6 hgx hd5 hb5 hsl5 hhl
        go_wp2_with fail
        go_light
        refine ⟨⟨done ++ [x0], _, bd, n + 1, A', c', ⟨hrd9, hb9.2, ho9.2, hkp9⟩, ?_, ?_⟩, ?_⟩
        · show _ = _
          rw [← HD0.out, HLK.out]
          simp
        · simp
          omega
        · rw [HM9.out, HR0.out]
          simp
          omega
    · have h12' : n' < 20 := by omega
      clear hn'
      have hD := HD0.out
      rw [headsOf_no rest (by omega), List.append_nil] at hD
      have HD2 := hid hD
      have hslo := own_sl hI.own
      have hfr := freshA_own hI.own
      have hkp := hI.kp
      have hin := hid hI.hl
      clear hD hI HD0
      go_wp2_with fail
      go_ret
      refine ⟨by rw [HE.out]; rfl, hkw.then hkp (fun _ _ h => h), fun _ => ⟨none, 0, 0, A, n, c, none, 0, 0, none, 0, 0, [], ?_, ?_, freshA_none _, fun ad had => by have := hfr ad had; have := hkw.size; omega, freshA_none _, freshA_none _, by simp⟩⟩
      · rw [HP.out]; exact hin.out
      · rw [HP.out, ← HD2.out]; exact ⟨nilU _, hslo, nil3 _, nil9 _ _, rfl, by simp⟩
set_option maxRecDepth 100000 in
set_option maxHeartbeats 3200000 in
theorem tells_t2
    (ty : Int) (router area : Nat) (s : ByteArray) (B gl g : Nat) (y : List UInt8) (w : World) (hl : w.heap[gl]? = some (.cells (pkC (bareP ty router area s) none 0 0 none 0 0 none 0 0 none 0 0) 40 (0, 0))) (hR : RdP B w g y false) (hBl : B ≤ gl) (hBg : B ≤ g) (hne : gl ≠ g) (hy : y.length ≤ 100000)
    (hk : ty = 2) : Calls Try.prog 48 #[.pointer (some ⟨gl, 0, none⟩), .pointer (some ⟨g, 0, none⟩)] w (TellsPost (bareP ty router area s) y w gl g) := by
  subst hk
  have hgl := blk_lt hl
  have HE : Hid (tellsE y (bareP 2 router area s) = 0) := by show _ = _; unfold tellsE bareP; simp
  have HP : Hid (tellsP y (bareP 2 router area s) = ⟨2, router, area, s, 0, 0, 0, 0, 0, 0, [], (takeV (takeR y 3) 1 : Nat), takeV (takeR (takeR y 3) 1) 4, headsOf (takeR (takeR (takeR y 3) 1) 4), [], []⟩) := by
    show _ = _
    have e := tells2 (y := y) (P := bareP 2 router area s) (by simp only [bareP])
    rw [e]
    simp only [dataP, bareP]
  obtain ⟨hcl, hfl⟩ := blk_cells hl
  simp only [bareP] at hcl hl
  have hgR := hR.lt
  generalize hb0 : false = bad00 at hR
  clear hb0
  generalize hQ : tellsP y (bareP 2 router area s) = Q at HP
  have HQ := hid hQ
  clear hQ
  generalize hQE : tellsE y (bareP 2 router area s) = QE at HE
  have HQE := hid hQE
  clear hQE
  have HPost : Hid (∀ e w', (e = .returned (.int .i64 QE) ∧ Kept (fun b => b = gl ∨ b = g) w w' ∧
    (QE = 0 → ∃ A1 n1 c1 A2 n2 c2 A3 n3 c3 A4 n4 c4 R, w'.heap[gl]? = some (.cells (pkC Q A1 n1 c1 A2 n2 c2 A3 n3 c3 A4 n4 c4) 40 (0, 0)) ∧ IsPk w' Q A1 n1 c1 A2 n2 c2 A3 n3 c3 A4 n4 c4 R ∧
      FreshA w.heap.size A1 ∧ FreshA w.heap.size A2 ∧ FreshA w.heap.size A3 ∧ FreshA w.heap.size A4 ∧ ∀ r ∈ R, FreshA w.heap.size r.A1 ∧ FreshA w.heap.size r.A2)) → TellsPost (bareP 2 router area s) y w gl g e w') := by
    intro e w' h
    unfold TellsPost
    rw [HQ.out, HQE.out]
    exact h
  clear HQ HQE
  have hy3 := takeR_len y 3
  go_enter Try.func48, Try.ntmps48
  go_wp2_with fail
  refine (takeP_any B g 3 y bad00 _ hR hBg (by omega) (by omega)).mono ?_
  rintro e w1 ⟨rfl, hR1, hg1⟩
  have x1b := takeV_bd y 3 (by omega)
  have y1l := takeR_len y 3
  generalize takeV y 3 = x1 at *
  generalize takeR y 3 = y1 at *
  generalize (bad00 || decide ((y).length < 3)) = bad1 at *
  go_wp2_with fail
  refine (takeP_any B g 1 y1 bad1 _ hR1 hBg (by omega) (by omega)).mono ?_
  rintro e w2 ⟨rfl, hR2, hg2⟩
  have x2b := takeV_bd y1 1 (by omega)
  have y2l := takeR_len y1 1
  generalize takeV y1 1 = x2 at *
  generalize takeR y1 1 = y2 at *
  generalize (bad1 || decide ((y1).length < 1)) = bad2 at *
  replace hg2 := grown_trans hg1 (From.refl _ _) hg2
  go_wp2_with fail
  refine (takeP_any B g 4 y2 bad2 _ hR2 hBg (by omega) (by omega)).mono ?_
  rintro e w3 ⟨rfl, hR3, hg3⟩
  have x3b := takeV_bd y2 4 (by omega)
  have y0l := takeR_len y2 4
  generalize takeV y2 4 = x3 at *
  generalize takeR y2 4 = y0 at *
  generalize (bad2 || decide ((y2).length < 4)) = bad0 at *
  replace hg3 := grown_trans hg2 (From.refl _ _) hg3
  replace hl := blk_grown hl hg3 (by simp; omega)
  have hz3 := hg3.size
  clear hcl hfl hR hR1 hR2 hg1 hg2
  obtain ⟨hcl, hfl⟩ := blk_cells hl
  go_upto_region 13 with fail
  have hbA := blk_set (blk_set hl 11 (.int .i64 (x2 : Int))) 12 (.int .u32 (x3 : Int))
  simp at hbA
  have hKA : Kept (fun b => b = gl) w3 ((w3.setCell ⟨gl, 11, none⟩ (.int .i64 (x2 : Int))).setCell ⟨gl, 12, none⟩ (.int .u32 (x3 : Int))) := Kept.setCell (S := fun b => b = gl) (Kept.setCell (S := fun b => b = gl) (Kept.refl _ w3) (p := ⟨gl, 11, none⟩) (.inl rfl) _) (p := ⟨gl, 12, none⟩) (.inl rfl) _
  have hRA := hR3.kept hKA (Ne.symm hne) (fun b hb => by omega)
  generalize (w3.setCell ⟨gl, 11, none⟩ (.int .i64 (x2 : Int))).setCell ⟨gl, 12, none⟩ (.int .u32 (x3 : Int)) = wA at *
  have hkw : Kept (fun b => b = gl ∨ b = g) w wA := ((Kept.of_row hg3).wider (fun b hb => by injection hb with hb; exact .inr hb)).then hKA (fun b _ hb => .inl hb)
  have hzA := hkw.size
  replace hgl : gl < wA.heap.size := by omega
  replace hgR : g < wA.heap.size := by omega
  obtain ⟨s0, rfl⟩ : ∃ s0 : ByteArray, s0 = s := ⟨_, rfl⟩
  have hy : y0.length ≤ 100000 := by omega
  have hIA : BP wA 40 B gl g #[.int .i64 2, .int .u32 (router : Int), .int .u32 (area : Int), .string s0, .int .u32 0, .int .i64 0, .int .i64 0, .int .i64 0, .int .u32 0, .int .u32 0, .slice none 0 0, .int .i64 (x2 : Int), .int .u32 (x3 : Int), .slice none 0 0, .slice none 0 0, .slice none 0 0] 96 7 0 (.slice none 0 0) (HD []) y0 bad0 wA :=
    ⟨hRA, hbA, World.ownsRow_nil _ _ _ _, Kept.refl _ _⟩
  clear hR3 hl hcl hfl hKA hRA hbA hg3
  go_loopw [69] (fun s wr => ∃ (done : List Hdr) (rest : List UInt8) (bd : Bool) (n : Nat) (A : Option Addr) (c : Nat), BP wA 40 B gl g #[.int .i64 2, .int .u32 (router : Int), .int .u32 (area : Int), .string s0, .int .u32 0, .int .i64 0, .int .i64 0, .int .i64 0, .int .u32 0, .int .u32 0, .slice none 0 0, .int .i64 (x2 : Int), .int .u32 (x3 : Int), .slice A n c, .slice none 0 0, .slice none 0 0] 96 7 n (.slice A n c) (HD done) rest bd wr ∧
      Hid (done ++ headsOf rest = headsOf y0) ∧ n * 20 + rest.length ≤ 100000) (fun _ w' => rdLen g w')
  case atStart => exact ⟨[], y0, bad0, 0, none, 0, hIA, rfl, by omega⟩
  case round =>
    obtain ⟨done, rest, bd, n, A, c, hI, HD0, hn12⟩ := hrel
    clear hIA
    have HR0 := hid hI.rd.len
    obtain ⟨hcl, hfl⟩ := blk_cells hI.hl
    obtain ⟨A', n', c', hcr, hcr1, hn', hslr, hltr⟩ := hI.rd.cell
    have hlt8 := hI.rd.lt
    have HN' := hid hn'
    by_cases h12 : 20 ≤ rest.length
    · have h12' : 20 ≤ n' := by omega
      have HLK := hid (headsOf_yes rest h12)
      clear hn'
      obtain ⟨x0, hx0⟩ : ∃ x0, hdOf rest = x0 := ⟨_, rfl⟩
      have hcx : headC rest = #[.int .i64 x0.age, .int .i64 x0.ty, .int .u32 x0.id, .int .u32 x0.adv, .int .i64 x0.seq, .int .u16 x0.sum, .int .i64 x0.len] := by rw [← hx0]; rfl
      rw [hx0] at HLK
      clear hx0
      go_wp2_with fail
      refine (head_yes A' n' c' rest wr hslr h12').mono ?_
      rintro e w3 ⟨rfl, hb3⟩
      rw [hcx]
      clear hcx hcl hfl hcr hcr1 hslr hltr
      have hI3 := hI.below hb3
      have hownlt := ownF_lt hI3.own
      have hI4 := hI3.below ((Below.refl w3.heap.size w3).alloc (Nat.le_refl _) (.cells #[.int .i64 x0.age, .int .i64 x0.ty, .int .u32 x0.id, .int .u32 x0.adv, .int .i64 x0.seq, .int .u16 x0.sum, .int .i64 x0.len] 96))
      have hgx := heap_alloc_new w3 (.cells #[.int .i64 x0.age, .int .i64 x0.ty, .int .u32 x0.id, .int .u32 x0.adv, .int .i64 x0.seq, .int .u16 x0.sum, .int .i64 x0.len] 96)
      have hz4 : (w3.alloc (.cells #[.int .i64 x0.age, .int .i64 x0.ty, .int .u32 x0.id, .int .u32 x0.adv, .int .i64 x0.seq, .int .u16 x0.sum, .int .i64 x0.len] 96)).heap.size = w3.heap.size + 1 := by simp
      have hgl3 := blk_lt hI3.hl
      have hg3 := hI3.rd.lt
      have hB3 := hI3.kp.size
      clear hI3 hb3 hI
      go_upto_region 15 with fail
      generalize w3.alloc (.cells #[.int .i64 x0.age, .int .i64 x0.ty, .int .u32 x0.id, .int .u32 x0.adv, .int .i64 x0.seq, .int .u16 x0.sum, .int .i64 x0.len] 96) = w4 at *
      obtain ⟨gx, hgxe⟩ : ∃ gx : Nat, gx = w3.heap.size := ⟨_, rfl⟩
      rw [← hgxe] at hgx hz4 ⊢
      have hgxg : gx ≠ g := by omega
      have hgxl : gx ≠ gl := by omega
      have hgx3 : w3.heap.size ≤ gx := by omega
      clear hgxe
      obtain ⟨A5, n5, c5, hb5, hsl5, hlt5⟩ := hI4.rd
      have hn5 := hsl5.len
      have hnn : n5 = n' := by have := HN'.out; omega
      subst hnn
      obtain ⟨b5, off5, rfl, hbl5, _⟩ := hsl5.byte (k := 0) (by omega)
      have hd5 := sl_drop hsl5 20 (by omega)
      obtain ⟨hn5, hnc5, _⟩ := hn5
      have hown := hI4.own
      have hgxlt : gx < w4.heap.size := by omega
      have hg4 : g < w4.heap.size := by omega
      have hgl8 : gl < w4.heap.size := by omega
      have hB8 : wA.heap.size ≤ w4.heap.size := by omega
      have hS0 : ¬ (((False ∨ gx = gl) ∨ Value.ownBlock (.slice A n c) = some gx) ∨ gx = g) := fun hh => by
        rcases hh with ((hh | hh) | hh) | hh
        · exact hh
        · exact hgxl hh
        · have := hownlt _ hh; omega
        · exact hgxg hh
      have hd1 : ∀ b, Value.ownBlock (.slice A n c) = some b → (False ∨ b = gl) → False := by
        rintro b h1 (h2 | h2)
        · exact h2
        · have := (hown.lt b h1).1; omega
      have hd2 : ∀ b, b = g → ((False ∨ b = gl) ∨ Value.ownBlock (.slice A n c) = some b) → False := by
        rintro b h1 ((h2 | h2) | h2)
        · exact h2
        · omega
        · have := (hown.lt b h2).1; omega
      have kx : ∀ (x : WK (fun b => ((False ∨ b = gl) ∨ Value.ownBlock (.slice A n c) = some b) ∨ b = g) w4) j, (wat x).cell? ⟨gx, j, none⟩ = _ := fun x j => (wat_cell (p := ⟨gx, j, none⟩) hgxlt hS0 x).trans ((blk_cells hgx).1 j)
      have kx0 := fun x => kx x 0
      have kx1 := fun x => kx x 1
      have kx2 := fun x => kx x 2
      have kx3 := fun x => kx x 3
      have kx4 := fun x => kx x 4
      have kx5 := fun x => kx x 5
      have kx6 := fun x => kx x 6
      simp at kx0 kx1 kx2 kx3 kx4 kx5 kx6
      clear kx hn5
      obtain ⟨CS, hCS⟩ : ∃ CS : Value → Array Value, CS = fun v => #[.int .i64 2, .int .u32 (router : Int), .int .u32 (area : Int), .string s0, .int .u32 0, .int .i64 0, .int .i64 0, .int .i64 0, .int .u32 0, .int .u32 0, .slice none 0 0, .int .i64 (x2 : Int), .int .u32 (x3 : Int), v, .slice none 0 0, .slice none 0 0] := ⟨_, rfl⟩
      have HCS := hid hCS
      have hhl : w4.heap[gl]? = some (.cells (CS (.slice A n c)) 40 (0, 0)) := by rw [hCS]; exact hI4.hl
      clear hCS
      by_cases hc5 : c5 = 20
      · subst hc5
        obtain rfl : n5 = 20 := by omega
        rw [if_pos rfl, Nat.sub_self] at hd5
        refine wp_region_loud (fun b => ((False ∨ b = gl) ∨ Value.ownBlock (.slice A n c) = some b) ∨ b = g)
          [(5, loadL [100] (.slice A n c) (BlkF gl 40 (CS (.slice A n c)))), (7, rowL [] wA.heap.size 96 7 1 (HD [x0])), (8, rowL [101, 7] wA.heap.size 96 7 (n + 1) (HD (done ++ [x0]))),
           (12, loadL [102] (.slice (some ⟨b5, off5, none⟩) 20 20) (BlkF g 113 #[.slice (some ⟨b5, off5, none⟩) 20 20, .bool bd])),
           (16, factL [5, 8] (fun _ => True) (fun _ S w' => ∃ A' c', BlkF gl 40 (CS (.slice A' (n + 1) c')) S w' ∧ OwnF wA.heap.size 96 7 (n + 1) (HD (done ++ [x0])) (.slice A' (n + 1) c') S w')),
           (19, factL [12] (fun _ => True) (fun _ => BlkF g 113 #[.slice (some ⟨b5, off5, none⟩) 0 0, .bool bd]))]
          (addL 102 (BlkF g 113 #[.slice (some ⟨b5, off5, none⟩) 20 20, .bool bd]) (addL 101 (OwnF wA.heap.size 96 7 n (HD done) (.slice A n c)) (addL 100 (BlkF gl 40 (CS (.slice A n c))) (fun _ => Fact.none)))) (by kernel_rfl) (by kernel_rfl)
          (.cons (loadL_ok _ _ (good_blk _ _ _)) (.cons (rowL_ok _ _ _ _ _ _) (.cons (rowL_ok _ _ _ _ _ _) (.cons (loadL_ok _ _ (good_blk _ _ _)) (.cons (factL_ok ⟨undef, trivial⟩ (fun _ S S' w w' h1 h2 ⟨A', c', h3, h4⟩ => ⟨A', c', good_blk _ _ _ S S' w w' h1 h2 h3, good_own _ _ _ _ _ _ S S' w w' h1 h2 h4⟩)) (.cons (factL_ok ⟨undef, trivial⟩ (fun _ => good_blk _ _ _)) .nil))))))
          (good_add _ (good_blk _ _ _) (good_add _ (good_own _ _ _ _ _ _) (good_add _ (good_blk _ _ _) good_nothing)))
          (sat_add 102 (sat_add 101 (sat_add 100 sat_none (fun b _ h => h) (fun b (hb : b = gl) => by omega) ⟨rfl, hhl⟩) hd1 (ownF_lt hown) (ownF_in hown))
            hd2 (fun b (hb : b = g) => by omega) ⟨rfl, hb5⟩) (WX.out ?_)
        repeat (first | ((first | refine wx_quietU (by rfl) (by rfl) (by rfl) (fun K hK => ?_) | refine wx_quietG (by rfl) (by rfl) (by rfl) (by rfl) (by rfl) (fun K hK => ?_)); go_big_quiet_op; refine hK _ ?_; clear hK K) | ((first | refine wx_skipG (by rfl) (by rfl) (by rfl) (fun K hK => ?_) | refine wx_skipN (by rfl) (by rfl) (by rfl) (fun K hK => ?_)); go_simp; refine hK _ ?_; clear hK K))
        refine wx_loudU (us := [100]) (by rfl) (by rfl) (fun S wS hC hS hU => ?_) (fun v hv K hK => ?_)
        · have hB : BlkF gl 40 (CS (.slice A n c)) S wS := hU 100 (by simp)
          have hB2 := hB
          rw [HCS.out] at hB2
          obtain ⟨hc, hf⟩ := blkF_cells hB2
          exact load_x (by go_simp) (good_blk _ _ _) hB
        obtain rfl := hv; (go_simp; refine hK _ ?_; clear hK K)
        repeat (first | ((first | refine wx_quietU (by rfl) (by rfl) (by rfl) (fun K hK => ?_) | refine wx_quietG (by rfl) (by rfl) (by rfl) (by rfl) (by rfl) (fun K hK => ?_)); go_big_quiet_op; refine hK _ ?_; clear hK K) | ((first | refine wx_skipG (by rfl) (by rfl) (by rfl) (fun K hK => ?_) | refine wx_skipN (by rfl) (by rfl) (by rfl) (fun K hK => ?_)); go_simp; refine hK _ ?_; clear hK K))
        refine wx_loudU (us := []) (by rfl) (by rfl) (fun S wS hC hS hU => ?_) (fun v hv K hK => ?_)
        · exact runs_value (by go_simp <;> rfl) (made_x rfl (Nat.le_trans hB8 hC.size) (by rfl) (by rfl) (by omega) (by omega))
        obtain ⟨A6, c6, rfl⟩ := hv; (go_simp; refine hK _ ?_; clear hK K)
        repeat (first | ((first | refine wx_quietU (by rfl) (by rfl) (by rfl) (fun K hK => ?_) | refine wx_quietG (by rfl) (by rfl) (by rfl) (by rfl) (by rfl) (fun K hK => ?_)); go_big_quiet_op; refine hK _ ?_; clear hK K) | ((first | refine wx_skipG (by rfl) (by rfl) (by rfl) (fun K hK => ?_) | refine wx_skipN (by rfl) (by rfl) (by rfl) (fun K hK => ?_)); go_simp; refine hK _ ?_; clear hK K))
        refine wx_loudU (us := [101, 7]) (by rfl) (by rfl) (fun S wS hC hS hU => ?_) (fun v hv K hK => ?_)
        · exact appS_x (.tmp 102) (.tmp 104) st_hds (by rfl) (by rfl) (by rfl) (hU 101 (by simp)) (own_sl (hU 7 (by simp)).2) (HD_one _) (by simp [maxLen]; omega) (by omega) (Nat.le_trans hB8 hC.size) (HD_append _ _)
        obtain ⟨A7, c7, rfl⟩ := hv; (go_simp; refine hK _ ?_; clear hK K)
        repeat (first | ((first | refine wx_quietU (by rfl) (by rfl) (by rfl) (fun K hK => ?_) | refine wx_quietG (by rfl) (by rfl) (by rfl) (by rfl) (by rfl) (fun K hK => ?_)); go_big_quiet_op; refine hK _ ?_; clear hK K) | ((first | refine wx_skipG (by rfl) (by rfl) (by rfl) (fun K hK => ?_) | refine wx_skipN (by rfl) (by rfl) (by rfl) (fun K hK => ?_)); go_simp; refine hK _ ?_; clear hK K))
        refine wx_loudU (us := [102]) (by rfl) (by rfl) (fun S wS hC hS hU => ?_) (fun v hv K hK => ?_)
        · have hB : BlkF g 113 #[.slice (some ⟨b5, off5, none⟩) 20 20, .bool bd] S wS := hU 102 (by simp)
          obtain ⟨hc, hf⟩ := blkF_cells hB
          exact load_x (by go_simp) (good_blk _ _ _) hB
        obtain rfl := hv; (go_simp; refine hK _ ?_; clear hK K)
        repeat (first | ((first | refine wx_quietU (by rfl) (by rfl) (by rfl) (fun K hK => ?_) | refine wx_quietG (by rfl) (by rfl) (by rfl) (by rfl) (by rfl) (fun K hK => ?_)); go_big_quiet_op; refine hK _ ?_; clear hK K) | ((first | refine wx_skipG (by rfl) (by rfl) (by rfl) (fun K hK => ?_) | refine wx_skipN (by rfl) (by rfl) (by rfl) (fun K hK => ?_)); go_simp; refine hK _ ?_; clear hK K))
        refine wx_loudU (us := [5, 8]) (by rfl) (by rfl) (fun S wS hC hS hU => ?_) (fun v hv K hK => ?_)
        · have hB : BlkF gl 40 (CS (.slice A n c)) S wS := hU 5 (by simp)
          rw [HCS.out] at hB
          have hO : OwnF wA.heap.size 96 7 (n + 1) (HD (done ++ [x0])) (.slice A7 (n + 1) c7) S wS := hU 8 (by simp)
          obtain ⟨hc, hf⟩ := blkF_cells hB
          unfold runs
          go_simp
          have hO9 := ownsRow_kept hO.2 (Kept.setCell (S := fun b => b = gl) (Kept.refl _ wS) (p := ⟨gl, 13, none⟩) (.inl rfl) (.slice A7 (n + 1) c7)) (fun g' hg' => by have := (hO.2.lt g' hg').1; omega)
          have hB9 := blk_set hB.2 13 (.slice A7 (n + 1) c7)
          simp at hB9
          exact ⟨trivial, (Kept.refl _ _).setCell (.inl hB.1) _, A7, c7, ⟨.inl hB.1, by rw [HCS.out]; exact hB9⟩, ⟨fun g' hg' => .inl (hO.1 g' hg'), hO9⟩⟩
        (go_simp; refine hK _ ?_; clear hK K)
        repeat (first | ((first | refine wx_quietU (by rfl) (by rfl) (by rfl) (fun K hK => ?_) | refine wx_quietG (by rfl) (by rfl) (by rfl) (by rfl) (by rfl) (fun K hK => ?_)); go_big_quiet_op; refine hK _ ?_; clear hK K) | ((first | refine wx_skipG (by rfl) (by rfl) (by rfl) (fun K hK => ?_) | refine wx_skipN (by rfl) (by rfl) (by rfl) (fun K hK => ?_)); go_simp; refine hK _ ?_; clear hK K))
        refine wx_loudU (us := [12]) (by rfl) (by rfl) (fun S wS hC hS hU => ?_) (fun v hv K hK => ?_)
        · have hB : BlkF g 113 #[.slice (some ⟨b5, off5, none⟩) 20 20, .bool bd] S wS := hU 12 (by simp)
          obtain ⟨hc, hf⟩ := blkF_cells hB
          unfold runs
          go_simp
          exact ⟨trivial, (Kept.refl _ _).setCell (.inl hB.1) _, .inl hB.1, set_fst hB.2 _⟩
        (go_simp; refine hK _ ?_; clear hK K)
        refine wx_nil fun w9 hsat => ?_
        obtain ⟨S, hS, hfin⟩ := sat_get hsat 16
        obtain ⟨A', c', hb9, ho9⟩ := (hfin : ∃ A' c', BlkF gl 40 (CS (.slice A' (n + 1) c')) S w9 ∧ OwnF wA.heap.size 96 7 (n + 1) (HD (done ++ [x0])) (.slice A' (n + 1) c') S w9)
        rw [HCS.out] at hb9
        obtain ⟨S2, _, hfin2⟩ := sat_get hsat 19
        have hB9 := (hfin2 : BlkF g 113 #[.slice (some ⟨b5, off5, none⟩) 0 0, .bool bd] S2 w9).2
        have hK9 := hsat.1
        have hrd9 : RdP B w9 g (rest.drop 20) bd := ⟨_, _, _, hB9, sl_kept hd5 hK9 (fun ad had hs => by
          injection had with had
          subst had
          have h1 := hlt5 _ rfl
          rcases hs with ((hs | hs) | hs) | hs
          · exact hs
          · simp at hs h1; omega
          · have := (hown.lt _ hs).1; simp at this h1; omega
          · simp at hs h1; omega), fun ad had => by
          injection had with had
          subst had
          have h9 := hlt5 _ rfl
          exact h9⟩
        have hkp9 := hI4.kp.then hsat.1 (fun b hb h => by
          rcases h with ((h | h) | h) | h
          · exact h.elim
          · exact .inl h
          · have := (hown.lt _ h).1; omega
          · exact .inr h)
        have hm9 := hrd9.len
        have HM9 := hid hm9
        clear hm9 hsat hS hfin2 kx0 kx1 kx2 kx3 kx4 kx5 kx6 hgx hd5 hb5 hsl5 hhl
        go_wp2_with fail
        go_light
        refine ⟨⟨done ++ [x0], _, bd, n + 1, A', c', ⟨hrd9, hb9.2, ho9.2, hkp9⟩, ?_, ?_⟩, ?_⟩
        · show _ = _
          rw [← HD0.out, HLK.out]
          simp
        · simp
          omega
        · rw [HM9.out, HR0.out]
          simp
          omega
      · rw [if_neg hc5] at hd5
        simp only [Option.map_some, addr_add] at hd5
        refine wp_region_loud (fun b => ((False ∨ b = gl) ∨ Value.ownBlock (.slice A n c) = some b) ∨ b = g)
          [(5, loadL [100] (.slice A n c) (BlkF gl 40 (CS (.slice A n c)))), (7, rowL [] wA.heap.size 96 7 1 (HD [x0])), (8, rowL [101, 7] wA.heap.size 96 7 (n + 1) (HD (done ++ [x0]))),
           (12, loadL [102] (.slice (some ⟨b5, off5, none⟩) n5 c5) (BlkF g 113 #[.slice (some ⟨b5, off5, none⟩) n5 c5, .bool bd])),
           (16, factL [5, 8] (fun _ => True) (fun _ S w' => ∃ A' c', BlkF gl 40 (CS (.slice A' (n + 1) c')) S w' ∧ OwnF wA.heap.size 96 7 (n + 1) (HD (done ++ [x0])) (.slice A' (n + 1) c') S w')),
           (19, factL [12] (fun _ => True) (fun _ => BlkF g 113 #[.slice (some ⟨b5, off5 + 20, none⟩) (n5 - 20) (c5 - 20), .bool bd]))]
          (addL 102 (BlkF g 113 #[.slice (some ⟨b5, off5, none⟩) n5 c5, .bool bd]) (addL 101 (OwnF wA.heap.size 96 7 n (HD done) (.slice A n c)) (addL 100 (BlkF gl 40 (CS (.slice A n c))) (fun _ => Fact.none)))) (by kernel_rfl) (by kernel_rfl)
          (.cons (loadL_ok _ _ (good_blk _ _ _)) (.cons (rowL_ok _ _ _ _ _ _) (.cons (rowL_ok _ _ _ _ _ _) (.cons (loadL_ok _ _ (good_blk _ _ _)) (.cons (factL_ok ⟨undef, trivial⟩ (fun _ S S' w w' h1 h2 ⟨A', c', h3, h4⟩ => ⟨A', c', good_blk _ _ _ S S' w w' h1 h2 h3, good_own _ _ _ _ _ _ S S' w w' h1 h2 h4⟩)) (.cons (factL_ok ⟨undef, trivial⟩ (fun _ => good_blk _ _ _)) .nil))))))
          (good_add _ (good_blk _ _ _) (good_add _ (good_own _ _ _ _ _ _) (good_add _ (good_blk _ _ _) good_nothing)))
          (sat_add 102 (sat_add 101 (sat_add 100 sat_none (fun b _ h => h) (fun b (hb : b = gl) => by omega) ⟨rfl, hhl⟩) hd1 (ownF_lt hown) (ownF_in hown))
            hd2 (fun b (hb : b = g) => by omega) ⟨rfl, hb5⟩) (WX.out ?_)
        repeat (first | ((first | refine wx_quietU (by rfl) (by rfl) (by rfl) (fun K hK => ?_) | refine wx_quietG (by rfl) (by rfl) (by rfl) (by rfl) (by rfl) (fun K hK => ?_)); go_big_quiet_op; refine hK _ ?_; clear hK K) | ((first | refine wx_skipG (by rfl) (by rfl) (by rfl) (fun K hK => ?_) | refine wx_skipN (by rfl) (by rfl) (by rfl) (fun K hK => ?_)); go_simp; refine hK _ ?_; clear hK K))
        refine wx_loudU (us := [100]) (by rfl) (by rfl) (fun S wS hC hS hU => ?_) (fun v hv K hK => ?_)
        · have hB : BlkF gl 40 (CS (.slice A n c)) S wS := hU 100 (by simp)
          have hB2 := hB
          rw [HCS.out] at hB2
          obtain ⟨hc, hf⟩ := blkF_cells hB2
          exact load_x (by go_simp) (good_blk _ _ _) hB
        obtain rfl := hv; (go_simp; refine hK _ ?_; clear hK K)
        repeat (first | ((first | refine wx_quietU (by rfl) (by rfl) (by rfl) (fun K hK => ?_) | refine wx_quietG (by rfl) (by rfl) (by rfl) (by rfl) (by rfl) (fun K hK => ?_)); go_big_quiet_op; refine hK _ ?_; clear hK K) | ((first | refine wx_skipG (by rfl) (by rfl) (by rfl) (fun K hK => ?_) | refine wx_skipN (by rfl) (by rfl) (by rfl) (fun K hK => ?_)); go_simp; refine hK _ ?_; clear hK K))
        refine wx_loudU (us := []) (by rfl) (by rfl) (fun S wS hC hS hU => ?_) (fun v hv K hK => ?_)
        · exact runs_value (by go_simp <;> rfl) (made_x rfl (Nat.le_trans hB8 hC.size) (by rfl) (by rfl) (by omega) (by omega))
        obtain ⟨A6, c6, rfl⟩ := hv; (go_simp; refine hK _ ?_; clear hK K)
        repeat (first | ((first | refine wx_quietU (by rfl) (by rfl) (by rfl) (fun K hK => ?_) | refine wx_quietG (by rfl) (by rfl) (by rfl) (by rfl) (by rfl) (fun K hK => ?_)); go_big_quiet_op; refine hK _ ?_; clear hK K) | ((first | refine wx_skipG (by rfl) (by rfl) (by rfl) (fun K hK => ?_) | refine wx_skipN (by rfl) (by rfl) (by rfl) (fun K hK => ?_)); go_simp; refine hK _ ?_; clear hK K))
        refine wx_loudU (us := [101, 7]) (by rfl) (by rfl) (fun S wS hC hS hU => ?_) (fun v hv K hK => ?_)
        · exact appS_x (.tmp 102) (.tmp 104) st_hds (by rfl) (by rfl) (by rfl) (hU 101 (by simp)) (own_sl (hU 7 (by simp)).2) (HD_one _) (by simp [maxLen]; omega) (by omega) (Nat.le_trans hB8 hC.size) (HD_append _ _)
        obtain ⟨A7, c7, rfl⟩ := hv; (go_simp; refine hK _ ?_; clear hK K)
        repeat (first | ((first | refine wx_quietU (by rfl) (by rfl) (by rfl) (fun K hK => ?_) | refine wx_quietG (by rfl) (by rfl) (by rfl) (by rfl) (by rfl) (fun K hK => ?_)); go_big_quiet_op; refine hK _ ?_; clear hK K) | ((first | refine wx_skipG (by rfl) (by rfl) (by rfl) (fun K hK => ?_) | refine wx_skipN (by rfl) (by rfl) (by rfl) (fun K hK => ?_)); go_simp; refine hK _ ?_; clear hK K))
        refine wx_loudU (us := [102]) (by rfl) (by rfl) (fun S wS hC hS hU => ?_) (fun v hv K hK => ?_)
        · have hB : BlkF g 113 #[.slice (some ⟨b5, off5, none⟩) n5 c5, .bool bd] S wS := hU 102 (by simp)
          obtain ⟨hc, hf⟩ := blkF_cells hB
          exact load_x (by go_simp) (good_blk _ _ _) hB
        obtain rfl := hv; (go_simp; refine hK _ ?_; clear hK K)
        repeat (first | ((first | refine wx_quietU (by rfl) (by rfl) (by rfl) (fun K hK => ?_) | refine wx_quietG (by rfl) (by rfl) (by rfl) (by rfl) (by rfl) (fun K hK => ?_)); go_big_quiet_op; refine hK _ ?_; clear hK K) | ((first | refine wx_skipG (by rfl) (by rfl) (by rfl) (fun K hK => ?_) | refine wx_skipN (by rfl) (by rfl) (by rfl) (fun K hK => ?_)); go_simp; refine hK _ ?_; clear hK K))
        refine wx_loudU (us := [5, 8]) (by rfl) (by rfl) (fun S wS hC hS hU => ?_) (fun v hv K hK => ?_)
        · have hB : BlkF gl 40 (CS (.slice A n c)) S wS := hU 5 (by simp)
          rw [HCS.out] at hB
          have hO : OwnF wA.heap.size 96 7 (n + 1) (HD (done ++ [x0])) (.slice A7 (n + 1) c7) S wS := hU 8 (by simp)
          obtain ⟨hc, hf⟩ := blkF_cells hB
          unfold runs
          go_simp
          have hO9 := ownsRow_kept hO.2 (Kept.setCell (S := fun b => b = gl) (Kept.refl _ wS) (p := ⟨gl, 13, none⟩) (.inl rfl) (.slice A7 (n + 1) c7)) (fun g' hg' => by have := (hO.2.lt g' hg').1; omega)
          have hB9 := blk_set hB.2 13 (.slice A7 (n + 1) c7)
          simp at hB9
          exact ⟨trivial, (Kept.refl _ _).setCell (.inl hB.1) _, A7, c7, ⟨.inl hB.1, by rw [HCS.out]; exact hB9⟩, ⟨fun g' hg' => .inl (hO.1 g' hg'), hO9⟩⟩
        (go_simp; refine hK _ ?_; clear hK K)
        repeat (first | ((first | refine wx_quietU (by rfl) (by rfl) (by rfl) (fun K hK => ?_) | refine wx_quietG (by rfl) (by rfl) (by rfl) (by rfl) (by rfl) (fun K hK => ?_)); go_big_quiet_op; refine hK _ ?_; clear hK K) | ((first | refine wx_skipG (by rfl) (by rfl) (by rfl) (fun K hK => ?_) | refine wx_skipN (by rfl) (by rfl) (by rfl) (fun K hK => ?_)); go_simp; refine hK _ ?_; clear hK K))
        refine wx_loudU (us := [12]) (by rfl) (by rfl) (fun S wS hC hS hU => ?_) (fun v hv K hK => ?_)
        · have hB : BlkF g 113 #[.slice (some ⟨b5, off5, none⟩) n5 c5, .bool bd] S wS := hU 12 (by simp)
          obtain ⟨hc, hf⟩ := blkF_cells hB
          unfold runs
          go_simp
          exact ⟨trivial, (Kept.refl _ _).setCell (.inl hB.1) _, .inl hB.1, set_fst hB.2 _⟩
        (go_simp; refine hK _ ?_; clear hK K)
        refine wx_nil fun w9 hsat => ?_
        obtain ⟨S, hS, hfin⟩ := sat_get hsat 16
        obtain ⟨A', c', hb9, ho9⟩ := (hfin : ∃ A' c', BlkF gl 40 (CS (.slice A' (n + 1) c')) S w9 ∧ OwnF wA.heap.size 96 7 (n + 1) (HD (done ++ [x0])) (.slice A' (n + 1) c') S w9)
        rw [HCS.out] at hb9
        obtain ⟨S2, _, hfin2⟩ := sat_get hsat 19
        have hB9 := (hfin2 : BlkF g 113 #[.slice (some ⟨b5, off5 + 20, none⟩) (n5 - 20) (c5 - 20), .bool bd] S2 w9).2
        have hK9 := hsat.1
        have hrd9 : RdP B w9 g (rest.drop 20) bd := ⟨_, _, _, hB9, sl_kept hd5 hK9 (fun ad had hs => by
          injection had with had
          subst had
          have h1 := hlt5 _ rfl
          rcases hs with ((hs | hs) | hs) | hs
          · exact hs
          · simp at hs h1; omega
          · have := (hown.lt _ hs).1; simp at this h1; omega
          · simp at hs h1; omega), fun ad had => by
          injection had with had
          subst had
          have h9 := hlt5 _ rfl
          exact h9⟩
        have hkp9 := hI4.kp.then hsat.1 (fun b hb h => by
          rcases h with ((h | h) | h) | h
          · exact h.elim
          · exact .inl h
          · have := (hown.lt _ h).1; omega
          · exact .inr h)
        have hm9 := hrd9.len
        have HM9 := hid hm9
        clear hm9 hsat hS hfin2 kx0 kx1 kx2 kx3 kx4 kx5 kx6 hgx hd5 hb5 hsl5 hhl
        go_wp2_with fail
        go_light
        refine ⟨⟨done ++ [x0], _, bd, n + 1, A', c', ⟨hrd9, hb9.2, ho9.2, hkp9⟩, ?_, ?_⟩, ?_⟩
        · show _ = _
          rw [← HD0.out, HLK.out]
          simp
        · simp
          omega
        · rw [HM9.out, HR0.out]
          simp
          omega
    · have h12' : n' < 20 := by omega
      clear hn'
      have hD := HD0.out
      rw [headsOf_no rest (by omega), List.append_nil] at hD
      have HD2 := hid hD
      have hslo := own_sl hI.own
      have hfr := freshA_own hI.own
      have hkp := hI.kp
      have hin := hid hI.hl
      clear hD hI HD0
      go_wp2_with fail
      go_ret
      refine HPost.out _ _ ⟨by rw [HE.out]; rfl, hkw.then hkp (fun _ _ h => h), fun _ => ⟨none, 0, 0, A, n, c, none, 0, 0, none, 0, 0, [], ?_, ?_, freshA_none _, fun ad had => by have := hfr ad had; have := hkw.size; omega, freshA_none _, freshA_none _, by simp⟩⟩
      · rw [HP.out]; exact hin.out
      · rw [HP.out, ← HD2.out]; exact ⟨nilU _, hslo, nil3 _, nil9 _ _, rfl, by simp⟩
end Go.Proofs.Ytgopkpogakjckaa
namespace Go.Proofs.Ytgopkpogakjckaa
set_option linter.unusedVariables false
set_option linter.unusedSimpArgs false
open Go Go.RowKit SM LM PK

set_option maxRecDepth 100000 in
set_option maxHeartbeats 1600000 in
theorem tells_t0
    (ty : Int) (router area : Nat) (s : ByteArray) (B gl g : Nat) (y : List UInt8) (w : World) (hl : w.heap[gl]? = some (.cells (pkC (bareP ty router area s) none 0 0 none 0 0 none 0 0 none 0 0) 40 (0, 0))) (hR : RdP B w g y false) (hBl : B ≤ gl) (hBg : B ≤ g) (hne : gl ≠ g) (hy : y.length ≤ 100000)
    (hk : ty < 1 ∨ 5 < ty) : Calls Try.prog 48 #[.pointer (some ⟨gl, 0, none⟩), .pointer (some ⟨g, 0, none⟩)] w (TellsPost (bareP ty router area s) y w gl g) := by
  have hgl := blk_lt hl
  have HE : Hid (tellsE y (bareP ty router area s) = 0) := by show _ = _; unfold tellsE bareP; simp; omega
  have HP : Hid (tellsP y (bareP ty router area s) = bareP ty router area s) := tells0 (y := y) (P := bareP ty router area s) hk
  obtain ⟨hcl, hfl⟩ := blk_cells hl
  have HIN := hid hl
  simp only [bareP] at hcl
  clear hl
  have t1 : (ty == 1) = false := by rw [beq_eq_false_iff_ne]; omega
  have t2 : (ty == 2) = false := by rw [beq_eq_false_iff_ne]; omega
  have t3 : (ty == 3) = false := by rw [beq_eq_false_iff_ne]; omega
  have t4 : (ty == 4) = false := by rw [beq_eq_false_iff_ne]; omega
  have t5 : (ty == 5) = false := by rw [beq_eq_false_iff_ne]; omega
  clear hk
  go_enter Try.func48, Try.ntmps48
  go_wp2_with fail
  go_loopw [69] (fun s wr => w = wr) (fun _ _ => 0)
  case atStart => rfl
  case round =>
    subst hrel
    go_wp2_with fail
    go_ret
    refine ⟨by rw [HE.out]; rfl, Kept.refl _ _, fun _ => ⟨none, 0, 0, none, 0, 0, none, 0, 0, none, 0, 0, [], ?_, ?_, freshA_none _, freshA_none _, freshA_none _, freshA_none _, by simp⟩⟩
    · rw [HP.out]; exact HIN.out
    · rw [HP.out]; exact ⟨nilU _, nil7 _, nil3 _, nil9 _ _, rfl, by simp [bareP]⟩
set_option maxRecDepth 100000 in
set_option maxHeartbeats 1600000 in
theorem tells_t4
    (ty : Int) (router area : Nat) (s : ByteArray) (B gl g : Nat) (y : List UInt8) (w : World) (hl : w.heap[gl]? = some (.cells (pkC (bareP ty router area s) none 0 0 none 0 0 none 0 0 none 0 0) 40 (0, 0))) (hR : RdP B w g y false) (hBl : B ≤ gl) (hBg : B ≤ g) (hne : gl ≠ g) (hy : y.length ≤ 100000)
    (hk : ty = 4) : Calls Try.prog 48 #[.pointer (some ⟨gl, 0, none⟩), .pointer (some ⟨g, 0, none⟩)] w (TellsPost (bareP ty router area s) y w gl g) := by
  subst hk
  have hgl := blk_lt hl
  have HE : Hid (tellsE y (bareP 4 router area s) = lsasE y) := by show _ = _; unfold tellsE bareP; simp
  have HP : Hid (tellsP y (bareP 4 router area s) = ⟨4, router, area, s, 0, 0, 0, 0, 0, 0, [], 0, 0, [], [], (lsasOf (nv y 4) (y.drop 4)).2⟩) := by
    show _ = _
    have e := tells4 (y := y) (P := bareP 4 router area s) (by simp only [bareP])
    rw [e]
    simp only [bareP]
  have hEb : -9223372036854775808 ≤ lsasE y ∧ lsasE y ≤ 9223372036854775807 := by
    have hg : ∀ l, 0 ≤ getE l ∧ getE l ≤ 8 := fun l => by unfold getE; split <;> (try split) <;> (try split) <;> omega
    have hs : ∀ n l, 0 ≤ (lsasOf n l).1 ∧ (lsasOf n l).1 ≤ 8 := by
      intro n
      induction n with
      | zero => intro l; simp [lsasOf]
      | succ n ih =>
        intro l
        unfold lsasOf
        split
        · simp
        · split
          · exact hg _
          · exact ih _
    unfold lsasE
    split
    · omega
    · have := hs (nv y 4) (y.drop 4); omega
  obtain ⟨hcl, hfl⟩ := blk_cells hl
  simp only [bareP] at hcl hl
  generalize hQ : tellsP y (bareP 4 router area s) = Q at HP
  have HQ := hid hQ
  clear hQ
  generalize hQE : tellsE y (bareP 4 router area s) = QE at HE
  have HQE := hid hQE
  clear hQE
  have hPost : ∀ e w', (e = .returned (.int .i64 QE) ∧ Kept (fun b => b = gl ∨ b = g) w w' ∧
    (QE = 0 → ∃ A1 n1 c1 A2 n2 c2 A3 n3 c3 A4 n4 c4 R, w'.heap[gl]? = some (.cells (pkC Q A1 n1 c1 A2 n2 c2 A3 n3 c3 A4 n4 c4) 40 (0, 0)) ∧ IsPk w' Q A1 n1 c1 A2 n2 c2 A3 n3 c3 A4 n4 c4 R ∧
      FreshA w.heap.size A1 ∧ FreshA w.heap.size A2 ∧ FreshA w.heap.size A3 ∧ FreshA w.heap.size A4 ∧ ∀ r ∈ R, FreshA w.heap.size r.A1 ∧ FreshA w.heap.size r.A2)) → TellsPost (bareP 4 router area s) y w gl g e w' := by
    intro e w' h
    unfold TellsPost
    rw [HQ.out, HQE.out]
    exact h
  have HPost := hid hPost
  clear HQ HQE hPost
  go_enter Try.func48, Try.ntmps48
  go_wp2_with fail
  refine (rlsas_any B g y w hR hBg hy).mono ?_
  rintro e w1 ⟨A, n, c, rfl, hgr, hok⟩
  replace hl := blk_grown hl hgr (by simp; omega)
  have HOK := hid hok
  clear hcl hfl hok
  obtain ⟨hcl, hfl⟩ := blk_cells hl
  generalize lsasE y = E at *
  go_upto_region 13 with fail
  have hin := blk_set hl 15 (.slice A n c)
  simp at hin
  have hgG := grown_set w1 gl 15 (.slice A n c)
  generalize w1.setCell ⟨gl, 15, none⟩ (.slice A n c) = wG at *
  clear hcl hfl hl
  obtain ⟨hcl, hfl⟩ := blk_cells hin
  have hz1 := hgr.size
  have hkp : Kept (fun b => b = gl ∨ b = g) w wG := ⟨hgG.os.trans hgr.os, hgG.tape.trans hgr.tape, hgG.output.trans hgr.output, Nat.le_trans hz1 hgG.size, fun b hb hn => (hgG.block b (by omega) (by simp; omega)).trans (hgr.block b hb (by simp; omega))⟩
  have HIN := hid hin
  clear hin
  go_loopw [69] (fun s wr => wG = wr) (fun _ _ => 0)
  case atStart => rfl
  case round =>
    subst hrel
    go_wp2_with fail
    go_ret
    refine HPost.out _ _ ⟨by rw [HE.out]; rfl, hkp, fun hE0 => ?_⟩
    rw [HE.out] at hE0
    obtain ⟨P, hP, hsl, hfA, hea⟩ := HOK.out hE0
    have hkG : Kept (fun b => b = gl) w1 wG := Kept.of_grown hgG (fun b hb => by injection hb with hb; exact hb.symm)
    have hzip : (P.map Prod.fst).zip (P.map Prod.snd) = P := by
      rw [List.zip_map']
      simp
    refine ⟨none, 0, 0, none, 0, 0, none, 0, 0, A, n, c, P.map Prod.snd, ?_, ?_, freshA_none _, freshA_none _, freshA_none _, hfA, ?_⟩
    · rw [HP.out]; exact HIN.out
    · rw [HP.out, hP]
      refine ⟨nilU _, nil7 _, nil3 _, ?_, by simp, ?_⟩
      · simp only
        rw [hzip]
        exact sl_kept hsl hkG (fun ad had hb => by have := hfA ad had; omega)
      · simp only
        rw [hzip]
        intro p hp
        obtain ⟨e1, e2, e3⟩ := hea p hp
        exact ⟨sl_kept e1.links hkG (fun ad had hb => by have := e2 ad had; omega), sl_kept e1.routers hkG (fun ad had hb => by have := e3 ad had; omega)⟩
    · intro r hr
      obtain ⟨p, hp, rfl⟩ := List.mem_map.1 hr
      obtain ⟨_, e2, e3⟩ := hea p hp
      exact ⟨e2, e3⟩
set_option maxRecDepth 100000 in
set_option maxHeartbeats 3200000 in
theorem tells_t3
    (ty : Int) (router area : Nat) (s : ByteArray) (B gl g : Nat) (y : List UInt8) (w : World) (hl : w.heap[gl]? = some (.cells (pkC (bareP ty router area s) none 0 0 none 0 0 none 0 0 none 0 0) 40 (0, 0))) (hR : RdP B w g y false) (hBl : B ≤ gl) (hBg : B ≤ g) (hne : gl ≠ g) (hy : y.length ≤ 100000)
    (hk : ty = 3) : Calls Try.prog 48 #[.pointer (some ⟨gl, 0, none⟩), .pointer (some ⟨g, 0, none⟩)] w (TellsPost (bareP ty router area s) y w gl g) := by
  subst hk
  have hgl := blk_lt hl
  have HE : Hid (tellsE y (bareP 3 router area s) = 0) := by show _ = _; unfold tellsE bareP; simp
  have HP : Hid (tellsP y (bareP 3 router area s) = ⟨3, router, area, s, 0, 0, 0, 0, 0, 0, [], 0, 0, [], keysOf y, []⟩) := by
    show _ = _
    have e := tells3 (y := y) (P := bareP 3 router area s) (by simp only [bareP])
    rw [e]
    simp only [bareP]
  simp only [bareP] at hl
  have hgR := hR.lt
  generalize hb0 : false = bad0 at hR
  clear hb0
  have hI0 : BP w 40 B gl g #[.int .i64 3, .int .u32 (router : Int), .int .u32 (area : Int), .string s, .int .u32 0, .int .i64 0, .int .i64 0, .int .i64 0, .int .u32 0, .int .u32 0, .slice none 0 0, .int .i64 0, .int .u32 0, .slice none 0 0, .slice none 0 0, .slice none 0 0] 60 3 0 (.slice none 0 0) (KY []) y bad0 w :=
    ⟨hR, hl, World.ownsRow_nil _ _ _ _, Kept.refl _ _⟩
  obtain ⟨hcl, hfl⟩ := blk_cells hl
  clear hR hl
  go_enter Try.func48, Try.ntmps48
  go_upto_region 9 with fail
  clear hcl hfl
  go_loopw [36] (fun s' wr => ∃ (done : List Ky) (rest : List UInt8) (bd : Bool) (n : Nat) (A : Option Addr) (c : Nat), BP w 40 B gl g #[.int .i64 3, .int .u32 (router : Int), .int .u32 (area : Int), .string s, .int .u32 0, .int .i64 0, .int .i64 0, .int .i64 0, .int .u32 0, .int .u32 0, .slice none 0 0, .int .i64 0, .int .u32 0, .slice none 0 0, .slice A n c, .slice none 0 0] 60 3 n (.slice A n c) (KY done) rest bd wr ∧
      Hid (done ++ keysOf rest = keysOf y) ∧ n * 12 + rest.length ≤ 100000) (fun _ w' => rdLen g w')
  case atStart => exact ⟨[], y, bad0, 0, none, 0, hI0, rfl, by omega⟩
  case round =>
    obtain ⟨done, rest, bd, n, A, c, hI, HD0, hn12⟩ := hrel
    clear hI0
    have HR0 := hid hI.rd.len
    obtain ⟨hcl, hfl⟩ := blk_cells hI.hl
    obtain ⟨A', n', c', hcr, hcr1, hn', hslr, hltr⟩ := hI.rd.cell
    have hlt8 := hI.rd.lt
    have HN' := hid hn'
    by_cases h12 : 12 ≤ rest.length
    · have h12' : 12 ≤ n' := by omega
      have HLK := hid (keysOf_yes rest h12)
      have V0 := hid (show takeV rest 4 = nv rest 4 by unfold takeV; rw [if_neg (by omega)])
      have V1 := hid (show takeV (rest.drop 4) 4 = nv (rest.drop 4) 4 by unfold takeV; rw [if_neg (by rw [List.length_drop]; omega)])
      have V2 := hid (show takeV (rest.drop 8) 4 = nv (rest.drop 8) 4 by unfold takeV; rw [if_neg (by rw [List.length_drop]; omega)])
      have R0 := hid (show takeR rest 4 = rest.drop 4 by unfold takeR; rw [if_neg (by omega)])
      have R1 := hid (show takeR (rest.drop 4) 4 = rest.drop 8 by unfold takeR; rw [if_neg (by rw [List.length_drop]; omega), List.drop_drop])
      have R2 := hid (show takeR (rest.drop 8) 4 = rest.drop 12 by unfold takeR; rw [if_neg (by rw [List.length_drop]; omega), List.drop_drop])
      have B0 : Hid ((bd || decide (rest.length < 4)) = bd) := by show _ = _; simp; omega
      have B1 : Hid ((bd || decide ((rest.drop 4).length < 4)) = bd) := by show _ = _; simp; omega
      have B2 : Hid ((bd || decide ((rest.drop 8).length < 4)) = bd) := by show _ = _; simp; omega
      have b0 := nv_bd rest 4 (by omega)
      have b1 := nv_bd (rest.drop 4) 4 (by omega)
      have b2 := nv_bd (rest.drop 8) 4 (by omega)
      clear hn' hslr hltr
      generalize nv rest 4 = a0 at *
      generalize nv (rest.drop 4) 4 = a1 at *
      generalize nv (rest.drop 8) 4 = a2 at *
      go_upto_region 10 with fail
      clear hcl hfl hcr hcr1
      have hown := hI.own
      have hgl8 : gl < wr.heap.size := (Array.getElem?_eq_some_iff.1 hI.hl).1
      have hB8 := hI.kp.size
      have hSB : ∀ b, b < B → ¬ ((((False ∨ b = gl) ∨ Value.ownBlock (.slice A n c) = some b)) ∨ b = g) := fun b hb h => by
        rcases h with ((h | h) | h) | h
        · exact h
        · omega
        · have := (hown.lt _ h).1; omega
        · omega
      have hd1 : ∀ b, Value.ownBlock (.slice A n c) = some b → (False ∨ b = gl) → False := by
        rintro b h1 (h2 | h2)
        · exact h2
        · have := (hown.lt b h1).1; omega
      have hd2 : ∀ b, b = g → ((False ∨ b = gl) ∨ Value.ownBlock (.slice A n c) = some b) → False := by
        rintro b h1 ((h2 | h2) | h2)
        · exact h2
        · omega
        · have := (hown.lt b h2).1; omega
      obtain ⟨CS, hCS⟩ : ∃ CS : Value → Array Value, CS = fun v => #[.int .i64 3, .int .u32 (router : Int), .int .u32 (area : Int), .string s, .int .u32 0, .int .i64 0, .int .i64 0, .int .i64 0, .int .u32 0, .int .u32 0, .slice none 0 0, .int .i64 0, .int .u32 0, .slice none 0 0, v, .slice none 0 0] := ⟨_, rfl⟩
      have HCS := hid hCS
      have hhl : wr.heap[gl]? = some (.cells (CS (.slice A n c)) 40 (0, 0)) := by rw [hCS]; exact hI.hl
      clear hCS
      refine wp_region_loud (fun b => ((False ∨ b = gl) ∨ Value.ownBlock (.slice A n c) = some b) ∨ b = g)
        [(4, loadL [100] (.slice A n c) (BlkF gl 40 (CS (.slice A n c)))), (6, factL [102] (fun v => v = .int .u32 (a0 : Nat)) (fun _ => RdQ wr B g (rest.drop 4) bd)), (9, factL [6] (fun v => v = .int .u32 (a1 : Nat)) (fun _ => RdQ wr B g (rest.drop 8) bd)), (11, factL [9] (fun v => v = .int .u32 (a2 : Nat)) (fun _ => RdQ wr B g (rest.drop 12) bd)),
         (13, rowL [] w.heap.size 60 3 1 (KY [⟨(a0 : Int), (a1 : Int), (a2 : Int)⟩])), (14, rowL [101, 13] w.heap.size 60 3 (n + 1) (KY (done ++ [⟨(a0 : Int), (a1 : Int), (a2 : Int)⟩]))),
         (17, factL [4, 14] (fun _ => True) (fun _ S w' => ∃ A' c', BlkF gl 40 (CS (.slice A' (n + 1) c')) S w' ∧ OwnF w.heap.size 60 3 (n + 1) (KY (done ++ [⟨(a0 : Int), (a1 : Int), (a2 : Int)⟩])) (.slice A' (n + 1) c') S w'))]
        (addL 102 (RdQ wr B g rest bd) (addL 101 (OwnF w.heap.size 60 3 n (KY done) (.slice A n c)) (addL 100 (BlkF gl 40 (CS (.slice A n c))) (fun _ => Fact.none)))) (by kernel_rfl) (by kernel_rfl)
        (.cons (loadL_ok _ _ (good_blk _ _ _)) (.cons (factL_ok ⟨_, rfl⟩ (fun _ => good_rdQ _ _ _ _ _)) (.cons (factL_ok ⟨_, rfl⟩ (fun _ => good_rdQ _ _ _ _ _)) (.cons (factL_ok ⟨_, rfl⟩ (fun _ => good_rdQ _ _ _ _ _)) (.cons (rowL_ok _ _ _ _ _ _) (.cons (rowL_ok _ _ _ _ _ _) (.cons (factL_ok ⟨undef, trivial⟩ (fun _ S S' w w' h1 h2 ⟨A', c', h3, h4⟩ => ⟨A', c', good_blk _ _ _ S S' w w' h1 h2 h3, good_own _ _ _ _ _ _ S S' w w' h1 h2 h4⟩)) .nil)))))))
        (good_add _ (good_rdQ _ _ _ _ _) (good_add _ (good_own _ _ _ _ _ _) (good_add _ (good_blk _ _ _) good_nothing)))
        (sat_add 102 (sat_add 101 (sat_add 100 sat_none (fun b _ h => h) (fun b (hb : b = gl) => by omega) ⟨rfl, hhl⟩) hd1 (ownF_lt hown) (ownF_in hown))
          hd2 (fun b (hb : b = g) => by omega) (rdQ_in hI.rd)) (WX.out ?_)
      repeat (first | ((first | refine wx_quietU (by rfl) (by rfl) (by rfl) (fun K hK => ?_) | refine wx_quietG (by rfl) (by rfl) (by rfl) (by rfl) (by rfl) (fun K hK => ?_)); go_big_quiet_op; refine hK _ ?_; clear hK K) | ((first | refine wx_skipG (by rfl) (by rfl) (by rfl) (fun K hK => ?_) | refine wx_skipN (by rfl) (by rfl) (by rfl) (fun K hK => ?_)); go_simp; refine hK _ ?_; clear hK K))
      refine wx_loudU (us := [100]) (by rfl) (by rfl) (fun S wS hC hS hU => ?_) (fun v hv K hK => ?_)
      · have hB : BlkF gl 40 (CS (.slice A n c)) S wS := hU 100 (by simp)
        have hB2 := hB
        rw [HCS.out] at hB2
        obtain ⟨hc, hf⟩ := blkF_cells hB2
        exact load_x (by go_simp) (good_blk _ _ _) hB
      obtain rfl := hv; (go_simp; refine hK _ ?_; clear hK K)
      repeat (first | ((first | refine wx_quietU (by rfl) (by rfl) (by rfl) (fun K hK => ?_) | refine wx_quietG (by rfl) (by rfl) (by rfl) (by rfl) (by rfl) (fun K hK => ?_)); go_big_quiet_op; refine hK _ ?_; clear hK K) | ((first | refine wx_skipG (by rfl) (by rfl) (by rfl) (fun K hK => ?_) | refine wx_skipN (by rfl) (by rfl) (by rfl) (fun K hK => ?_)); go_simp; refine hK _ ?_; clear hK K))
      refine wx_loudU (us := [102]) (by rfl) (by rfl) (fun S wS hC hS hU => runs_enter (f := 47) (by go_simp <;> rfl) ?_) (fun v hv K hK => ?_)
      · have hF : RdQ wr B g (rest) bd S wS := hU 102 (by simp)
        refine (takeP_any B g 4 (rest) bd wS (rdQ_out hF hC hSB (by omega)) hBg (by omega) (by omega)).mono ?_
        rintro e w' ⟨rfl, hR2, hg2⟩
        rw [V0.out]
        rw [R0.out, B0.out] at hR2
        have hk2 : Kept S wS w' := Kept.of_grown hg2 (fun g' hg' => by injection hg' with hg'; rw [← hg']; exact hF.1)
        have h9 : RdQ wr B g (rest.drop 4) bd (fun b => S b ∨ (wS.heap.size ≤ b ∧ b < w'.heap.size)) w' := rdQ_of hR2 (.inl hF.1) (hC.step hk2 (fun b hb => (hS b hb).1)) hSB (by omega)
        exact ⟨_, rfl, rfl, hk2, h9⟩
      obtain rfl := hv; (go_simp; refine hK _ ?_; clear hK K)
      repeat (first | ((first | refine wx_quietU (by rfl) (by rfl) (by rfl) (fun K hK => ?_) | refine wx_quietG (by rfl) (by rfl) (by rfl) (by rfl) (by rfl) (fun K hK => ?_)); go_big_quiet_op; refine hK _ ?_; clear hK K) | ((first | refine wx_skipG (by rfl) (by rfl) (by rfl) (fun K hK => ?_) | refine wx_skipN (by rfl) (by rfl) (by rfl) (fun K hK => ?_)); go_simp; refine hK _ ?_; clear hK K))
      refine wx_loudU (us := [6]) (by rfl) (by rfl) (fun S wS hC hS hU => runs_enter (f := 47) (by go_simp <;> rfl) ?_) (fun v hv K hK => ?_)
      · have hF : RdQ wr B g (rest.drop 4) bd S wS := hU 6 (by simp)
        refine (takeP_any B g 4 (rest.drop 4) bd wS (rdQ_out hF hC hSB (by omega)) hBg (by omega) (by omega)).mono ?_
        rintro e w' ⟨rfl, hR2, hg2⟩
        rw [V1.out]
        rw [R1.out, B1.out] at hR2
        have hk2 : Kept S wS w' := Kept.of_grown hg2 (fun g' hg' => by injection hg' with hg'; rw [← hg']; exact hF.1)
        have h9 : RdQ wr B g (rest.drop 8) bd (fun b => S b ∨ (wS.heap.size ≤ b ∧ b < w'.heap.size)) w' := rdQ_of hR2 (.inl hF.1) (hC.step hk2 (fun b hb => (hS b hb).1)) hSB (by omega)
        exact ⟨_, rfl, rfl, hk2, h9⟩
      obtain rfl := hv; (go_simp; refine hK _ ?_; clear hK K)
      repeat (first | ((first | refine wx_quietU (by rfl) (by rfl) (by rfl) (fun K hK => ?_) | refine wx_quietG (by rfl) (by rfl) (by rfl) (by rfl) (by rfl) (fun K hK => ?_)); go_big_quiet_op; refine hK _ ?_; clear hK K) | ((first | refine wx_skipG (by rfl) (by rfl) (by rfl) (fun K hK => ?_) | refine wx_skipN (by rfl) (by rfl) (by rfl) (fun K hK => ?_)); go_simp; refine hK _ ?_; clear hK K))
      refine wx_loudU (us := [9]) (by rfl) (by rfl) (fun S wS hC hS hU => runs_enter (f := 47) (by go_simp <;> rfl) ?_) (fun v hv K hK => ?_)
      · have hF : RdQ wr B g (rest.drop 8) bd S wS := hU 9 (by simp)
        refine (takeP_any B g 4 (rest.drop 8) bd wS (rdQ_out hF hC hSB (by omega)) hBg (by omega) (by omega)).mono ?_
        rintro e w' ⟨rfl, hR2, hg2⟩
        rw [V2.out]
        rw [R2.out, B2.out] at hR2
        have hk2 : Kept S wS w' := Kept.of_grown hg2 (fun g' hg' => by injection hg' with hg'; rw [← hg']; exact hF.1)
        have h9 : RdQ wr B g (rest.drop 12) bd (fun b => S b ∨ (wS.heap.size ≤ b ∧ b < w'.heap.size)) w' := rdQ_of hR2 (.inl hF.1) (hC.step hk2 (fun b hb => (hS b hb).1)) hSB (by omega)
        exact ⟨_, rfl, rfl, hk2, h9⟩
      obtain rfl := hv; (go_simp; refine hK _ ?_; clear hK K)
      repeat (first | ((first | refine wx_quietU (by rfl) (by rfl) (by rfl) (fun K hK => ?_) | refine wx_quietG (by rfl) (by rfl) (by rfl) (by rfl) (by rfl) (fun K hK => ?_)); go_big_quiet_op; refine hK _ ?_; clear hK K) | ((first | refine wx_skipG (by rfl) (by rfl) (by rfl) (fun K hK => ?_) | refine wx_skipN (by rfl) (by rfl) (by rfl) (fun K hK => ?_)); go_simp; refine hK _ ?_; clear hK K))
      refine wx_loudU (us := []) (by rfl) (by rfl) (fun S wS hC hS hU => ?_) (fun v hv K hK => ?_)
      · exact runs_value (by go_simp <;> rfl) (made_x rfl (Nat.le_trans hB8 hC.size) (by rfl) (by rfl) (by omega) (by omega))
      obtain ⟨A6, c6, rfl⟩ := hv; (go_simp; refine hK _ ?_; clear hK K)
      repeat (first | ((first | refine wx_quietU (by rfl) (by rfl) (by rfl) (fun K hK => ?_) | refine wx_quietG (by rfl) (by rfl) (by rfl) (by rfl) (by rfl) (fun K hK => ?_)); go_big_quiet_op; refine hK _ ?_; clear hK K) | ((first | refine wx_skipG (by rfl) (by rfl) (by rfl) (fun K hK => ?_) | refine wx_skipN (by rfl) (by rfl) (by rfl) (fun K hK => ?_)); go_simp; refine hK _ ?_; clear hK K))
      refine wx_loudU (us := [101, 13]) (by rfl) (by rfl) (fun S wS hC hS hU => ?_) (fun v hv K hK => ?_)
      · exact appS_x (.tmp 46) (.tmp 55) st_kys (by rfl) (by rfl) (by rfl) (hU 101 (by simp)) (own_sl (hU 13 (by simp)).2) (KY_one _) (by simp [maxLen]; omega) (by omega) (Nat.le_trans hB8 hC.size) (KY_append _ _)
      obtain ⟨A7, c7, rfl⟩ := hv; (go_simp; refine hK _ ?_; clear hK K)
      repeat (first | ((first | refine wx_quietU (by rfl) (by rfl) (by rfl) (fun K hK => ?_) | refine wx_quietG (by rfl) (by rfl) (by rfl) (by rfl) (by rfl) (fun K hK => ?_)); go_big_quiet_op; refine hK _ ?_; clear hK K) | ((first | refine wx_skipG (by rfl) (by rfl) (by rfl) (fun K hK => ?_) | refine wx_skipN (by rfl) (by rfl) (by rfl) (fun K hK => ?_)); go_simp; refine hK _ ?_; clear hK K))
      refine wx_loudU (us := [4, 14]) (by rfl) (by rfl) (fun S wS hC hS hU => ?_) (fun v hv K hK => ?_)
      · have hB : BlkF gl 40 (CS (.slice A n c)) S wS := hU 4 (by simp)
        rw [HCS.out] at hB
        have hO : OwnF w.heap.size 60 3 (n + 1) (KY (done ++ [⟨(a0 : Int), (a1 : Int), (a2 : Int)⟩])) (.slice A7 (n + 1) c7) S wS := hU 14 (by simp)
        obtain ⟨hc, hf⟩ := blkF_cells hB
        unfold runs
        go_simp
        have hO9 := ownsRow_kept hO.2 (Kept.setCell (S := fun b => b = gl) (Kept.refl _ wS) (p := ⟨gl, 14, none⟩) (.inl rfl) (.slice A7 (n + 1) c7)) (fun g' hg' => by have := (hO.2.lt g' hg').1; omega)
        have hB9 := blk_set hB.2 14 (.slice A7 (n + 1) c7)
        simp at hB9
        exact ⟨trivial, (Kept.refl _ _).setCell (.inl hB.1) _, A7, c7, ⟨.inl hB.1, by rw [HCS.out]; exact hB9⟩, ⟨fun g' hg' => .inl (hO.1 g' hg'), hO9⟩⟩
      (go_simp; refine hK _ ?_; clear hK K)
      refine wx_nil fun w9 hsat => ?_
      obtain ⟨S, hS, hfin⟩ := sat_get hsat 17
      obtain ⟨A', c', hb9, ho9⟩ := (hfin : ∃ A' c', BlkF gl 40 (CS (.slice A' (n + 1) c')) S w9 ∧ OwnF w.heap.size 60 3 (n + 1) (KY (done ++ [⟨(a0 : Int), (a1 : Int), (a2 : Int)⟩])) (.slice A' (n + 1) c') S w9)
      rw [HCS.out] at hb9
      obtain ⟨S2, _, hfin2⟩ := sat_get hsat 11
      have hrd9 := rdQ_out (hfin2 : RdQ wr B g (rest.drop 12) bd S2 w9) hsat.1 hSB (by omega)
      have hkp9 := hI.kp.then hsat.1 (fun b hb h => by
        rcases h with ((h | h) | h) | h
        · exact h.elim
        · exact .inl h
        · have := (hown.lt _ h).1; omega
        · exact .inr h)
      have hm9 := hrd9.len
      have HM9 := hid hm9
      clear hm9 hsat hS hfin2
      go_wp2_with fail
      go_light
      refine ⟨⟨done ++ [⟨(a0 : Int), (a1 : Int), (a2 : Int)⟩], _, bd, n + 1, A', c', ⟨hrd9, hb9.2, ho9.2, hkp9⟩, ?_, ?_⟩, ?_⟩
      · show _ = _
        rw [← HD0.out, HLK.out]
        simp
      · simp
        omega
      · rw [HM9.out, HR0.out]
        simp
        omega
    · have h12' : n' < 12 := by omega
      clear hn'
      have hD := HD0.out
      rw [keysOf_no rest (by omega), List.append_nil] at hD
      have HD2 := hid hD
      have hslo := own_sl hI.own
      have hfr := freshA_own hI.own
      have hkp := hI.kp
      have hin := hid hI.hl
      clear hD hI HD0
      go_upto_region 13 with fail
      go_loopw [69] (fun s' w' => wr = w') (fun _ _ => 0)
      case atStart => rfl
      case round =>
        subst hrel
        go_wp2_with fail
        go_ret
        refine ⟨by rw [HE.out]; rfl, hkp, fun _ => ⟨none, 0, 0, none, 0, 0, A, n, c, none, 0, 0, [], ?_, ?_, freshA_none _, freshA_none _, hfr, freshA_none _, by simp⟩⟩
        · rw [HP.out]; exact hin.out
        · rw [HP.out, ← HD2.out]; exact ⟨nilU _, nil7 _, hslo, nil9 _ _, rfl, by simp⟩
theorem tells_any
    (ty : Int) (router area : Nat) (s : ByteArray) (B gl g : Nat) (y : List UInt8) (w : World) (hl : w.heap[gl]? = some (.cells (pkC (bareP ty router area s) none 0 0 none 0 0 none 0 0 none 0 0) 40 (0, 0))) (hR : RdP B w g y false) (hBl : B ≤ gl) (hBg : B ≤ g) (hne : gl ≠ g) (hy : y.length ≤ 100000)
    : Calls Try.prog 48 #[.pointer (some ⟨gl, 0, none⟩), .pointer (some ⟨g, 0, none⟩)] w (TellsPost (bareP ty router area s) y w gl g) := by
  by_cases t1 : ty = 1
  · exact tells_t1 ty router area s B gl g y w hl hR hBl hBg hne hy t1
  by_cases t2 : ty = 2
  · exact tells_t2 ty router area s B gl g y w hl hR hBl hBg hne hy t2
  by_cases t3 : ty = 3
  · exact tells_t3 ty router area s B gl g y w hl hR hBl hBg hne hy t3
  by_cases t4 : ty = 4
  · exact tells_t4 ty router area s B gl g y w hl hR hBl hBg hne hy t4
  by_cases t5 : ty = 5
  · exact tells_t5 ty router area s B gl g y w hl hR hBl hBg hne hy t5
  · exact tells_t0 ty router area s B gl g y w hl hR hBl hBg hne hy (by omega)
end Go.Proofs.Ytgopkpogakjckaa
namespace Go.Proofs.Ytgopkpogakjckaa
set_option linter.unusedVariables false
set_option linter.unusedSimpArgs false
open Go Go.RowKit SM LM PK

theorem beq_mod (k x : Nat) : be k (x % 256 ^ k) = be k x := by
  have key : ∀ (j m : Nat), j ≤ m → be j (x % 256 ^ m) = be j x := by
    intro j
    induction j with
    | zero => intro m _; rfl
    | succ j ih =>
      intro m hm
      simp only [be]
      rw [ih m (by omega)]
      congr 2
      rw [pow8]
      have e : 256 ^ m = 256 ^ j * 256 ^ (m - j) := by rw [← Nat.pow_add]; congr 1; omega
      rw [e, Nat.mod_mul_right_div_self]
      have e2 : 256 ^ (m - j) = 256 * 256 ^ (m - j - 1) := by rw [← Nat.pow_succ']; congr 1; omega
      rw [e2, Nat.mod_mul_right_mod]
  exact key k k (Nat.le_refl _)
theorem beq_snoc (k x : Nat) (c : UInt8) : be (k + 1) (x * 256 + c.toNat) = be k x ++ [c] := by
  induction k generalizing x with
  | zero => simp [be]
  | succ k ih =>
    have e : be (k + 1 + 1) (x * 256 + c.toNat) = UInt8.ofNat ((x * 256 + c.toNat) / 2 ^ (8 * (k + 1)) % 256) :: be (k + 1) (x * 256 + c.toNat) := rfl
    rw [e, ih]
    have e2 : be (k + 1) x = UInt8.ofNat (x / 2 ^ (8 * k) % 256) :: be k x := rfl
    rw [e2]
    have e3 : (x * 256 + c.toNat) / 2 ^ (8 * (k + 1)) = x / 2 ^ (8 * k) := by
      rw [pow8, pow8, Nat.pow_succ', ← Nat.div_div_eq_div_mul]
      congr 1
      have := c.toNat_lt
      omega
    rw [e3]
    rfl
theorem be_of_nv (l : List UInt8) (k : Nat) (h : k ≤ l.length) : be k (nv l k) = l.take k := by
  induction k with
  | zero => simp [be]
  | succ k ih =>
    have e : nv l (k + 1) = nv l k * 256 + byt l k := rfl
    rw [e, List.take_succ_eq_append_getElem (by omega)]
    have e2 : byt l k = (l[k]'(by omega)).toNat := by simp [byt, List.getD_eq_getElem?_getD, List.getElem?_eq_getElem (show k < l.length by omega)]
    rw [e2, beq_snoc, ih (by omega)]
theorem fld2_bd (l : List UInt8) (o : Nat) : fld l o 2 < 65536 := nv_lt _ 2
theorem fld2_eq (l : List UInt8) (o : Nat) : fld l o 2 = byt l o * 256 + byt l (o + 1) := by unfold fld; simp [nv, byt_drop]
theorem be2_eq (l : List UInt8) (o k : Nat) (h : o + 2 ≤ l.length) (hk : k < 65536) : ((l.drop o).take 2 == be 2 k) = decide (fld l o 2 = k) := by
  have e := be_of_nv (l.drop o) 2 (by rw [List.length_drop]; omega)
  rw [← e]
  have e2 : nv (l.drop o) 2 = fld l o 2 := rfl
  rw [e2, Bool.eq_iff_iff]
  simp only [beq_iff_eq, decide_eq_true_eq]
  constructor
  · intro hh
    have h1 := nv_be 2 (fld l o 2) [] (fld2_bd l o)
    have h2 := nv_be 2 k [] (by simpa using hk)
    rw [hh, h2] at h1
    exact h1.symm
  · intro hh; rw [hh]
theorem i64_or_nat2 (a b : Nat) (ha : a < 65536) (hb : b < 65536) : bits .or .i64 (a : Int) (b : Int) = ((a ||| b : Nat) : Int) := by
  have hx : a ||| b < 2 ^ 16 := Nat.or_lt_two_pow (by omega) (by omega)
  show IntKind.i64.wrap ((BitVec.ofInt 64 (a : Int) ||| BitVec.ofInt 64 (b : Int)).toNat : Int) = _
  have e : ∀ n : Nat, n < 65536 → (BitVec.ofInt 64 (n : Int)).toNat = n := fun n hn => by
    rw [BitVec.toNat_ofInt]
    omega
  rw [BitVec.toNat_or, e a ha, e b hb]
  exact IntWalk.i64_in _ (by omega)
theorem or_two (a b : Nat) (ha : a < 256) (hb : b < 256) : bits .or .i64 ((a : Int) * 256) (b : Int) = ((a * 256 + b : Nat) : Int) := by
  have := i64_or_nat2 (a * 256) b (by omega) (by omega)
  rw [nat_join 8 (a * 256) b (by omega) (by omega)] at this
  rw [← this]
  simp
set_option maxRecDepth 100000 in
set_option maxHeartbeats 1600000 in
theorem framed_any (A : Option Addr) (n c : Nat) (l : List UInt8) (s : ByteArray) (w : World) (h : Sl w 1 (.slice A n c) (B8 l)) (hm : n ≤ 1000000) :
    Calls Try.prog 46 #[.slice A n c, .string s] w fun e w' => e = .returned (.int .i64 (framedE l s)) ∧ Below w.heap.size w w' := by
  obtain ⟨hl1, hl2, hl3⟩ := h.len
  have HL := hid hl1
  have HF : Hid (framedE l s = if n < 24 then 4 else if byt l 0 ≠ 2 ∨ fld l 2 2 ≠ n then 3 else if fld l 12 2 ≠ sumP l then 8 else if fld l 14 2 ≠ kindP s ∨ (l.drop 16).take 8 ≠ key8 s ∨ 8 < s.size then 9 else 0) := by
    show _ = _
    unfold framedE
    rw [hl1]
  clear hl1
  by_cases hn : n < 24
  · rw [if_pos hn] at HF
    go_enter Try.func46, Try.ntmps46
    go_wp2_with fail
    go_ret
    exact ⟨by rw [HF.out]; rfl, Below.refl _ _⟩
  rw [if_neg hn] at HF
  obtain ⟨b, off, rfl, hbl, p0⟩ := h.byte (k := 0) (by omega)
  obtain ⟨_, _, e1, _, p2⟩ := h.byte (k := 2) (by omega)
  injection e1 with e1
  injection e1 with e1 e2
  subst e1; subst e2
  obtain ⟨_, _, e1, _, p3⟩ := h.byte (k := 3) (by omega)
  injection e1 with e1
  injection e1 with e1 e2
  subst e1; subst e2
  obtain ⟨_, _, e1, _, p12⟩ := h.byte (k := 12) (by omega)
  injection e1 with e1
  injection e1 with e1 e2
  subst e1; subst e2
  obtain ⟨_, _, e1, _, p13⟩ := h.byte (k := 13) (by omega)
  injection e1 with e1
  injection e1 with e1 e2
  subst e1; subst e2
  rw [Nat.add_zero] at p0
  have b0 := byt_lt l 0
  have b2 := byt_lt l 2
  have b3 := byt_lt l 3
  have b12 := byt_lt l 12
  have b13 := byt_lt l 13
  by_cases h0 : byt l 0 = 2
  rotate_left
  · rw [if_pos (.inl h0)] at HF
    have t0 : ((byt l 0 : Int) != 2) = true := by simp; omega
    have t0' : ((byt l 0 : Int) == 2) = false := by rw [beq_eq_false_iff_ne]; omega
    clear h0
    go_enter Try.func46, Try.ntmps46
    go_upto_region 3 with fail
    go_quiet (fail)
    go_wp2_with fail
    go_ret
    exact ⟨by rw [HF.out]; rfl, below_drewN (Below.refl _ _) _⟩
  have hor := or_two (byt l 2) (byt l 3) b2 b3
  have hx1 : IntKind.i64.wrap ((byt l 2 : Int) * 256) = (byt l 2 : Int) * 256 := IntWalk.i64_in _ (by omega)
  have hf2 := fld2_eq l 2
  have t0 : ((byt l 0 : Int) != 2) = false := by simp; omega
  have t0' : ((byt l 0 : Int) == 2) = true := by simp; omega
  rw [← hf2] at hor
  have HF2 := hid hf2
  clear hf2
  generalize hz : fld l 2 2 = z at *
  have HZ := hid hz
  clear hz
  by_cases h2 : z = n
  rotate_left
  · rw [if_pos (.inr h2)] at HF
    have t2 : ((z : Int) != (n : Int)) = true := by simp; omega
    have t2' : ((z : Int) == (n : Int)) = false := by rw [beq_eq_false_iff_ne]; omega
    clear h2 h0
    go_enter Try.func46, Try.ntmps46
    go_upto_region 3 with fail
    go_quiet (fail)
    go_wp2_with fail
    go_ret
    exact ⟨by rw [HF.out]; rfl, below_drewN (Below.refl _ _) _⟩
  rw [if_neg (by rw [h0, h2]; simp)] at HF
  subst h2
  have t2 : ((z : Int) != (z : Int)) = false := by simp
  have t2' : ((z : Int) == (z : Int)) = true := by simp
  clear h0
  have hsb : sumP l ≤ 65535 := inet_le _
  have hf12 : fld l 12 2 = byt l 12 * 256 + byt l 13 := fld2_eq l 12
  have HKK : Hid (∀ w', Sl w' 1 (.slice (some ⟨b, off, none⟩) z c) (B8 l) → True) := fun _ _ => trivial
  clear HKK
  generalize hsm : sumP l = sm at *
  have HSM := hid hsm
  clear hsm
  go_enter Try.func46, Try.ntmps46
  go_upto_region 3 with fail
  go_quiet (fail)
  have hq0 : Below w.heap.size w (w.drewN nq) := below_drewN (Below.refl _ _) _
  have hslq : Sl (w.drewN nq) 1 (.slice (some ⟨b, off, none⟩) z c) (B8 l) := h
  have hbq : b < (w.drewN nq).heap.size := hbl
  have hzq : (w.drewN nq).heap.size = w.heap.size := rfl
  generalize w.drewN nq = wq at *
  clear p0 p2 p3 hor hx1 t0 t0' b0 b2 b3
  go_wp2_with fail
  refine (sum_any _ _ _ l wq hslq (by omega) hm).mono ?_
  rintro e w1 ⟨rfl, hb1⟩
  rw [HSM.out]
  have hsl1 := hslq.below hb1
  have hbb1 := hq0.trans (hb1.mono (by omega))
  obtain ⟨_, _, e1, hbl1, p12⟩ := hsl1.byte (k := 12) (by omega)
  injection e1 with e1
  injection e1 with e1 e2
  subst e1; subst e2
  obtain ⟨_, _, e1, _, p13⟩ := hsl1.byte (k := 13) (by omega)
  injection e1 with e1
  injection e1 with e1 e2
  subst e1; subst e2
  have hz1 := hbb1.size
  clear hslq hb1 hq0 hbq hzq hbl
  by_cases q12 : byt l 12 = sm / 256
  rotate_left
  · have hne : fld l 12 2 ≠ sm := by omega
    rw [if_pos hne] at HF
    have t12 : ((byt l 12 : Int) != (sm : Int) / 256) = true := by simp; omega
    have t12' : ((byt l 12 : Int) == (sm : Int) / 256) = false := by rw [beq_eq_false_iff_ne]; omega
    clear q12 hne hf12
    go_wp2_with fail
    go_ret
    exact ⟨by rw [HF.out]; rfl, hbb1⟩
  have t12 : ((byt l 12 : Int) != (sm : Int) / 256) = false := by simp; omega
  have t12' : ((byt l 12 : Int) == (sm : Int) / 256) = true := by simp; omega
  by_cases q13 : byt l 13 = sm % 256
  rotate_left
  · have hne : fld l 12 2 ≠ sm := by omega
    rw [if_pos hne] at HF
    have t13 : ((byt l 13 : Int) != (sm : Int) % 256) = true := by simp; omega
    have t13' : ((byt l 13 : Int) == (sm : Int) % 256) = false := by rw [beq_eq_false_iff_ne]; omega
    clear q12 q13 hne hf12
    go_wp2_with fail
    go_ret
    exact ⟨by rw [HF.out]; rfl, hbb1⟩
  have t13 : ((byt l 13 : Int) != (sm : Int) % 256) = false := by simp; omega
  have t13' : ((byt l 13 : Int) == (sm : Int) % 256) = true := by simp; omega
  have hne : ¬ fld l 12 2 ≠ sm := by omega
  rw [if_neg hne] at HF
  clear q12 q13 hne hf12
  go_upto_region 8 with fail
  clear p12 p13 t12 t12' t13 t13' hsb
  go_wp2_with fail
  refine (key_any s w1).mono ?_
  rintro e w2 ⟨gk, rfl, hownK, hb2⟩
  have hsl2 := hsl1.below hb2
  have hbb2 := hbb1.trans (hb2.mono hz1)
  have hslK := own_sl hownK
  have hkb : kindP s ≤ 1 := by unfold kindP; split <;> omega
  have hgk := hslK
  clear hsl1 hownK hb2 hbb1 hgk
  have heq1 := be2_eq l 14 (kindP s) (by rw [HL.out]; omega) (by omega)
  generalize kindP s = kd at *
  generalize key8 s = k8 at *
  have hz2 := hbb2.size
  have hm14 := sl_mid hsl2 14 16 (by omega) (by omega) (by omega)
  have hc24 : 24 ≤ c := by omega
  have hk0 : Hid (∀ x : Bool, x = x) := fun x => rfl
  clear hk0
  by_cases q14 : fld l 14 2 = kd
  · have hd14 : decide (fld l 14 2 = kd) = true := by simpa using q14
    rw [hd14] at heq1
    have HEQ1 := hid heq1
    have hm16 := sl_mid hsl2 16 24 (by omega) (by omega) (by omega)
    have hcase : framedE l s = if (l.drop 16).take 8 ≠ k8 ∨ 8 < s.size then 9 else 0 := by
      rw [HF.out]
      simp [q14]
    have HC := hid hcase
    clear HF q14 hd14 heq1 hcase
    by_cases q16 : (l.drop 16).take 8 = k8
    · have hb16 : ((l.drop 16).take 8 == k8) = true := by simpa using q16
      have HB16 := hid hb16
      have hcase : framedE l s = if 8 < s.size then 9 else 0 := by rw [HC.out]; simp [q16]
      have HC2 := hid hcase
      clear q16 hb16 hcase HC
      go_upto_region 9 with fail
      refine wp_region_loud (fun _ => False)
        [(3, rowL [] w2.heap.size 5 1 2 (B8 (be 2 kd))), (4, plainL [3] (.bool true)), (10, plainL [] (.bool true))]
        (fun _ => Fact.none) (by kernel_rfl) (by kernel_rfl) (.cons (rowL_ok _ _ _ _ _ _) (.cons (plainL_ok _ _) (.cons (plainL_ok _ _) .nil))) good_nothing sat_none (WX.out ?_)
      repeat (first | ((first | refine wx_quietU (by rfl) (by rfl) (by rfl) (fun K hK => ?_) | refine wx_quietG (by rfl) (by rfl) (by rfl) (by rfl) (by rfl) (fun K hK => ?_)); go_big_quiet_op; refine hK _ ?_; clear hK K) | ((first | refine wx_skipG (by rfl) (by rfl) (by rfl) (fun K hK => ?_) | refine wx_skipN (by rfl) (by rfl) (by rfl) (fun K hK => ?_)); go_simp; refine hK _ ?_; clear hK K))
      refine wx_loudU (us := []) (by rfl) (by rfl) (fun S wS hC hS hU => runs_enter (f := 38) (by go_simp <;> rfl) ?_) (fun v hv K hK => ?_)
      · exact pput_0 2 _ _ hC.size (by omega) (by omega) (by omega)
      obtain ⟨RA3, Rc3, rfl⟩ := hv; (go_simp; refine hK _ ?_; clear hK K)
      repeat (first | ((first | refine wx_quietU (by rfl) (by rfl) (by rfl) (fun K hK => ?_) | refine wx_quietG (by rfl) (by rfl) (by rfl) (by rfl) (by rfl) (fun K hK => ?_)); go_big_quiet_op; refine hK _ ?_; clear hK K) | ((first | refine wx_skipG (by rfl) (by rfl) (by rfl) (fun K hK => ?_) | refine wx_skipN (by rfl) (by rfl) (by rfl) (fun K hK => ?_)); go_simp; refine hK _ ?_; clear hK K))
      refine wx_loudU (us := [3]) (by rfl) (by rfl) (fun S wS hC hS hU => runs_enter (f := 49) (by go_simp <;> rfl) ?_) (fun v hv K hK => ?_)
      · refine (bytesEqual_any _ _ _ _ _ _ ((l.drop 14).take 2) (be 2 kd) wS (by exact sl_kept hm14 hC (by simp)) (own_sl (hU 3 (by simp)).2)).mono ?_
        rintro e w' ⟨rfl, rfl⟩
        exact ⟨_, rfl, congrArg Value.bool HEQ1.out, Kept.refl _ _, trivial⟩
      obtain rfl := hv; (go_simp; refine hK _ ?_; clear hK K)
      repeat (first | ((first | refine wx_quietU (by rfl) (by rfl) (by rfl) (fun K hK => ?_) | refine wx_quietG (by rfl) (by rfl) (by rfl) (by rfl) (by rfl) (fun K hK => ?_)); go_big_quiet_op; refine hK _ ?_; clear hK K) | ((first | refine wx_skipG (by rfl) (by rfl) (by rfl) (fun K hK => ?_) | refine wx_skipN (by rfl) (by rfl) (by rfl) (fun K hK => ?_)); go_simp; refine hK _ ?_; clear hK K))
      refine wx_loudG (us := []) (by rfl) (by rfl) (by rfl) (by rfl) (fun S wS hC hS hU => runs_enter (f := 49) (by go_simp <;> rfl) ?_) (fun v hv K hK => ?_)
      · refine (bytesEqual_any _ _ _ _ _ _ ((l.drop 16).take 8) k8 wS (by exact sl_kept hm16 hC (by simp)) (by exact sl_kept hslK hC (by simp))).mono ?_
        rintro e w' ⟨rfl, rfl⟩
        exact ⟨_, rfl, congrArg Value.bool HB16.out, Kept.refl _ _, trivial⟩
      obtain rfl := hv; (go_simp; refine hK _ ?_; clear hK K)
      repeat (first | ((first | refine wx_quietU (by rfl) (by rfl) (by rfl) (fun K hK => ?_) | refine wx_quietG (by rfl) (by rfl) (by rfl) (by rfl) (by rfl) (fun K hK => ?_)); go_big_quiet_op; refine hK _ ?_; clear hK K) | ((first | refine wx_skipG (by rfl) (by rfl) (by rfl) (fun K hK => ?_) | refine wx_skipN (by rfl) (by rfl) (by rfl) (fun K hK => ?_)); go_simp; refine hK _ ?_; clear hK K))
      refine wx_nil fun w3 hsat => ?_
      have hb3 := sat_below hsat
      clear hsat
      by_cases q8 : 8 < s.size
      · go_wp2_with fail
        go_ret
        exact ⟨by rw [HC2.out, if_pos q8]; rfl, hbb2.trans (hb3.mono hz2)⟩
      · go_wp2_with fail
        go_ret
        exact ⟨by rw [HC2.out, if_neg q8]; rfl, hbb2.trans (hb3.mono hz2)⟩
    · have hb16 : ((l.drop 16).take 8 == k8) = false := by simpa using q16
      have HB16 := hid hb16
      have hcase : framedE l s = 9 := by rw [HC.out, if_pos (.inl q16)]
      have HC2 := hid hcase
      clear q16 hb16 hcase HC
      go_upto_region 9 with fail
      refine wp_region_loud (fun _ => False)
        [(3, rowL [] w2.heap.size 5 1 2 (B8 (be 2 kd))), (4, plainL [3] (.bool true)), (10, plainL [] (.bool false))]
        (fun _ => Fact.none) (by kernel_rfl) (by kernel_rfl) (.cons (rowL_ok _ _ _ _ _ _) (.cons (plainL_ok _ _) (.cons (plainL_ok _ _) .nil))) good_nothing sat_none (WX.out ?_)
      repeat (first | ((first | refine wx_quietU (by rfl) (by rfl) (by rfl) (fun K hK => ?_) | refine wx_quietG (by rfl) (by rfl) (by rfl) (by rfl) (by rfl) (fun K hK => ?_)); go_big_quiet_op; refine hK _ ?_; clear hK K) | ((first | refine wx_skipG (by rfl) (by rfl) (by rfl) (fun K hK => ?_) | refine wx_skipN (by rfl) (by rfl) (by rfl) (fun K hK => ?_)); go_simp; refine hK _ ?_; clear hK K))
      refine wx_loudU (us := []) (by rfl) (by rfl) (fun S wS hC hS hU => runs_enter (f := 38) (by go_simp <;> rfl) ?_) (fun v hv K hK => ?_)
      · exact pput_0 2 _ _ hC.size (by omega) (by omega) (by omega)
      obtain ⟨RA3, Rc3, rfl⟩ := hv; (go_simp; refine hK _ ?_; clear hK K)
      repeat (first | ((first | refine wx_quietU (by rfl) (by rfl) (by rfl) (fun K hK => ?_) | refine wx_quietG (by rfl) (by rfl) (by rfl) (by rfl) (by rfl) (fun K hK => ?_)); go_big_quiet_op; refine hK _ ?_; clear hK K) | ((first | refine wx_skipG (by rfl) (by rfl) (by rfl) (fun K hK => ?_) | refine wx_skipN (by rfl) (by rfl) (by rfl) (fun K hK => ?_)); go_simp; refine hK _ ?_; clear hK K))
      refine wx_loudU (us := [3]) (by rfl) (by rfl) (fun S wS hC hS hU => runs_enter (f := 49) (by go_simp <;> rfl) ?_) (fun v hv K hK => ?_)
      · refine (bytesEqual_any _ _ _ _ _ _ ((l.drop 14).take 2) (be 2 kd) wS (by exact sl_kept hm14 hC (by simp)) (own_sl (hU 3 (by simp)).2)).mono ?_
        rintro e w' ⟨rfl, rfl⟩
        exact ⟨_, rfl, congrArg Value.bool HEQ1.out, Kept.refl _ _, trivial⟩
      obtain rfl := hv; (go_simp; refine hK _ ?_; clear hK K)
      repeat (first | ((first | refine wx_quietU (by rfl) (by rfl) (by rfl) (fun K hK => ?_) | refine wx_quietG (by rfl) (by rfl) (by rfl) (by rfl) (by rfl) (fun K hK => ?_)); go_big_quiet_op; refine hK _ ?_; clear hK K) | ((first | refine wx_skipG (by rfl) (by rfl) (by rfl) (fun K hK => ?_) | refine wx_skipN (by rfl) (by rfl) (by rfl) (fun K hK => ?_)); go_simp; refine hK _ ?_; clear hK K))
      refine wx_loudG (us := []) (by rfl) (by rfl) (by rfl) (by rfl) (fun S wS hC hS hU => runs_enter (f := 49) (by go_simp <;> rfl) ?_) (fun v hv K hK => ?_)
      · refine (bytesEqual_any _ _ _ _ _ _ ((l.drop 16).take 8) k8 wS (by exact sl_kept hm16 hC (by simp)) (by exact sl_kept hslK hC (by simp))).mono ?_
        rintro e w' ⟨rfl, rfl⟩
        exact ⟨_, rfl, congrArg Value.bool HB16.out, Kept.refl _ _, trivial⟩
      obtain rfl := hv; (go_simp; refine hK _ ?_; clear hK K)
      repeat (first | ((first | refine wx_quietU (by rfl) (by rfl) (by rfl) (fun K hK => ?_) | refine wx_quietG (by rfl) (by rfl) (by rfl) (by rfl) (by rfl) (fun K hK => ?_)); go_big_quiet_op; refine hK _ ?_; clear hK K) | ((first | refine wx_skipG (by rfl) (by rfl) (by rfl) (fun K hK => ?_) | refine wx_skipN (by rfl) (by rfl) (by rfl) (fun K hK => ?_)); go_simp; refine hK _ ?_; clear hK K))
      refine wx_nil fun w3 hsat => ?_
      have hb3 := sat_below hsat
      clear hsat
      go_wp2_with fail
      go_ret
      exact ⟨by rw [HC2.out]; rfl, hbb2.trans (hb3.mono hz2)⟩
  · have hd14 : decide (fld l 14 2 = kd) = false := by simpa using q14
    rw [hd14] at heq1
    have HEQ1 := hid heq1
    have hcase : framedE l s = 9 := by
      rw [HF.out, if_pos (.inl q14)]
    have HC2 := hid hcase
    clear HF q14 hd14 heq1 hcase
    go_upto_region 9 with fail
    refine wp_region_loud (fun _ => False)
      [(3, rowL [] w2.heap.size 5 1 2 (B8 (be 2 kd))), (4, plainL [3] (.bool false))]
      (fun _ => Fact.none) (by kernel_rfl) (by kernel_rfl) (.cons (rowL_ok _ _ _ _ _ _) (.cons (plainL_ok _ _) .nil)) good_nothing sat_none (WX.out ?_)
    repeat (first | ((first | refine wx_quietU (by rfl) (by rfl) (by rfl) (fun K hK => ?_) | refine wx_quietG (by rfl) (by rfl) (by rfl) (by rfl) (by rfl) (fun K hK => ?_)); go_big_quiet_op; refine hK _ ?_; clear hK K) | ((first | refine wx_skipG (by rfl) (by rfl) (by rfl) (fun K hK => ?_) | refine wx_skipN (by rfl) (by rfl) (by rfl) (fun K hK => ?_)); go_simp; refine hK _ ?_; clear hK K))
    refine wx_loudU (us := []) (by rfl) (by rfl) (fun S wS hC hS hU => runs_enter (f := 38) (by go_simp <;> rfl) ?_) (fun v hv K hK => ?_)
    · exact pput_0 2 _ _ hC.size (by omega) (by omega) (by omega)
    obtain ⟨RA3, Rc3, rfl⟩ := hv; (go_simp; refine hK _ ?_; clear hK K)
    repeat (first | ((first | refine wx_quietU (by rfl) (by rfl) (by rfl) (fun K hK => ?_) | refine wx_quietG (by rfl) (by rfl) (by rfl) (by rfl) (by rfl) (fun K hK => ?_)); go_big_quiet_op; refine hK _ ?_; clear hK K) | ((first | refine wx_skipG (by rfl) (by rfl) (by rfl) (fun K hK => ?_) | refine wx_skipN (by rfl) (by rfl) (by rfl) (fun K hK => ?_)); go_simp; refine hK _ ?_; clear hK K))
    refine wx_loudU (us := [3]) (by rfl) (by rfl) (fun S wS hC hS hU => runs_enter (f := 49) (by go_simp <;> rfl) ?_) (fun v hv K hK => ?_)
    · refine (bytesEqual_any _ _ _ _ _ _ ((l.drop 14).take 2) (be 2 kd) wS (by exact sl_kept hm14 hC (by simp)) (own_sl (hU 3 (by simp)).2)).mono ?_
      rintro e w' ⟨rfl, rfl⟩
      exact ⟨_, rfl, congrArg Value.bool HEQ1.out, Kept.refl _ _, trivial⟩
    obtain rfl := hv; (go_simp; refine hK _ ?_; clear hK K)
    repeat (first | ((first | refine wx_quietU (by rfl) (by rfl) (by rfl) (fun K hK => ?_) | refine wx_quietG (by rfl) (by rfl) (by rfl) (by rfl) (by rfl) (fun K hK => ?_)); go_big_quiet_op; refine hK _ ?_; clear hK K) | ((first | refine wx_skipG (by rfl) (by rfl) (by rfl) (fun K hK => ?_) | refine wx_skipN (by rfl) (by rfl) (by rfl) (fun K hK => ?_)); go_simp; refine hK _ ?_; clear hK K))
    refine wx_nil fun w3 hsat => ?_
    have hb3 := sat_below hsat
    clear hsat
    go_wp2_with fail
    go_ret
    exact ⟨by rw [HC2.out]; rfl, hbb2.trans (hb3.mono hz2)⟩
end Go.Proofs.Ytgopkpogakjckaa
namespace Go.Proofs.Ytgopkpogakjckaa
set_option linter.unusedVariables false
set_option linter.unusedSimpArgs false
open Go Go.RowKit SM LM PK

abbrev zeroC : Array Value := #[.int .i64 0, .int .u32 0, .int .u32 0, .string ⟨#[]⟩, .int .u32 0, .int .i64 0, .int .i64 0, .int .i64 0, .int .u32 0, .int .u32 0, .slice none 0 0, .int .i64 0, .int .u32 0, .slice none 0 0, .slice none 0 0, .slice none 0 0]
/-- sixteen cells laid, one by one -/
def lay16 (w : World) (g : Nat) (a0 a1 a2 a3 a4 a5 a6 a7 a8 a9 a10 a11 a12 a13 a14 a15 : Value) : World := ((((((((((((((((w.setCell ⟨g, 0, none⟩ a0).setCell ⟨g, 1, none⟩ a1).setCell ⟨g, 2, none⟩ a2).setCell ⟨g, 3, none⟩ a3).setCell ⟨g, 4, none⟩ a4).setCell ⟨g, 5, none⟩ a5).setCell ⟨g, 6, none⟩ a6).setCell ⟨g, 7, none⟩ a7).setCell ⟨g, 8, none⟩ a8).setCell ⟨g, 9, none⟩ a9).setCell ⟨g, 10, none⟩ a10).setCell ⟨g, 11, none⟩ a11).setCell ⟨g, 12, none⟩ a12).setCell ⟨g, 13, none⟩ a13).setCell ⟨g, 14, none⟩ a14).setCell ⟨g, 15, none⟩ a15)
theorem lay16_in {w : World} {g : Nat} {T : TypeId} {z0 z1 z2 z3 z4 z5 z6 z7 z8 z9 z10 z11 z12 z13 z14 z15 : Value} (h : w.heap[g]? = some (.cells #[z0, z1, z2, z3, z4, z5, z6, z7, z8, z9, z10, z11, z12, z13, z14, z15] T (0, 0))) (a0 a1 a2 a3 a4 a5 a6 a7 a8 a9 a10 a11 a12 a13 a14 a15 : Value) :
    (lay16 w g a0 a1 a2 a3 a4 a5 a6 a7 a8 a9 a10 a11 a12 a13 a14 a15).heap[g]? = some (.cells #[a0, a1, a2, a3, a4, a5, a6, a7, a8, a9, a10, a11, a12, a13, a14, a15] T (0, 0)) := by
  simp [lay16, World.setCell, Array.getElem?_modify, h]
theorem lay16_grown (w : World) (g : Nat) (a0 a1 a2 a3 a4 a5 a6 a7 a8 a9 a10 a11 a12 a13 a14 a15 : Value) : w.grownBy (lay16 w g a0 a1 a2 a3 a4 a5 a6 a7 a8 a9 a10 a11 a12 a13 a14 a15) (some g) :=
  grown_trans (grown_trans (grown_trans (grown_trans (grown_trans (grown_trans (grown_trans (grown_trans (grown_trans (grown_trans (grown_trans (grown_trans (grown_trans (grown_trans (grown_trans (grown_set w g 0 a0) (From.refl _ _) (grown_set _ g 1 a1)) (From.refl _ _) (grown_set _ g 2 a2)) (From.refl _ _) (grown_set _ g 3 a3)) (From.refl _ _) (grown_set _ g 4 a4)) (From.refl _ _) (grown_set _ g 5 a5)) (From.refl _ _) (grown_set _ g 6 a6)) (From.refl _ _) (grown_set _ g 7 a7)) (From.refl _ _) (grown_set _ g 8 a8)) (From.refl _ _) (grown_set _ g 9 a9)) (From.refl _ _) (grown_set _ g 10 a10)) (From.refl _ _) (grown_set _ g 11 a11)) (From.refl _ _) (grown_set _ g 12 a12)) (From.refl _ _) (grown_set _ g 13 a13)) (From.refl _ _) (grown_set _ g 14 a14)) (From.refl _ _) (grown_set _ g 15 a15)
def layPk (w : World) (g : Nat) (P : Pkt) (A1 : Option Addr) (n1 c1 : Nat) (A2 : Option Addr) (n2 c2 : Nat) (A3 : Option Addr) (n3 c3 : Nat) (A4 : Option Addr) (n4 c4 : Nat) : World := lay16 w g (.int .i64 P.ty) (.int .u32 (P.router : Int)) (.int .u32 (P.area : Int)) (.string P.auth) (.int .u32 (P.mask : Int)) (.int .i64 P.intv) (.int .i64 P.dead) (.int .i64 P.prio) (.int .u32 (P.dr : Int)) (.int .u32 (P.bdr : Int)) (.slice A1 n1 c1) (.int .i64 P.flags) (.int .u32 (P.seq : Int)) (.slice A2 n2 c2) (.slice A3 n3 c3) (.slice A4 n4 c4)
theorem layPk_in {w : World} {g : Nat} {T : TypeId} {z0 z1 z2 z3 z4 z5 z6 z7 z8 z9 z10 z11 z12 z13 z14 z15 : Value} (h : w.heap[g]? = some (.cells #[z0, z1, z2, z3, z4, z5, z6, z7, z8, z9, z10, z11, z12, z13, z14, z15] T (0, 0))) (P : Pkt) (A1 : Option Addr) (n1 c1 : Nat) (A2 : Option Addr) (n2 c2 : Nat) (A3 : Option Addr) (n3 c3 : Nat) (A4 : Option Addr) (n4 c4 : Nat) :
    (layPk w g P A1 n1 c1 A2 n2 c2 A3 n3 c3 A4 n4 c4).heap[g]? = some (.cells (pkC P A1 n1 c1 A2 n2 c2 A3 n3 c3 A4 n4 c4) T (0, 0)) := lay16_in h _ _ _ _ _ _ _ _ _ _ _ _ _ _ _ _
theorem layPk_grown (w : World) (g : Nat) (P : Pkt) (A1 : Option Addr) (n1 c1 : Nat) (A2 : Option Addr) (n2 c2 : Nat) (A3 : Option Addr) (n3 c3 : Nat) (A4 : Option Addr) (n4 c4 : Nat) : w.grownBy (layPk w g P A1 n1 c1 A2 n2 c2 A3 n3 c3 A4 n4 c4) (some g) := lay16_grown w g _ _ _ _ _ _ _ _ _ _ _ _ _ _ _ _

theorem isI_nat (n : Nat) (h : n < 4294967296) : isI (n : Int) := ⟨by omega, by omega⟩
theorem isU_nat (n : Nat) (h : n < 4294967296) : isU (n : Int) := ⟨by omega, by omega⟩
theorem hdOf_wf (l : List UInt8) : (hdOf l).wf := by
  have h0 := fld_bd l 0 2 (by omega)
  have h3 := fld_bd l 3 1 (by omega)
  have h4 := fld_bd l 4 4 (by omega)
  have h8 := fld_bd l 8 4 (by omega)
  have h16 := fld2_bd l 16
  have h18 := fld_bd l 18 2 (by omega)
  refine ⟨isI_nat _ h0, isI_nat _ h3, isU_nat _ h4, isU_nat _ h8, ?_, ⟨by simp only [hdOf]; omega, by simp only [hdOf]; omega⟩, isI_nat _ h18⟩
  simp only [hdOf, isI, sq, wrap32]
  omega
theorem headsOf_wf (l : List UInt8) : ∀ x ∈ headsOf l, x.wf := by
  generalize hn : l.length = n
  induction n using Nat.strongRecOn generalizing l with
  | _ n ih =>
    by_cases h : 20 ≤ l.length
    · rw [headsOf_yes l h]
      intro x hx
      rcases List.mem_cons.1 hx with rfl | hx
      · exact hdOf_wf l
      · exact ih (l.drop 20).length (by rw [List.length_drop]; omega) (l.drop 20) rfl x hx
    · rw [headsOf_no l (by omega)]
      intro x hx
      cases hx
theorem keysOf_wf (l : List UInt8) : ∀ x ∈ keysOf l, x.wf := by
  generalize hn : l.length = n
  induction n using Nat.strongRecOn generalizing l with
  | _ n ih =>
    by_cases h : 12 ≤ l.length
    · rw [keysOf_yes l h]
      intro x hx
      rcases List.mem_cons.1 hx with rfl | hx
      · exact ⟨isI_nat _ (nv_bd _ _ (by omega)), isU_nat _ (nv_bd _ _ (by omega)), isU_nat _ (nv_bd _ _ (by omega))⟩
      · exact ih (l.drop 12).length (by rw [List.length_drop]; omega) (l.drop 12) rfl x hx
    · rw [keysOf_no l (by omega)]
      intro x hx
      cases hx
theorem lsasOf_wf (n : Nat) : ∀ l, ∀ x ∈ (lsasOf n l).2, WfL x := by
  induction n with
  | zero => intro l x hx; simp [lsasOf] at hx
  | succ n ih =>
    intro l x hx
    unfold lsasOf at hx
    split at hx
    · cases hx
    · split at hx
      · cases hx
      · rcases List.mem_cons.1 hx with rfl | hx
        · exact bodyL_wf _
        · exact ih _ x hx
theorem zeroI : isI 0 := ⟨by omega, by omega⟩
theorem bareP_wf (ty : Int) (r a : Nat) (s : ByteArray) (h1 : isI ty) (h2 : r < 4294967296) (h3 : a < 4294967296) : WfP (bareP ty r a s) :=
  ⟨h1, h2, h3, by simp [bareP], zeroI, zeroI, zeroI, by simp [bareP], by simp [bareP], by simp [bareP], zeroI, by simp [bareP], by simp [bareP], by simp [bareP], by simp [bareP]⟩
theorem helloP_wf (y : List UInt8) (P : Pkt) (h : WfP P) : WfP (helloP y P) := by
  constructor
  case ty => simp only [helloP]; exact h.ty
  case router => simp only [helloP]; exact h.router
  case area => simp only [helloP]; exact h.area
  case mask => simp only [helloP]; exact takeV_bd _ _ (by omega)
  case intv => simp only [helloP]; exact isI_nat _ (takeV_bd _ _ (by omega))
  case dead => simp only [helloP]; exact isI_nat _ (takeV_bd _ _ (by omega))
  case prio => simp only [helloP]; exact isI_nat _ (takeV_bd _ _ (by omega))
  case dr => simp only [helloP]; exact takeV_bd _ _ (by omega)
  case bdr => simp only [helloP]; exact takeV_bd _ _ (by omega)
  case nbs => simp only [helloP]; exact routersOf_wf _
  case flags => simp only [helloP]; exact h.flags
  case seq => simp only [helloP]; exact h.seq
  case heads => simp only [helloP]; exact h.heads
  case keys => simp only [helloP]; exact h.keys
  case lsas => simp only [helloP]; exact h.lsas
theorem dataP_wf (y : List UInt8) (P : Pkt) (h : WfP P) : WfP (dataP y P) := by
  constructor
  case ty => simp only [dataP]; exact h.ty
  case router => simp only [dataP]; exact h.router
  case area => simp only [dataP]; exact h.area
  case mask => simp only [dataP]; exact h.mask
  case intv => simp only [dataP]; exact h.intv
  case dead => simp only [dataP]; exact h.dead
  case prio => simp only [dataP]; exact h.prio
  case dr => simp only [dataP]; exact h.dr
  case bdr => simp only [dataP]; exact h.bdr
  case nbs => simp only [dataP]; exact h.nbs
  case flags => simp only [dataP]; exact isI_nat _ (takeV_bd _ _ (by omega))
  case seq => simp only [dataP]; exact takeV_bd _ _ (by omega)
  case heads => simp only [dataP]; exact headsOf_wf _
  case keys => simp only [dataP]; exact h.keys
  case lsas => simp only [dataP]; exact h.lsas
theorem tellsP_wf (y : List UInt8) (P : Pkt) (h : WfP P) : WfP (tellsP y P) := by
  by_cases t1 : P.ty = 1
  · rw [tells1 t1]; exact helloP_wf y P h
  by_cases t2 : P.ty = 2
  · rw [tells2 t2]; exact dataP_wf y P h
  by_cases t3 : P.ty = 3
  · rw [tells3 t3]
    exact ⟨h.ty, h.router, h.area, h.mask, h.intv, h.dead, h.prio, h.dr, h.bdr, h.nbs, h.flags, h.seq, h.heads, keysOf_wf _, h.lsas⟩
  by_cases t4 : P.ty = 4
  · rw [tells4 t4]
    exact ⟨h.ty, h.router, h.area, h.mask, h.intv, h.dead, h.prio, h.dr, h.bdr, h.nbs, h.flags, h.seq, h.heads, h.keys, lsasOf_wf _ _⟩
  by_cases t5 : P.ty = 5
  · rw [tells5 t5]
    exact ⟨h.ty, h.router, h.area, h.mask, h.intv, h.dead, h.prio, h.dr, h.bdr, h.nbs, h.flags, h.seq, headsOf_wf _, h.keys, h.lsas⟩
  · rw [tells0 (by omega)]
    exact h
theorem frontP_eq (l : List UInt8) (s : ByteArray) : frontP l s = bareP (byt l 1 : Nat) (fld l 4 4) (fld l 8 4) s := rfl
theorem wholeP_wf (l : List UInt8) (s : ByteArray) : WfP (wholeP l s) := by
  unfold wholeP
  rw [frontP_eq]
  have := byt_lt l 1
  exact tellsP_wf _ _ (bareP_wf _ _ _ _ (isI_nat _ (by omega)) (fld_bd _ _ _ (by omega)) (fld_bd _ _ _ (by omega)))
end Go.Proofs.Ytgopkpogakjckaa
