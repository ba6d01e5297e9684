/-
  Contracts of layer 11's law: To and From.
-/
import Derived.Test.YtgopkpogakjckaaPzA
import Derived.Test.YtgopkpogakjckaaPkJ
import Derived.Test.YtgopkpogakjckaaLg5
import Derived.Test.YtgopkpogakjckaaRowB
import Derived.Great.BuildSlice
namespace Go.Proofs.Ytgopkpogakjckaa
set_option linter.unusedVariables false
set_option linter.unusedSimpArgs false
open Go Go.RowKit SM LM PK

theorem pkC_ones (P : Pkt) (A1 : Option Addr) (n1 c1 : Nat) (A2 : Option Addr) (n2 c2 : Nat) (A3 : Option Addr) (n3 c3 : Nat) (A4 : Option Addr) (n4 c4 : Nat) : (pkC P A1 n1 c1 A2 n2 c2 A3 n3 c3 A4 n4 c4).all (·.oneCell') = true := by simp [pkC, Value.oneCell']
/-- all lists of a packet lie in new blocks -/
structure FreshP (B : Nat) (A1 A2 A3 A4 : Option Addr) (R : List LsR) : Prop where
  f1 : FreshA B A1
  f2 : FreshA B A2
  f3 : FreshA B A3
  f4 : FreshA B A4
  fr : ∀ r ∈ R, FreshA B r.A1 ∧ FreshA B r.A2
def ConvPost (P : Pkt) (w : World) (e : Ending) (w' : World) : Prop :=
  ∃ B1 m1 d1 B2 m2 d2 B3 m3 d3 B4 m4 d4 R, e = .returned (.agg (pkC P B1 m1 d1 B2 m2 d2 B3 m3 d3 B4 m4 d4)) ∧ IsPk w' P B1 m1 d1 B2 m2 d2 B3 m3 d3 B4 m4 d4 R ∧ Below w.heap.size w w' ∧ FreshP w.heap.size B1 B2 B3 B4 R
/-- a field of a block that a loop appends to -/
structure LoI (w0 : World) (g : Nat) (T : TypeId) (cs : Array Value) (e : TypeId) (size n : Nat) (v : Value) (xs : List Value) (wr : World) : Prop where
  hl : wr.heap[g]? = some (.cells cs T (0, 0))
  own : wr.ownsRow w0.heap.size e size v n xs
  kp : Kept (fun b => b = g) w0 wr
theorem HD_take_succ (l : List Hdr) (k : Nat) (h : k < l.length) : HD (l.take (k + 1)) = HD (l.take k) ++ HD [hdAt l k] := by
  have e : l.take (k + 1) = l.take k ++ [l[k]] := List.take_succ_eq_append_getElem h
  rw [e, HD_append]
  unfold hdAt
  rw [List.getD_eq_getElem?_getD, List.getElem?_eq_getElem h]
  rfl
theorem KY_take_succ (l : List Ky) (k : Nat) (h : k < l.length) : KY (l.take (k + 1)) = KY (l.take k) ++ KY [kyAt l k] := by
  have e : l.take (k + 1) = l.take k ++ [l[k]] := List.take_succ_eq_append_getElem h
  rw [e, KY_append]
  unfold kyAt
  rw [List.getD_eq_getElem?_getD, List.getElem?_eq_getElem h]
  rfl
theorem st_rhds : ST Try.prog 26 105 7 48 := .mk Try.underlying26 (z := .agg #[.int .i64 0, .int .i64 0, .int .u32 0, .int .u32 0, .int .i64 0, .int .u16 0, .int .i64 0]) (by kernel_rfl) rfl (by omega)
theorem st_rkys : ST Try.prog 27 74 3 16 := .mk Try.underlying27 (z := .agg #[.int .i64 0, .int .u32 0, .int .u32 0]) (by kernel_rfl) rfl (by omega)
theorem st_rlsas : ST Try.prog 28 77 9 96 := .mk Try.underlying28 (z := .agg #[.int .i64 0, .int .i64 0, .int .u32 0, .int .u32 0, .int .i64 0, .slice none 0 0, .int .u32 0, .slice none 0 0, .int .i64 0]) (by kernel_rfl) rfl (by omega)
theorem ls_zipU (l : List Lsa) (R : List LsR) (h : R.length = l.length) (k : Nat) (hk : k < l.length) : (lsAt (l.zip R) k).1 = l.getD k ls0.1 ∧ lsAt (l.zip R) k ∈ l.zip R := by
  have hz : k < (l.zip R).length := by rw [List.length_zip]; omega
  unfold lsAt
  rw [List.getD_eq_getElem?_getD, List.getD_eq_getElem?_getD, List.getElem?_eq_getElem hz, List.getElem?_eq_getElem hk]
  exact ⟨by simp, List.getElem_mem hz⟩
theorem zip_done (l : List (Lsa × LsR)) : (l.map Prod.fst).zip (l.map Prod.snd) = l := by
  induction l with
  | nil => rfl
  | cons a l ih => simp only [List.map_cons, List.zip_cons_cons, ih]
/-- the same outside of a region that draws -/
theorem wpList_build1 {P : Program} {ops : Array Oper} {rest : List Oper} {op : Oper} {a : Act} {w : World} {Q : Exit → Act → World → Prop} (hgd : op.guard = none) {t e : TypeId} {size bytes : Nat} (hT : ST P t e size bytes) (x : Operand) (ho : op.op = .buildSlice t 1 #[(0, x)])
    (cs : Array Value) (hx : a.eval x = .agg cs) (hs : cs.size = size) (h0 : 0 < size) (hm : size ≤ 1000)
    (h : wpList P ops Q rest (a.put op.dst (.slice (some ⟨w.heap.size, 0, none⟩) 1 1)) (w.alloc (.cells cs e))) : wpList P ops Q (op :: rest) a w :=
  wpList_plain hgd fun _ hK => by
    have hrun := run_build1 (P := P) (w := w) hT cs hs h0 hm
    unfold Oper.wp execOp
    simp only [ho, List.map_toArray, List.map_cons, List.map_nil, hx, Sem.run_bind, hrun, Result.andThen_ok]
    exact hK _ _ h
/-! ### an Lsa that a call has made, within a region -/
def InL (r : LsR) (S : Nat → Prop) : Prop := (0 < r.n1 → ∀ ad, r.A1 = some ad → S ad.block) ∧ (0 < r.n2 → ∀ ad, r.A2 = some ad → S ad.block)
def OneL (X : Lsa) (B : Nat) (r : LsR) : Fact := fun S w => IsL w (X, r) ∧ InL r S ∧ FreshA B r.A1 ∧ FreshA B r.A2
theorem sl_sameB {w w' : World} {size n c : Nat} {A : Option Addr} {xs : List Value} (h : Sl w size (.slice A n c) xs) (hs : 0 < n → ∀ ad, A = some ad → w'.heap[ad.block]? = w.heap[ad.block]?) : Sl w' size (.slice A n c) xs := by
  obtain ⟨A', n', c', he, hl, hnc, hcm, hr⟩ := h
  injection he with e1 e2 e3
  subst e1; subst e2; subst e3
  refine ⟨_, _, _, rfl, hl, hnc, hcm, fun hn => ?_⟩
  obtain ⟨b, off, rfl, hlt, hc⟩ := hr hn
  have hb : w'.heap[b]? = w.heap[b]? := hs hn _ rfl
  have hlt' : b < w'.heap.size := by
    have h1 : w.heap[b]? = some w.heap[b] := Array.getElem?_eq_getElem hlt
    have h2 : w'.heap[b]? = some w.heap[b] := hb.trans h1
    exact (Array.getElem?_eq_some_iff.1 h2).1
  exact ⟨b, off, rfl, hlt', fun i hi => (World.cell?_of_block hb).trans (hc i hi)⟩
theorem good_oneL (X : Lsa) (B : Nat) (r : LsR) : Good (OneL X B r) := fun S S' w w' h1 h2 ⟨h3, h4, h5, h6⟩ =>
  ⟨⟨sl_sameB h3.links (fun hn ad had => h2 _ (h4.1 hn ad had)), sl_sameB h3.routers (fun hn ad had => h2 _ (h4.2 hn ad had))⟩, ⟨fun hn ad had => h1 _ (h4.1 hn ad had), fun hn ad had => h1 _ (h4.2 hn ad had)⟩, h5, h6⟩
def CallL (X : Lsa) (B : Nat) (v : Value) : Fact := fun S w => ∃ r : LsR, v = .agg (lsaC X r.A1 r.n1 r.c1 r.A2 r.n2 r.c2) ∧ OneL X B r S w
theorem good_callL (X : Lsa) (B : Nat) (v : Value) : Good (CallL X B v) := fun S S' w w' h1 h2 ⟨r, h3, h4⟩ => ⟨r, h3, good_oneL X B r S S' w w' h1 h2 h4⟩
def MadeL (X : Lsa) (B base : Nat) (e : TypeId) (v : Value) : Fact := fun S w => ∃ r : LsR, OwnF base e 9 1 (LS [(X, r)]) v S w ∧ OneL X B r S w
theorem good_madeL (X : Lsa) (B base : Nat) (e : TypeId) (v : Value) : Good (MadeL X B base e v) := fun S S' w w' h1 h2 ⟨r, h3, h4⟩ => ⟨r, good_own _ _ _ _ _ _ S S' w w' h1 h2 h3, good_oneL X B r S S' w w' h1 h2 h4⟩
def RowsL (X : Lsa) (B base : Nat) (e : TypeId) (done : List (Lsa × LsR)) (n : Nat) (old v : Value) : Fact := fun S w =>
  ∃ r : LsR, OwnF base e 9 (n + 1) (LS (done ++ [(X, r)])) v S w ∧ OneL X B r S w ∧ Apart v (X, r) ∧ ∀ b, v.ownBlock = some b → old.ownBlock = some b ∨ B ≤ b
theorem good_rowsL (X : Lsa) (B base : Nat) (e : TypeId) (done : List (Lsa × LsR)) (n : Nat) (old v : Value) : Good (RowsL X B base e done n old v) := fun S S' w w' h1 h2 ⟨r, h3, h4, h5, h6⟩ =>
  ⟨r, good_own _ _ _ _ _ _ S S' w w' h1 h2 h3, good_oneL X B r S S' w w' h1 h2 h4, h5, h6⟩
theorem lsaC_inj (X : Lsa) (r r' : LsR) (h : (Value.agg (lsaC X r.A1 r.n1 r.c1 r.A2 r.n2 r.c2)) = .agg (lsaC X r'.A1 r'.n1 r'.c1 r'.A2 r'.n2 r'.c2)) : r = r' := by
  obtain ⟨a1, a2, a3, a4, a5, a6⟩ := r
  obtain ⟨b1, b2, b3, b4, b5, b6⟩ := r'
  simp at h
  obtain ⟨⟨h1, h2, h3⟩, h4, h5, h6⟩ := h
  subst h1; subst h2; subst h3; subst h4; subst h5; subst h6
  rfl
theorem oneL_set {X : Lsa} {B g i : Nat} {r : LsR} {S : Nat → Prop} {w : World} (v : Value) (h : OneL X B r S w) (hg : g < B) : OneL X B r (fun b => S b ∨ (w.heap.size ≤ b ∧ b < (w.setCell ⟨g, i, none⟩ v).heap.size)) (w.setCell ⟨g, i, none⟩ v) := by
  obtain ⟨h3, h4, h5, h6⟩ := h
  have hK : Kept (fun b => b = g) w (w.setCell ⟨g, i, none⟩ v) := Kept.setCell (S := fun b => b = g) (Kept.refl _ w) (p := ⟨g, i, none⟩) (.inl rfl) v
  exact ⟨⟨sl_kept h3.links hK (fun ad had hb => by have := h5 ad had; omega), sl_kept h3.routers hK (fun ad had hb => by have := h6 ad had; omega)⟩, ⟨fun hn ad had => .inl (h4.1 hn ad had), fun hn ad had => .inl (h4.2 hn ad had)⟩, h5, h6⟩
set_option maxRecDepth 100000 in
set_option maxHeartbeats 1600000 in
theorem head10_any (X : Hdr) (w : World) : Calls Try.prog 40 #[.agg (hdC X).toArray] w fun e w' => e = .returned (.agg (hdC X).toArray) ∧ Below w.heap.size w w' := by
  obtain ⟨xa, xt, xi, xv, xs, xm, xl⟩ := X
  simp only [hdC]
  go_enter Try.func40, Try.ntmps40
  go_upto_region 1 with fail
  have hb0 := blk_alloc (heap_alloc_new w (.cells #[.int .i64 xa, .int .i64 xt, .int .u32 xi, .int .u32 xv, .int .i64 xs, .int .u16 xm, .int .i64 xl] 105)) (.cells #[.int .i64 0, .int .i64 0, .int .u32 0, .int .u32 0, .int .i64 0, .int .u16 0, .int .i64 0] 96)
  have hb1 := heap_alloc_new (w.alloc (.cells #[.int .i64 xa, .int .i64 xt, .int .u32 xi, .int .u32 xv, .int .i64 xs, .int .u16 xm, .int .i64 xl] 105)) (.cells #[.int .i64 0, .int .i64 0, .int .u32 0, .int .u32 0, .int .i64 0, .int .u16 0, .int .i64 0] 96)
  rw [show (w.alloc (.cells #[.int .i64 xa, .int .i64 xt, .int .u32 xi, .int .u32 xv, .int .i64 xs, .int .u16 xm, .int .i64 xl] 105)).heap.size = w.heap.size + 1 by simp] at hb1
  have hbb := ((Below.refl w.heap.size w).alloc (Nat.le_refl _) (.cells #[.int .i64 xa, .int .i64 xt, .int .u32 xi, .int .u32 xv, .int .i64 xs, .int .u16 xm, .int .i64 xl] 105)).alloc (by simp) (.cells #[.int .i64 0, .int .i64 0, .int .u32 0, .int .u32 0, .int .i64 0, .int .u16 0, .int .i64 0] 96)
  generalize (w.alloc (.cells #[.int .i64 xa, .int .i64 xt, .int .u32 xi, .int .u32 xv, .int .i64 xs, .int .u16 xm, .int .i64 xl] 105)).alloc (.cells #[.int .i64 0, .int .i64 0, .int .u32 0, .int .u32 0, .int .i64 0, .int .u16 0, .int .i64 0] 96) = w1 at *
  obtain ⟨hc0, hf0⟩ := blk_cells hb0
  go_wp2_with (refine wpList_store_whole rfl 96 (.tmp 2) (.tmp 21) rfl #[.int .i64 xa, .int .i64 xt, .int .u32 xi, .int .u32 xv, .int .i64 xs, .int .u16 xm, .int .i64 xl] rfl rfl hb1 (by kernel_rfl) rfl (by simp [Value.oneCell']) ?_)
  intro wz hgz hgrz
  have hbz := hbb.trans ((Below.refl w.heap.size w1).grown hgrz hbb.size (by intro k hk; injection hk with hk; omega))
  clear hc0 hf0
  go_wp2_with fail
  exact ret_row1 (fn := Try.f40) (cs := #[.int .i64 xa, .int .i64 xt, .int .u32 xi, .int .u32 xv, .int .i64 xs, .int .u16 xm, .int .i64 xl]) rfl rfl hgz Try.underlying96 rfl (by kernel_rfl) rfl ⟨rfl, hbz⟩
set_option maxRecDepth 100000 in
set_option maxHeartbeats 20000000 in
theorem to_pk (P : Pkt) (A1 : Option Addr) (n1 c1 : Nat) (A2 : Option Addr) (n2 c2 : Nat) (A3 : Option Addr) (n3 c3 : Nat) (A4 : Option Addr) (n4 c4 : Nat) (R : List LsR) (w : World) (h : IsPk w P A1 n1 c1 A2 n2 c2 A3 n3 c3 A4 n4 c4 R)
    (hm1 : n1 * 4 ≤ 140737488355328) (hm2 : n2 * 48 ≤ 140737488355328) (hm3 : n3 * 16 ≤ 140737488355328) (hm4 : n4 * 96 ≤ 140737488355328) (hml : ∀ p ∈ P.lsas.zip R, p.2.n1 * 24 ≤ 140737488355328 ∧ p.2.n2 * 4 ≤ 140737488355328) :
    Calls Try.prog 9 #[.agg (pkC P A1 n1 c1 A2 n2 c2 A3 n3 c3 A4 n4 c4)] w (ConvPost P w) := by
  have HP0 := hid h
  have HN := hid h.lens
  obtain ⟨PP, hPP⟩ : ∃ PP, PP = P := ⟨_, rfl⟩
  have HPP := hid hPP
  clear hPP
  obtain ⟨ty, router, area, auth, mask, intv, dead, prio, dr, bdr, nbs, flags, seq, heads, keys, lsas⟩ := P
  try simp only at HN hml
  have HML := hid hml
  clear h hml
  go_enter Try.func9, Try.ntmps9
  go_upto_region 2 with fail
  have hbP := blk_alloc (blk_alloc (heap_alloc_new w (.cells (pkC ⟨ty, router, area, auth, mask, intv, dead, prio, dr, bdr, nbs, flags, seq, heads, keys, lsas⟩ A1 n1 c1 A2 n2 c2 A3 n3 c3 A4 n4 c4) 30)) (.cells zeroC 40)) (.cells (gtC ⟨ty, router, area, auth, mask, intv, dead, prio, dr, bdr, nbs, flags, seq, heads, keys, lsas⟩ A1 n1 c1) 25)
  have hbR := blk_alloc (heap_alloc_new (w.alloc (.cells (pkC ⟨ty, router, area, auth, mask, intv, dead, prio, dr, bdr, nbs, flags, seq, heads, keys, lsas⟩ A1 n1 c1 A2 n2 c2 A3 n3 c3 A4 n4 c4) 30)) (.cells zeroC 40)) (.cells (gtC ⟨ty, router, area, auth, mask, intv, dead, prio, dr, bdr, nbs, flags, seq, heads, keys, lsas⟩ A1 n1 c1) 25)
  have hbG := heap_alloc_new ((w.alloc (.cells (pkC ⟨ty, router, area, auth, mask, intv, dead, prio, dr, bdr, nbs, flags, seq, heads, keys, lsas⟩ A1 n1 c1 A2 n2 c2 A3 n3 c3 A4 n4 c4) 30)).alloc (.cells zeroC 40)) (.cells (gtC ⟨ty, router, area, auth, mask, intv, dead, prio, dr, bdr, nbs, flags, seq, heads, keys, lsas⟩ A1 n1 c1) 25)
  have hbb := (((Below.refl w.heap.size w).alloc (Nat.le_refl _) (.cells (pkC ⟨ty, router, area, auth, mask, intv, dead, prio, dr, bdr, nbs, flags, seq, heads, keys, lsas⟩ A1 n1 c1 A2 n2 c2 A3 n3 c3 A4 n4 c4) 30)).alloc (by simp) (.cells zeroC 40)).alloc (by simp; omega) (.cells (gtC ⟨ty, router, area, auth, mask, intv, dead, prio, dr, bdr, nbs, flags, seq, heads, keys, lsas⟩ A1 n1 c1) 25)
  rw [show (w.alloc (.cells (pkC ⟨ty, router, area, auth, mask, intv, dead, prio, dr, bdr, nbs, flags, seq, heads, keys, lsas⟩ A1 n1 c1 A2 n2 c2 A3 n3 c3 A4 n4 c4) 30)).heap.size = w.heap.size + 1 by simp] at hbR
  rw [show ((w.alloc (.cells (pkC ⟨ty, router, area, auth, mask, intv, dead, prio, dr, bdr, nbs, flags, seq, heads, keys, lsas⟩ A1 n1 c1 A2 n2 c2 A3 n3 c3 A4 n4 c4) 30)).alloc (.cells zeroC 40)).heap.size = w.heap.size + 2 by simp] at hbG
  have hs1 : (((w.alloc (.cells (pkC ⟨ty, router, area, auth, mask, intv, dead, prio, dr, bdr, nbs, flags, seq, heads, keys, lsas⟩ A1 n1 c1 A2 n2 c2 A3 n3 c3 A4 n4 c4) 30)).alloc (.cells zeroC 40)).alloc (.cells (gtC ⟨ty, router, area, auth, mask, intv, dead, prio, dr, bdr, nbs, flags, seq, heads, keys, lsas⟩ A1 n1 c1) 25)).heap.size = w.heap.size + 3 := by simp
  generalize ((w.alloc (.cells (pkC ⟨ty, router, area, auth, mask, intv, dead, prio, dr, bdr, nbs, flags, seq, heads, keys, lsas⟩ A1 n1 c1 A2 n2 c2 A3 n3 c3 A4 n4 c4) 30)).alloc (.cells zeroC 40)).alloc (.cells (gtC ⟨ty, router, area, auth, mask, intv, dead, prio, dr, bdr, nbs, flags, seq, heads, keys, lsas⟩ A1 n1 c1) 25) = w1 at *
  have hnb1 := HP0.out.nbs.below hbb
  have HB := hid hbb
  have kP : ∀ (x : WK (fun _ => False) w1) j, (wat x).cell? ⟨w.heap.size, j, none⟩ = _ := fun x j => (wat_cell (p := ⟨w.heap.size, j, none⟩) (by simp; omega) (by simp) x).trans ((blk_cells hbP).1 j)
  have kG : ∀ (x : WK (fun _ => False) w1) j, (wat x).cell? ⟨w.heap.size + 2, j, none⟩ = _ := fun x j => (wat_cell (p := ⟨w.heap.size + 2, j, none⟩) (by simp; omega) (by simp) x).trans ((blk_cells hbG).1 j)
  have p0 := fun x => kP x 0; have p1 := fun x => kP x 1; have p2 := fun x => kP x 2; have p3 := fun x => kP x 3; have p11 := fun x => kP x 11; have p12 := fun x => kP x 12
  have g0 := fun x => kG x 0; have g1 := fun x => kG x 1; have g2 := fun x => kG x 2; have g3 := fun x => kG x 3; have g4 := fun x => kG x 4; have g5 := fun x => kG x 5; have g6 := fun x => kG x 6
  simp at p0 p1 p2 p3 p11 p12 g0 g1 g2 g3 g4 g5 g6
  clear kP kG
  refine wp_region_loud (fun _ => False)
    [(20, rowL [] w1.heap.size 22 1 0 []), (23, rowL [20] w1.heap.size 22 1 n1 (U32 nbs)), (30, newL 40 zeroC),
     (31, argL [23, 30] (fun _ _ => True) (fun xs _ S w' => ∃ g A c, xs = [.pointer (some ⟨g, 0, none⟩), .agg (pkC ⟨ty, router, area, auth, mask, intv, dead, prio, dr, bdr, nbs, flags, seq, heads, keys, lsas⟩ A n1 c none 0 0 none 0 0 none 0 0)] ∧ BlkF g 40 (pkC ⟨ty, router, area, auth, mask, intv, dead, prio, dr, bdr, nbs, flags, seq, heads, keys, lsas⟩ A n1 c none 0 0 none 0 0 none 0 0) S w' ∧ OwnF w1.heap.size 22 1 n1 (U32 nbs) (.slice A n1 c) S w'))]
    (fun _ => Fact.none) (by kernel_rfl) (by kernel_rfl)
    (.cons (rowL_ok _ _ _ _ _ _) (.cons (rowL_ok _ _ _ _ _ _) (.cons (newL_ok _ _) (.cons (argL_ok (fun _ => ⟨undef, trivial⟩) (fun xs _ S S' w w' h1 h2 ⟨g, A, c, h0, h3, h4⟩ => ⟨g, A, c, h0, good_blk _ _ _ S S' w w' h1 h2 h3, good_own _ _ _ _ _ _ S S' w w' h1 h2 h4⟩)) .nil))))
    good_nothing sat_none (WX.out ?_)
  repeat (first | ((first | refine wx_quietU (by rfl) (by rfl) (by rfl) (fun K hK => ?_) | refine wx_quietG (by rfl) (by rfl) (by rfl) (by rfl) (by rfl) (fun K hK => ?_)); go_big_quiet_op; refine hK _ ?_; clear hK K) | ((first | refine wx_skipG (by rfl) (by rfl) (by rfl) (fun K hK => ?_) | refine wx_skipN (by rfl) (by rfl) (by rfl) (fun K hK => ?_)); go_simp; refine hK _ ?_; clear hK K))
  refine wx_loudU (us := []) (by rfl) (by rfl) (fun S wS hC hS hU => ?_) (fun v hv K hK => ?_)
  · exact runs_value (by go_simp <;> rfl) (made_x rfl hC.size (by rfl) (by rfl) (by omega) (by omega))
  obtain ⟨A6, c6, rfl⟩ := hv; (go_simp; refine hK _ ?_; clear hK K)
  repeat (first | ((first | refine wx_quietU (by rfl) (by rfl) (by rfl) (fun K hK => ?_) | refine wx_quietG (by rfl) (by rfl) (by rfl) (by rfl) (by rfl) (fun K hK => ?_)); go_big_quiet_op; refine hK _ ?_; clear hK K) | ((first | refine wx_skipG (by rfl) (by rfl) (by rfl) (fun K hK => ?_) | refine wx_skipN (by rfl) (by rfl) (by rfl) (fun K hK => ?_)); go_simp; refine hK _ ?_; clear hK K))
  refine wx_loudU (us := [20]) (by rfl) (by rfl) (fun S wS hC hS hU => ?_) (fun v hv K hK => ?_)
  · refine runs_mono (appS_x (zs := U32 nbs) (.tmp 30) (.tmp 32) st_u32 (by rfl) (by rfl) (by rfl) (hU 20 (by simp)) (sl_kept hnb1 hC (by simp)) (U32_one _) (by simp [maxLen]; omega) (by omega) hC.size (by simp)) ?_
    intro v w' hL
    simp only [Nat.zero_add] at hL
    exact hL
  obtain ⟨A7, c7, rfl⟩ := hv; (go_simp; refine hK _ ?_; clear hK K)
  repeat (first | ((first | refine wx_quietU (by rfl) (by rfl) (by rfl) (fun K hK => ?_) | refine wx_quietG (by rfl) (by rfl) (by rfl) (by rfl) (by rfl) (fun K hK => ?_)); go_big_quiet_op; refine hK _ ?_; clear hK K) | ((first | refine wx_skipG (by rfl) (by rfl) (by rfl) (fun K hK => ?_) | refine wx_skipN (by rfl) (by rfl) (by rfl) (fun K hK => ?_)); go_simp; refine hK _ ?_; clear hK K))
  refine wx_loudU (us := []) (by rfl) (by rfl) (fun S wS hC hS hU => ?_) (fun v hv K hK => ?_)
  · exact runs_value (by go_simp <;> rfl) (newB_x rfl)
  obtain ⟨g, rfl⟩ := hv; (go_simp; refine hK _ ?_; clear hK K)
  repeat (first | ((first | refine wx_quietU (by rfl) (by rfl) (by rfl) (fun K hK => ?_) | refine wx_quietG (by rfl) (by rfl) (by rfl) (by rfl) (by rfl) (fun K hK => ?_)); go_big_quiet_op; refine hK _ ?_; clear hK K) | ((first | refine wx_skipG (by rfl) (by rfl) (by rfl) (fun K hK => ?_) | refine wx_skipN (by rfl) (by rfl) (by rfl) (fun K hK => ?_)); go_simp; refine hK _ ?_; clear hK K))
  refine wx_loudU (us := [23, 30]) (by rfl) (by rfl) (fun S wS hC hS hU => ?_) (fun v hv K hK => ?_)
  · have k23 : OwnF w1.heap.size 22 1 n1 (U32 nbs) (.slice A7 n1 c7) S wS := hU 23 (by simp)
    obtain ⟨g', e1, k30, k31⟩ := (hU 30 (by simp) : NewB 40 zeroC (.pointer (some ⟨g, 0, none⟩)) S wS)
    injection e1 with e1
    injection e1 with e1
    injection e1 with e1
    subst e1
    have hne := own_ne_blk k23.2 k31 (by decide)
    have h7 := ownsRow_kept k23.2 (kept_setRow (S := fun b => b = g) wS g (pkC ⟨ty, router, area, auth, mask, intv, dead, prio, dr, bdr, nbs, flags, seq, heads, keys, lsas⟩ A7 n1 c7 none 0 0 none 0 0 none 0 0) rfl) hne
    exact runs_store_whole 40 (.tmp 4) (.tmp 39) rfl (pkC ⟨ty, router, area, auth, mask, intv, dead, prio, dr, bdr, nbs, flags, seq, heads, keys, lsas⟩ A7 n1 c7 none 0 0 none 0 0 none 0 0) rfl rfl k31 (by kernel_rfl) rfl (pkC_ones _ _ _ _ _ _ _ _ _ _ _ _ _)
      ⟨trivial, kept_setRow wS g _ k30, g, A7, c7, rfl, ⟨.inl k30, setRow_heap _ _ _ _ _ _ k31⟩, ⟨fun x hx => .inl (k23.1 x hx), h7⟩⟩
  (go_simp; refine hK _ ?_; clear hK K)
  repeat (first | ((first | refine wx_quietU (by rfl) (by rfl) (by rfl) (fun K hK => ?_) | refine wx_quietG (by rfl) (by rfl) (by rfl) (by rfl) (by rfl) (fun K hK => ?_)); go_big_quiet_op; refine hK _ ?_; clear hK K) | ((first | refine wx_skipG (by rfl) (by rfl) (by rfl) (fun K hK => ?_) | refine wx_skipN (by rfl) (by rfl) (by rfl) (fun K hK => ?_)); go_simp; refine hK _ ?_; clear hK K))
  refine wx_nil fun w4 hsat => ?_
  obtain ⟨S31, hS31, hfin⟩ := sat_get hsat 31
  obtain ⟨g', A8, c8, hxs, hb4, ho4⟩ := (hfin : ∃ g' A c, [Value.pointer (some ⟨g, 0, none⟩), .agg (pkC ⟨ty, router, area, auth, mask, intv, dead, prio, dr, bdr, nbs, flags, seq, heads, keys, lsas⟩ A7 n1 c7 none 0 0 none 0 0 none 0 0)] = [.pointer (some ⟨g', 0, none⟩), .agg (pkC ⟨ty, router, area, auth, mask, intv, dead, prio, dr, bdr, nbs, flags, seq, heads, keys, lsas⟩ A n1 c none 0 0 none 0 0 none 0 0)] ∧ BlkF g' 40 (pkC ⟨ty, router, area, auth, mask, intv, dead, prio, dr, bdr, nbs, flags, seq, heads, keys, lsas⟩ A n1 c none 0 0 none 0 0 none 0 0) S31 w4 ∧ OwnF w1.heap.size 22 1 n1 (U32 nbs) (.slice A n1 c) S31 w4)
  obtain rfl : g' = g := by
    injection hxs with e1 _
    injection e1 with e1
    injection e1 with e1
    injection e1 with e1
    exact e1.symm
  clear hxs
  have hg1 : w1.heap.size ≤ g' ∧ g' < w4.heap.size := by
    have := hS31 g' hb4.1
    rcases this with ⟨h1 | h1, h2⟩
    · exact h1.elim
    · exact ⟨h1, h2⟩
  have hl4 := hb4.2
  have hne4 := own_ne_blk ho4.2 hl4 (by decide)
  have hfr4 : Hid (∀ ad, A8 = some ad → w.heap.size + 3 ≤ ad.block ∧ ad.block ≠ g') := fun ad had => by
    have h1 := freshA_own ho4.2 ad had
    have h2 := hne4 ad.block (by rw [had]; rfl)
    omega
  have hN4 := own_sl ho4.2
  have hb14 := sat_below hsat
  have hbb4 := hbb.trans (hb14.mono hbb.size)
  have hbP4 := blk_below hbP hb14 (by omega)
  have hbR4 := blk_below hbR hb14 (by omega)
  have hs4 := hb14.size
  clear hsat hS31 hb4 ho4 hb14 hbP hbR hbG hbb hnb1 p0 p1 p2 p3 p11 p12 g0 g1 g2 g3 g4 g5 g6 HB hne4
  obtain ⟨CS, hCS⟩ : ∃ CS : Value → Value → Value → Array Value, CS = fun x y z => #[.int .i64 ty, .int .u32 (router : Int), .int .u32 (area : Int), .string auth, .int .u32 (mask : Int), .int .i64 intv, .int .i64 dead, .int .i64 prio, .int .u32 (dr : Int), .int .u32 (bdr : Int), .slice A8 n1 c8, .int .i64 flags, .int .u32 (seq : Int), x, y, z] := ⟨_, rfl⟩
  have HCS := hid hCS
  have hl4' : w4.heap[g']? = some (.cells (CS (.slice none 0 0) (.slice none 0 0) (.slice none 0 0)) 40 (0, 0)) := by rw [hCS]; exact hl4
  clear hCS hl4
  have hgw : w.heap.size + 3 ≤ g' := by omega
  have hg4 := hg1.2
  have HBB := hid hbb4
  have HBP := hid hbP4
  have HBR := hid hbR4
  clear hg1 hs4 hs1 hbb4 hbP4 hbR4
  as_aux_lemma =>
    go_upto_region 4 with fail
    go_loopw [5] (fun i wr => ∃ (k : Nat) (A : Option Addr) (c : Nat), k ≤ n2 ∧ i = .int .i64 k ∧ LoI w4 g' 40 (CS (.slice A k c) (.slice none 0 0) (.slice none 0 0)) 96 7 k (.slice A k c) (HD (heads.take k)) wr) (fun i _ => n2 - (intOf i).toNat)
    case atStart => exact ⟨0, none, 0, Nat.zero_le _, rfl, hl4', by simpa [HD] using World.ownsRow_nil _ _ _ _, Kept.refl _ _⟩
    case round =>
      obtain ⟨k, A, c, hk, rfl, hI⟩ := hrel
      have hsz := hI.kp.size
      have hbPr := blk_kept HBP.out hI.kp (by omega)
      have hbr : Below w.heap.size w wr := HBB.out.trans (hI.kp.below_of (B := w.heap.size) (by omega) (fun b hb => by omega))
      have hcP := (blk_cells hbPr).1
      by_cases hlt : k < n2
      · have hlt' : k < heads.length := by rw [HN.out.2.1]; exact hlt
        obtain ⟨b, off, rfl, _, q0, q1, q2, q3, q4, q5, q6⟩ := (HP0.out.heads.below hbr).hd hlt
        have hbl : b < w.heap.size := by
          obtain ⟨b', off', e', hb', _⟩ := HP0.out.heads.hd hlt
          injection e' with e'
          injection e' with e' _
          omega
        have HTK := hid (HD_take_succ heads k hlt')
        clear hlt'
        generalize hdAt heads k = X at *
        obtain ⟨xa, xt, xi, xv, xs, xm, xl⟩ := X
        try simp only at q0 q1 q2 q3 q4 q5 q6
        as_aux_lemma =>
          go_upto_region 6 with fail
          have hown := hI.own
          have hne1 : ∀ y : Nat, y < w.heap.size + 3 → ¬ ((False ∨ y = g') ∨ Value.ownBlock (.slice A k c) = some y) := fun y hy hh => by
            rcases hh with (hh | hh) | hh
            · exact hh
            · omega
            · have := (hown.lt _ hh).1; omega
          have hz : ∀ (z : WK (fun y => (False ∨ y = g') ∨ Value.ownBlock (.slice A k c) = some y) wr) y i, y < w.heap.size + 3 → (wat z).cell? ⟨y, i, none⟩ = wr.cell? ⟨y, i, none⟩ := fun z y i hy => wat_cell (p := ⟨y, i, none⟩) (by simp; omega) (hne1 y hy) z
          have hd1 : ∀ y, Value.ownBlock (.slice A k c) = some y → (False ∨ y = g') → False := by
            rintro y h1 (h2 | h2)
            · exact h2
            · have := (hown.lt y h1).1; omega
          have z7 : ∀ z : WK (fun y => (False ∨ y = g') ∨ Value.ownBlock (.slice A k c) = some y) wr, (wat z).cell? ⟨w.heap.size, 13, none⟩ = some (.slice (some ⟨b, off, none⟩) n2 c2) := fun z => (hz z _ 13 (by omega)).trans (hcP 13)
          have z0 := fun z => (hz z b (off + k * 7) (by omega)).trans q0
          have z1 := fun z => (hz z b (off + k * 7 + 1) (by omega)).trans q1
          have z2 := fun z => (hz z b (off + k * 7 + 2) (by omega)).trans q2
          have z3 := fun z => (hz z b (off + k * 7 + 3) (by omega)).trans q3
          have z4 := fun z => (hz z b (off + k * 7 + 4) (by omega)).trans q4
          have z5 := fun z => (hz z b (off + k * 7 + 5) (by omega)).trans q5
          have z6 := fun z => (hz z b (off + k * 7 + 6) (by omega)).trans q6
          clear hz hne1 hcP q0 q1 q2 q3 q4 q5 q6
          refine wp_region_loud (fun y => (False ∨ y = g') ∨ Value.ownBlock (.slice A k c) = some y)
            [(1, loadL [100] (.slice A k c) (BlkF g' 40 (CS (.slice A k c) (.slice none 0 0) (.slice none 0 0)))), (7, plainL [] (.agg #[.int .i64 xa, .int .i64 xt, .int .u32 xi, .int .u32 xv, .int .i64 xs, .int .u16 xm, .int .i64 xl])),
             (8, rowL [] w4.heap.size 96 7 1 (HD [⟨xa, xt, xi, xv, xs, xm, xl⟩])), (9, rowL [101, 8] w4.heap.size 96 7 (k + 1) (HD (heads.take (k + 1)))),
             (11, factL [1, 9] (fun _ => True) (fun _ S w' => ∃ A1 c1, BlkF g' 40 (CS (.slice A1 (k + 1) c1) (.slice none 0 0) (.slice none 0 0)) S w' ∧ OwnF w4.heap.size 96 7 (k + 1) (HD (heads.take (k + 1))) (.slice A1 (k + 1) c1) S w'))]
            (addL 101 (OwnF w4.heap.size 96 7 k (HD (heads.take k)) (.slice A k c)) (addL 100 (BlkF g' 40 (CS (.slice A k c) (.slice none 0 0) (.slice none 0 0))) (fun _ => Fact.none))) (by kernel_rfl) (by kernel_rfl)
            (.cons (loadL_ok _ _ (good_blk _ _ _)) (.cons (plainL_ok _ _) (.cons (rowL_ok _ _ _ _ _ _) (.cons (rowL_ok _ _ _ _ _ _) (.cons (factL_ok ⟨undef, trivial⟩ (fun _ S S' w w' h1 h2 ⟨A', c', h3, h4⟩ => ⟨A', c', good_blk _ _ _ S S' w w' h1 h2 h3, good_own _ _ _ _ _ _ S S' w w' h1 h2 h4⟩)) .nil)))))
            (good_add _ (good_own _ _ _ _ _ _) (good_add _ (good_blk _ _ _) good_nothing))
            (sat_add 101 (sat_add 100 sat_none (fun b _ h => h) (fun b (hb : b = g') => by omega) ⟨rfl, hI.hl⟩) hd1 (ownF_lt hown) (ownF_in hown)) (WX.out ?_)
          repeat (first | ((first | refine wx_quietU (by rfl) (by rfl) (by rfl) (fun K hK => ?_) | refine wx_quietG (by rfl) (by rfl) (by rfl) (by rfl) (by rfl) (fun K hK => ?_)); go_big_quiet_op; refine hK _ ?_; clear hK K) | ((first | refine wx_skipG (by rfl) (by rfl) (by rfl) (fun K hK => ?_) | refine wx_skipN (by rfl) (by rfl) (by rfl) (fun K hK => ?_)); go_simp; refine hK _ ?_; clear hK K))
          refine wx_loudU (us := [100]) (by rfl) (by rfl) (fun S wS hC hS hU => ?_) (fun v hv K hK => ?_)
          · have hB : BlkF g' 40 (CS (.slice A k c) (.slice none 0 0) (.slice none 0 0)) S wS := hU 100 (by simp)
            have hB2 := hB
            rw [HCS.out] at hB2
            obtain ⟨hc, hf⟩ := blkF_cells hB2
            exact load_x (by go_simp) (good_blk _ _ _) hB
          obtain rfl := hv; (go_simp; refine hK _ ?_; clear hK K)
          repeat (first | ((first | refine wx_quietU (by rfl) (by rfl) (by rfl) (fun K hK => ?_) | refine wx_quietG (by rfl) (by rfl) (by rfl) (by rfl) (by rfl) (fun K hK => ?_)); go_big_quiet_op; refine hK _ ?_; clear hK K) | ((first | refine wx_skipG (by rfl) (by rfl) (by rfl) (fun K hK => ?_) | refine wx_skipN (by rfl) (by rfl) (by rfl) (fun K hK => ?_)); go_simp; refine hK _ ?_; clear hK K))
          refine wx_loudU (us := []) (by rfl) (by rfl) (fun S wS hC hS hU => runs_enter (f := 40) (by go_simp <;> rfl) ?_) (fun v hv K hK => ?_)
          · refine (head10_any ⟨xa, xt, xi, xv, xs, xm, xl⟩ wS).mono ?_
            rintro e w' ⟨rfl, hb2⟩
            exact ⟨_, rfl, rfl, Kept.of_below hb2, trivial⟩
          obtain rfl := hv; (go_simp; refine hK _ ?_; clear hK K)
          repeat (first | ((first | refine wx_quietU (by rfl) (by rfl) (by rfl) (fun K hK => ?_) | refine wx_quietG (by rfl) (by rfl) (by rfl) (by rfl) (by rfl) (fun K hK => ?_)); go_big_quiet_op; refine hK _ ?_; clear hK K) | ((first | refine wx_skipG (by rfl) (by rfl) (by rfl) (fun K hK => ?_) | refine wx_skipN (by rfl) (by rfl) (by rfl) (fun K hK => ?_)); go_simp; refine hK _ ?_; clear hK K))
          refine wx_loudU (us := []) (by rfl) (by rfl) (fun S wS hC hS hU => ?_) (fun v hv K hK => ?_)
          · refine runs_build1 st_hds (.tmp 54) rfl #[.int .i64 xa, .int .i64 xt, .int .u32 xi, .int .u32 xv, .int .i64 xs, .int .u16 xm, .int .i64 xl] rfl rfl (by omega) (by omega) ?_
            exact made_x rfl (Nat.le_trans hsz hC.size) (by rfl) (by rfl) (by omega) (by omega)
          obtain ⟨A6, c6, rfl⟩ := hv; (go_simp; refine hK _ ?_; clear hK K)
          repeat (first | ((first | refine wx_quietU (by rfl) (by rfl) (by rfl) (fun K hK => ?_) | refine wx_quietG (by rfl) (by rfl) (by rfl) (by rfl) (by rfl) (fun K hK => ?_)); go_big_quiet_op; refine hK _ ?_; clear hK K) | ((first | refine wx_skipG (by rfl) (by rfl) (by rfl) (fun K hK => ?_) | refine wx_skipN (by rfl) (by rfl) (by rfl) (fun K hK => ?_)); go_simp; refine hK _ ?_; clear hK K))
          refine wx_loudU (us := [101, 8]) (by rfl) (by rfl) (fun S wS hC hS hU => ?_) (fun v hv K hK => ?_)
          · exact appS_x (.tmp 48) (.tmp 55) st_hds (by rfl) (by rfl) (by rfl) (hU 101 (by simp)) (own_sl (hU 8 (by simp)).2) (HD_one _) (by simp [maxLen]; omega) (by omega) (Nat.le_trans hsz hC.size) HTK.out
          obtain ⟨A7, c7, rfl⟩ := hv; (go_simp; refine hK _ ?_; clear hK K)
          repeat (first | ((first | refine wx_quietU (by rfl) (by rfl) (by rfl) (fun K hK => ?_) | refine wx_quietG (by rfl) (by rfl) (by rfl) (by rfl) (by rfl) (fun K hK => ?_)); go_big_quiet_op; refine hK _ ?_; clear hK K) | ((first | refine wx_skipG (by rfl) (by rfl) (by rfl) (fun K hK => ?_) | refine wx_skipN (by rfl) (by rfl) (by rfl) (fun K hK => ?_)); go_simp; refine hK _ ?_; clear hK K))
          refine wx_loudU (us := [1, 9]) (by rfl) (by rfl) (fun S wS hC hS hU => ?_) (fun v hv K hK => ?_)
          · have hB : BlkF g' 40 (CS (.slice A k c) (.slice none 0 0) (.slice none 0 0)) S wS := hU 1 (by simp)
            rw [HCS.out] at hB
            have hO : OwnF w4.heap.size 96 7 (k + 1) (HD (heads.take (k + 1))) (.slice A7 (k + 1) c7) S wS := hU 9 (by simp)
            obtain ⟨hc, hf⟩ := blkF_cells hB
            have hO9 := ownsRow_kept hO.2 (Kept.setCell (S := fun b => b = g') (Kept.refl _ wS) (p := ⟨g', 13, none⟩) (.inl rfl) (.slice A7 (k + 1) c7)) (fun y hy => by have := (hO.2.lt y hy).1; omega)
            have hB9 := blk_set hB.2 13 (.slice A7 (k + 1) c7)
            simp at hB9
            exact runs_skip (by go_simp <;> rfl) ⟨trivial, (Kept.refl _ _).setCell (.inl hB.1) _, A7, c7, ⟨.inl hB.1, by rw [HCS.out]; exact hB9⟩, ⟨fun y hy => .inl (hO.1 y hy), hO9⟩⟩
          (go_simp; refine hK _ ?_; clear hK K)
          repeat (first | ((first | refine wx_quietU (by rfl) (by rfl) (by rfl) (fun K hK => ?_) | refine wx_quietG (by rfl) (by rfl) (by rfl) (by rfl) (by rfl) (fun K hK => ?_)); go_big_quiet_op; refine hK _ ?_; clear hK K) | ((first | refine wx_skipG (by rfl) (by rfl) (by rfl) (fun K hK => ?_) | refine wx_skipN (by rfl) (by rfl) (by rfl) (fun K hK => ?_)); go_simp; refine hK _ ?_; clear hK K))
          refine wx_nil fun w9 hsat => ?_
          obtain ⟨S9, hS9, hfin⟩ := sat_get hsat 11
          obtain ⟨A9, c9, hb9, ho9⟩ := (hfin : ∃ A1 c1, BlkF g' 40 (CS (.slice A1 (k + 1) c1) (.slice none 0 0) (.slice none 0 0)) S9 w9 ∧ OwnF w4.heap.size 96 7 (k + 1) (HD (heads.take (k + 1))) (.slice A1 (k + 1) c1) S9 w9)
          have hkp9 := hI.kp.then hsat.1 (fun b hb h => by
            rcases h with (h | h) | h
            · exact h.elim
            · exact h
            · have := (hown.lt _ h).1; omega)
          clear hsat hS9
          go_wp2_with fail
          go_light
          exact ⟨⟨k + 1, A9, c9, by omega, by go_num, hb9.2, ho9.2, hkp9⟩, by simp [intOf]; omega⟩
      · obtain rfl : n2 = k := by omega
        have hH5 := own_sl hI.own
        rw [List.take_of_length_le (by rw [HN.out.2.1]; exact Nat.le_refl _)] at hH5
        have hfrH : Hid (∀ ad, A = some ad → w.heap.size + 3 ≤ ad.block ∧ ad.block ≠ g') := fun ad had => by
          have h1 := freshA_own hI.own ad had
          omega
        have hN5 := sl_kept hN4 hI.kp (fun ad had hb => (hfr4.out ad had).2 hb)
        have hl5 := hI.hl
        have hR5 := blk_kept HBR.out hI.kp (by omega)
        go_upto_region 8 with fail
        have HBP5 := hid hbPr
        have HBB5 := hid hbr
        have HBR5 := hid hR5
        have hg5 : g' < wr.heap.size := by omega
        clear hI hcP hbPr hbr hR5 hN4 hl4' HBP HBB HBR hk hlt hg4 hsz
        obtain ⟨HS, hHS⟩ : ∃ HS : Value, HS = .slice A n2 c := ⟨_, rfl⟩
        have HHS := hid hHS
        rw [← hHS] at hl5
        clear hHS
        obtain ⟨w5, rfl⟩ : ∃ w5 : World, w5 = wr := ⟨_, rfl⟩
        obtain ⟨AH, rfl⟩ : ∃ AH : Option Addr, AH = A := ⟨_, rfl⟩
        obtain ⟨cH, rfl⟩ : ∃ cH : Nat, cH = c := ⟨_, rfl⟩
        have HBP := HBP5
        have HBB := HBB5
        have HBR := HBR5
        clear HBP5 HBB5 HBR5
        as_aux_lemma =>
          go_loopw [6] (fun i wr => ∃ (k : Nat) (A : Option Addr) (c : Nat), k ≤ n3 ∧ i = .int .i64 k ∧ LoI w5 g' 40 (CS HS (.slice A k c) (.slice none 0 0)) 60 3 k (.slice A k c) (KY (keys.take k)) wr) (fun i _ => n3 - (intOf i).toNat)
          case atStart => exact ⟨0, none, 0, Nat.zero_le _, rfl, hl5, by simpa [KY] using World.ownsRow_nil _ _ _ _, Kept.refl _ _⟩
          case round =>
            obtain ⟨k, A, c, hk, rfl, hI⟩ := hrel
            have hsz := hI.kp.size
            have hbPr := blk_kept HBP.out hI.kp (by omega)
            have hbr : Below w.heap.size w wr := HBB.out.trans (hI.kp.below_of (B := w.heap.size) (by omega) (fun b hb => by omega))
            have hcP := (blk_cells hbPr).1
            by_cases hlt : k < n3
            · have hlt' : k < keys.length := by rw [HN.out.2.2.1]; exact hlt
              obtain ⟨b, off, rfl, _, q0, q1, q2⟩ := (HP0.out.keys.below hbr).ky hlt
              have hbl : b < w.heap.size := by
                obtain ⟨b', off', e', hb', _⟩ := HP0.out.keys.ky hlt
                injection e' with e'
                injection e' with e' _
                omega
              have HTK := hid (KY_take_succ keys k hlt')
              clear hlt'
              generalize kyAt keys k = X at *
              obtain ⟨xt, xi, xv⟩ := X
              try simp only at q0 q1 q2
              as_aux_lemma =>
                go_upto_region 10 with fail
                have hown := hI.own
                have hne1 : ∀ y : Nat, y < w.heap.size + 3 → ¬ ((False ∨ y = g') ∨ Value.ownBlock (.slice A k c) = some y) := fun y hy hh => by
                  rcases hh with (hh | hh) | hh
                  · exact hh
                  · omega
                  · have := (hown.lt _ hh).1; omega
                have hz : ∀ (z : WK (fun y => (False ∨ y = g') ∨ Value.ownBlock (.slice A k c) = some y) wr) y i, y < w.heap.size + 3 → (wat z).cell? ⟨y, i, none⟩ = wr.cell? ⟨y, i, none⟩ := fun z y i hy => wat_cell (p := ⟨y, i, none⟩) (by simp; omega) (hne1 y hy) z
                have hd1 : ∀ y, Value.ownBlock (.slice A k c) = some y → (False ∨ y = g') → False := by
                  rintro y h1 (h2 | h2)
                  · exact h2
                  · have := (hown.lt y h1).1; omega
                have z7 : ∀ z : WK (fun y => (False ∨ y = g') ∨ Value.ownBlock (.slice A k c) = some y) wr, (wat z).cell? ⟨w.heap.size, 14, none⟩ = some (.slice (some ⟨b, off, none⟩) n3 c3) := fun z => (hz z _ 14 (by omega)).trans (hcP 14)
                have z0 := fun z => (hz z b (off + k * 3) (by omega)).trans q0
                have z1 := fun z => (hz z b (off + k * 3 + 1) (by omega)).trans q1
                have z2 := fun z => (hz z b (off + k * 3 + 2) (by omega)).trans q2
                clear hz hne1 hcP q0 q1 q2
                refine wp_region_loud (fun y => (False ∨ y = g') ∨ Value.ownBlock (.slice A k c) = some y)
                  [(1, loadL [100] (.slice A k c) (BlkF g' 40 (CS HS (.slice A k c) (.slice none 0 0)))), (21, rowL [] w5.heap.size 60 3 1 (KY [⟨xt, xi, xv⟩])), (22, rowL [101, 21] w5.heap.size 60 3 (k + 1) (KY (keys.take (k + 1)))),
                   (24, factL [1, 22] (fun _ => True) (fun _ S w' => ∃ A1 c1, BlkF g' 40 (CS HS (.slice A1 (k + 1) c1) (.slice none 0 0)) S w' ∧ OwnF w5.heap.size 60 3 (k + 1) (KY (keys.take (k + 1))) (.slice A1 (k + 1) c1) S w'))]
                  (addL 101 (OwnF w5.heap.size 60 3 k (KY (keys.take k)) (.slice A k c)) (addL 100 (BlkF g' 40 (CS HS (.slice A k c) (.slice none 0 0))) (fun _ => Fact.none))) (by kernel_rfl) (by kernel_rfl)
                  (.cons (loadL_ok _ _ (good_blk _ _ _)) (.cons (rowL_ok _ _ _ _ _ _) (.cons (rowL_ok _ _ _ _ _ _) (.cons (factL_ok ⟨undef, trivial⟩ (fun _ S S' w w' h1 h2 ⟨A', c', h3, h4⟩ => ⟨A', c', good_blk _ _ _ S S' w w' h1 h2 h3, good_own _ _ _ _ _ _ S S' w w' h1 h2 h4⟩)) .nil))))
                  (good_add _ (good_own _ _ _ _ _ _) (good_add _ (good_blk _ _ _) good_nothing))
                  (sat_add 101 (sat_add 100 sat_none (fun b _ h => h) (fun b (hb : b = g') => by omega) ⟨rfl, hI.hl⟩) hd1 (ownF_lt hown) (ownF_in hown)) (WX.out ?_)
                repeat (first | ((first | refine wx_quietU (by rfl) (by rfl) (by rfl) (fun K hK => ?_) | refine wx_quietG (by rfl) (by rfl) (by rfl) (by rfl) (by rfl) (fun K hK => ?_)); go_big_quiet_op; refine hK _ ?_; clear hK K) | ((first | refine wx_skipG (by rfl) (by rfl) (by rfl) (fun K hK => ?_) | refine wx_skipN (by rfl) (by rfl) (by rfl) (fun K hK => ?_)); go_simp; refine hK _ ?_; clear hK K))
                refine wx_loudU (us := [100]) (by rfl) (by rfl) (fun S wS hC hS hU => ?_) (fun v hv K hK => ?_)
                · have hB : BlkF g' 40 (CS HS (.slice A k c) (.slice none 0 0)) S wS := hU 100 (by simp)
                  have hB2 := hB
                  rw [HCS.out] at hB2
                  obtain ⟨hc, hf⟩ := blkF_cells hB2
                  exact load_x (by go_simp) (good_blk _ _ _) hB
                obtain rfl := hv; (go_simp; refine hK _ ?_; clear hK K)
                repeat (first | ((first | refine wx_quietU (by rfl) (by rfl) (by rfl) (fun K hK => ?_) | refine wx_quietG (by rfl) (by rfl) (by rfl) (by rfl) (by rfl) (fun K hK => ?_)); go_big_quiet_op; refine hK _ ?_; clear hK K) | ((first | refine wx_skipG (by rfl) (by rfl) (by rfl) (fun K hK => ?_) | refine wx_skipN (by rfl) (by rfl) (by rfl) (fun K hK => ?_)); go_simp; refine hK _ ?_; clear hK K))
                refine wx_loudU (us := []) (by rfl) (by rfl) (fun S wS hC hS hU => ?_) (fun v hv K hK => ?_)
                · refine runs_build1 st_kys (.tmp 85) rfl #[.int .i64 xt, .int .u32 xi, .int .u32 xv] rfl rfl (by omega) (by omega) ?_
                  exact made_x rfl (Nat.le_trans hsz hC.size) (by rfl) (by rfl) (by omega) (by omega)
                obtain ⟨A6, c6, rfl⟩ := hv; (go_simp; refine hK _ ?_; clear hK K)
                repeat (first | ((first | refine wx_quietU (by rfl) (by rfl) (by rfl) (fun K hK => ?_) | refine wx_quietG (by rfl) (by rfl) (by rfl) (by rfl) (by rfl) (fun K hK => ?_)); go_big_quiet_op; refine hK _ ?_; clear hK K) | ((first | refine wx_skipG (by rfl) (by rfl) (by rfl) (fun K hK => ?_) | refine wx_skipN (by rfl) (by rfl) (by rfl) (fun K hK => ?_)); go_simp; refine hK _ ?_; clear hK K))
                refine wx_loudU (us := [101, 21]) (by rfl) (by rfl) (fun S wS hC hS hU => ?_) (fun v hv K hK => ?_)
                · exact appS_x (.tmp 66) (.tmp 86) st_kys (by rfl) (by rfl) (by rfl) (hU 101 (by simp)) (own_sl (hU 21 (by simp)).2) (KY_one _) (by simp [maxLen]; omega) (by omega) (Nat.le_trans hsz hC.size) HTK.out
                obtain ⟨A7, c7, rfl⟩ := hv; (go_simp; refine hK _ ?_; clear hK K)
                repeat (first | ((first | refine wx_quietU (by rfl) (by rfl) (by rfl) (fun K hK => ?_) | refine wx_quietG (by rfl) (by rfl) (by rfl) (by rfl) (by rfl) (fun K hK => ?_)); go_big_quiet_op; refine hK _ ?_; clear hK K) | ((first | refine wx_skipG (by rfl) (by rfl) (by rfl) (fun K hK => ?_) | refine wx_skipN (by rfl) (by rfl) (by rfl) (fun K hK => ?_)); go_simp; refine hK _ ?_; clear hK K))
                refine wx_loudU (us := [1, 22]) (by rfl) (by rfl) (fun S wS hC hS hU => ?_) (fun v hv K hK => ?_)
                · have hB : BlkF g' 40 (CS HS (.slice A k c) (.slice none 0 0)) S wS := hU 1 (by simp)
                  rw [HCS.out] at hB
                  have hO : OwnF w5.heap.size 60 3 (k + 1) (KY (keys.take (k + 1))) (.slice A7 (k + 1) c7) S wS := hU 22 (by simp)
                  obtain ⟨hc, hf⟩ := blkF_cells hB
                  have hO9 := ownsRow_kept hO.2 (Kept.setCell (S := fun b => b = g') (Kept.refl _ wS) (p := ⟨g', 14, none⟩) (.inl rfl) (.slice A7 (k + 1) c7)) (fun y hy => by have := (hO.2.lt y hy).1; omega)
                  have hB9 := blk_set hB.2 14 (.slice A7 (k + 1) c7)
                  simp at hB9
                  exact runs_skip (by go_simp <;> rfl) ⟨trivial, (Kept.refl _ _).setCell (.inl hB.1) _, A7, c7, ⟨.inl hB.1, by rw [HCS.out]; exact hB9⟩, ⟨fun y hy => .inl (hO.1 y hy), hO9⟩⟩
                (go_simp; refine hK _ ?_; clear hK K)
                repeat (first | ((first | refine wx_quietU (by rfl) (by rfl) (by rfl) (fun K hK => ?_) | refine wx_quietG (by rfl) (by rfl) (by rfl) (by rfl) (by rfl) (fun K hK => ?_)); go_big_quiet_op; refine hK _ ?_; clear hK K) | ((first | refine wx_skipG (by rfl) (by rfl) (by rfl) (fun K hK => ?_) | refine wx_skipN (by rfl) (by rfl) (by rfl) (fun K hK => ?_)); go_simp; refine hK _ ?_; clear hK K))
                refine wx_nil fun w9 hsat => ?_
                obtain ⟨S9, hS9, hfin⟩ := sat_get hsat 24
                obtain ⟨A9, c9, hb9, ho9⟩ := (hfin : ∃ A1 c1, BlkF g' 40 (CS HS (.slice A1 (k + 1) c1) (.slice none 0 0)) S9 w9 ∧ OwnF w5.heap.size 60 3 (k + 1) (KY (keys.take (k + 1))) (.slice A1 (k + 1) c1) S9 w9)
                have hkp9 := hI.kp.then hsat.1 (fun b hb h => by
                  rcases h with (h | h) | h
                  · exact h.elim
                  · exact h
                  · have := (hown.lt _ h).1; omega)
                clear hsat hS9
                go_wp2_with fail
                go_light
                exact ⟨⟨k + 1, A9, c9, by omega, by go_num, hb9.2, ho9.2, hkp9⟩, by simp [intOf]; omega⟩
            · obtain rfl : n3 = k := by omega
              have hK6 := own_sl hI.own
              rw [List.take_of_length_le (by rw [HN.out.2.2.1]; exact Nat.le_refl _)] at hK6
              have hfrK : Hid (∀ ad, A = some ad → w.heap.size + 3 ≤ ad.block ∧ ad.block ≠ g') := fun ad had => by
                have h1 := freshA_own hI.own ad had
                omega
              have hN6 := sl_kept hN5 hI.kp (fun ad had hb => (hfr4.out ad had).2 hb)
              have hH6 := sl_kept hH5 hI.kp (fun ad had hb => (hfrH.out ad had).2 hb)
              have hl6 := hI.hl
              have hR6 := blk_kept HBR.out hI.kp (by omega)
              go_upto_region 12 with fail
              have HBP6 := hid hbPr
              have HBB6 := hid hbr
              have HBR6 := hid hR6
              have hg6 : g' < wr.heap.size := by omega
              clear hI hcP hbPr hbr hR6 hN5 hH5 hl5 HBP HBB HBR hk hlt hg5 hsz
              obtain ⟨KS, hKS⟩ : ∃ KS : Value, KS = .slice A n3 c := ⟨_, rfl⟩
              have HKS := hid hKS
              rw [← hKS] at hl6
              clear hKS
              obtain ⟨w6, rfl⟩ : ∃ w6 : World, w6 = wr := ⟨_, rfl⟩
              obtain ⟨AK, rfl⟩ : ∃ AK : Option Addr, AK = A := ⟨_, rfl⟩
              obtain ⟨cK, rfl⟩ : ∃ cK : Nat, cK = c := ⟨_, rfl⟩
              have HBP := HBP6
              have HBB := HBB6
              have HBR := HBR6
              clear HBP6 HBB6 HBR6
              as_aux_lemma =>
                go_loopw [7] (fun i wr => ∃ (k : Nat) (A : Option Addr) (c : Nat) (done : List (Lsa × LsR)), k ≤ n4 ∧ i = .int .i64 k ∧ LoI w6 g' 40 (CS HS KS (.slice A k c)) 63 9 k (.slice A k c) (LS done) wr ∧ Hid (done.map Prod.fst = lsas.take k) ∧
                  ∀ p ∈ done, IsL wr p ∧ FreshA w6.heap.size p.2.A1 ∧ FreshA w6.heap.size p.2.A2 ∧ Apart (.slice A k c) p) (fun i _ => n4 - (intOf i).toNat)
                case atStart => exact ⟨0, none, 0, [], Nat.zero_le _, rfl, ⟨hl6, by simpa [LS] using World.ownsRow_nil _ _ _ _, Kept.refl _ _⟩, by show _ = _; simp, by simp⟩
                case round =>
                  obtain ⟨k, A, c, done, hk, rfl, hI, HD0, hea⟩ := hrel
                  have hsz := hI.kp.size
                  have hbPr := blk_kept HBP.out hI.kp (by omega)
                  have hbr : Below w.heap.size w wr := HBB.out.trans (hI.kp.below_of (B := w.heap.size) (by omega) (fun b hb => by omega))
                  have hcP := (blk_cells hbPr).1
                  by_cases hlt : k < n4
                  · have hlt' : k < lsas.length := by rw [HN.out.2.2.2]; exact hlt
                    obtain ⟨hp1, hp2⟩ := ls_zipU lsas R HP0.out.rl k hlt'
                    obtain ⟨b, off, rfl, _, hq⟩ := (HP0.out.lsas.below hbr).ls hlt
                    have hbl : b < w.heap.size := by
                      obtain ⟨b', off', e', hb', _⟩ := HP0.out.lsas.ls hlt
                      injection e' with e'
                      injection e' with e' _
                      omega
                    have hI0 := HP0.out.each _ hp2
                    have hil := hI0.below hbr
                    have hml := HML.out _ hp2
                    have HTL : Hid (lsas.take (k + 1) = lsas.take k ++ [(lsAt (lsas.zip R) k).1]) := by
                      show _ = _
                      have e : lsas.take (k + 1) = lsas.take k ++ [lsas[k]] := List.take_succ_eq_append_getElem hlt'
                      rw [e, hp1, List.getD_eq_getElem?_getD, List.getElem?_eq_getElem hlt']
                      rfl
                    clear hp1 hp2 hlt'
                    generalize lsAt (lsas.zip R) k = XX at *
                    obtain ⟨X, rA1, rn1, rc1, rA2, rn2, rc2⟩ := XX
                    have q0 := hq 0 (by omega); have q1 := hq 1 (by omega); have q2 := hq 2 (by omega); have q3 := hq 3 (by omega); have q4 := hq 4 (by omega); have q5 := hq 5 (by omega); have q6 := hq 6 (by omega); have q7 := hq 7 (by omega); have q8 := hq 8 (by omega)
                    simp [lsC] at q0 q1 q2 q3 q4 q5 q6 q7 q8
                    obtain ⟨hx1, hx2⟩ := hml
                    try simp only at hx1 hx2 HTL
                    clear hq
                    as_aux_lemma =>
                      go_upto_region 14 with fail
                      have hown := hI.own
                      have hne1 : ∀ y : Nat, y < w.heap.size + 3 → ¬ ((False ∨ y = g') ∨ Value.ownBlock (.slice A k c) = some y) := fun y hy hh => by
                        rcases hh with (hh | hh) | hh
                        · exact hh
                        · omega
                        · have := (hown.lt _ hh).1; omega
                      have hz : ∀ (z : WK (fun y => (False ∨ y = g') ∨ Value.ownBlock (.slice A k c) = some y) wr) y i, y < w.heap.size + 3 → (wat z).cell? ⟨y, i, none⟩ = wr.cell? ⟨y, i, none⟩ := fun z y i hy => wat_cell (p := ⟨y, i, none⟩) (by simp; omega) (hne1 y hy) z
                      have hd1 : ∀ y, Value.ownBlock (.slice A k c) = some y → (False ∨ y = g') → False := by
                        rintro y h1 (h2 | h2)
                        · exact h2
                        · have := (hown.lt y h1).1; omega
                      have hown2 : ∀ b, Value.ownBlock (.slice A k c) = some b → w6.heap.size ≤ b ∧ b < wr.heap.size := fun b hb => hown.lt b hb
                      have z7 : ∀ z : WK (fun y => (False ∨ y = g') ∨ Value.ownBlock (.slice A k c) = some y) wr, (wat z).cell? ⟨w.heap.size, 15, none⟩ = some (.slice (some ⟨b, off, none⟩) n4 c4) := fun z => (hz z _ 15 (by omega)).trans (hcP 15)
                      have z0 := fun z => (hz z b (off + k * 9) (by omega)).trans q0
                      have z1 := fun z => (hz z b (off + k * 9 + 1) (by omega)).trans q1
                      have z2 := fun z => (hz z b (off + k * 9 + 2) (by omega)).trans q2
                      have z3 := fun z => (hz z b (off + k * 9 + 3) (by omega)).trans q3
                      have z4 := fun z => (hz z b (off + k * 9 + 4) (by omega)).trans q4
                      have z5 := fun z => (hz z b (off + k * 9 + 5) (by omega)).trans q5
                      have z6 := fun z => (hz z b (off + k * 9 + 6) (by omega)).trans q6
                      have z8 := fun z => (hz z b (off + k * 9 + 7) (by omega)).trans q7
                      have z9 := fun z => (hz z b (off + k * 9 + 8) (by omega)).trans q8
                      clear hz hcP q0 q1 q2 q3 q4 q5 q6 q7 q8
                      refine wp_region_loud (fun y => (False ∨ y = g') ∨ Value.ownBlock (.slice A k c) = some y)
                        [(1, loadL [100] (.slice A k c) (BlkF g' 40 (CS HS KS (.slice A k c)))), (7, factL [] (fun v => ∃ r : LsR, v = .agg (lsaC X r.A1 r.n1 r.c1 r.A2 r.n2 r.c2)) (fun v => CallL X wr.heap.size v)),
                         (8, factL [7] (fun v => IsSlice 1 v) (fun v => MadeL X wr.heap.size w6.heap.size 63 v)), (9, factL [101, 8] (fun v => IsSlice (k + 1) v) (fun v => RowsL X wr.heap.size w6.heap.size 63 done k (.slice A k c) v)),
                         (11, factL [1, 9] (fun _ => True) (fun _ S w' => ∃ A1 c1, BlkF g' 40 (CS HS KS (.slice A1 (k + 1) c1)) S w' ∧ RowsL X wr.heap.size w6.heap.size 63 done k (.slice A k c) (.slice A1 (k + 1) c1) S w'))]
                        (addL 101 (OwnF w6.heap.size 63 9 k (LS done) (.slice A k c)) (addL 100 (BlkF g' 40 (CS HS KS (.slice A k c))) (fun _ => Fact.none))) (by kernel_rfl) (by kernel_rfl)
                        (.cons (loadL_ok _ _ (good_blk _ _ _)) (.cons (factL_ok ⟨_, ⟨none, 0, 0, none, 0, 0⟩, rfl⟩ (fun _ => good_callL _ _ _)) (.cons (factL_ok (isSlice_any 1) (fun _ => good_madeL _ _ _ _ _)) (.cons (factL_ok (isSlice_any (k + 1)) (fun _ => good_rowsL _ _ _ _ _ _ _ _))
                          (.cons (factL_ok ⟨undef, trivial⟩ (fun _ S S' w w' h1 h2 ⟨A', c', h3, h4⟩ => ⟨A', c', good_blk _ _ _ S S' w w' h1 h2 h3, good_rowsL _ _ _ _ _ _ _ _ S S' w w' h1 h2 h4⟩)) .nil)))))
                        (good_add _ (good_own _ _ _ _ _ _) (good_add _ (good_blk _ _ _) good_nothing))
                        (sat_add 101 (sat_add 100 sat_none (fun b _ h => h) (fun b (hb : b = g') => by omega) ⟨rfl, hI.hl⟩) hd1 (ownF_lt hown) (ownF_in hown)) (WX.out ?_)
                      repeat (first | ((first | refine wx_quietU (by rfl) (by rfl) (by rfl) (fun K hK => ?_) | refine wx_quietG (by rfl) (by rfl) (by rfl) (by rfl) (by rfl) (fun K hK => ?_)); go_big_quiet_op; refine hK _ ?_; clear hK K) | ((first | refine wx_skipG (by rfl) (by rfl) (by rfl) (fun K hK => ?_) | refine wx_skipN (by rfl) (by rfl) (by rfl) (fun K hK => ?_)); go_simp; refine hK _ ?_; clear hK K))
                      refine wx_loudU (us := [100]) (by rfl) (by rfl) (fun S wS hC hS hU => ?_) (fun v hv K hK => ?_)
                      · have hB : BlkF g' 40 (CS HS KS (.slice A k c)) S wS := hU 100 (by simp)
                        have hB2 := hB
                        rw [HCS.out] at hB2
                        obtain ⟨hc, hf⟩ := blkF_cells hB2
                        exact load_x (by go_simp) (good_blk _ _ _) hB
                      obtain rfl := hv; (go_simp; refine hK _ ?_; clear hK K)
                      repeat (first | ((first | refine wx_quietU (by rfl) (by rfl) (by rfl) (fun K hK => ?_) | refine wx_quietG (by rfl) (by rfl) (by rfl) (by rfl) (by rfl) (fun K hK => ?_)); go_big_quiet_op; refine hK _ ?_; clear hK K) | ((first | refine wx_skipG (by rfl) (by rfl) (by rfl) (fun K hK => ?_) | refine wx_skipN (by rfl) (by rfl) (by rfl) (fun K hK => ?_)); go_simp; refine hK _ ?_; clear hK K))
                      refine wx_loudU (us := []) (by rfl) (by rfl) (fun S wS hC hS hU => runs_enter (f := 27) (by go_simp <;> rfl) ?_) (fun v hv K hK => ?_)
                      · have hiS : IsLsa wS X rA1 rn1 rc1 rA2 rn2 rc2 := ⟨sl_keptP hil.links hC (fun hn ad had hb => hne1 ad.block (by have := sl_ltP hI0.links hn ad had; omega) hb), sl_keptP hil.routers hC (fun hn ad had hb => hne1 ad.block (by have := sl_ltP hI0.routers hn ad had; omega) hb)⟩
                        refine (to1 X rA1 rn1 rc1 rA2 rn2 rc2 wS hiS hx1 hx2).mono ?_
                        rintro e w' ⟨B1, m1, d1, B2, m2, d2, rfl, hi2, hb2, hf1, hf2⟩
                        have hzS := hC.size
                        refine ⟨_, rfl, ⟨⟨B1, m1, d1, B2, m2, d2⟩, rfl⟩, Kept.of_below hb2, ⟨B1, m1, d1, B2, m2, d2⟩, rfl, ⟨hi2.1, hi2.2⟩, ⟨fun hn ad had => .inr ⟨hf1 ad had, sl_ltP hi2.1 hn ad had⟩, fun hn ad had => .inr ⟨hf2 ad had, sl_ltP hi2.2 hn ad had⟩⟩, fun ad had => Nat.le_trans hzS (hf1 ad had), fun ad had => Nat.le_trans hzS (hf2 ad had)⟩
                      obtain ⟨r, rfl⟩ := hv; (go_simp; refine hK _ ?_; clear hK K)
                      repeat (first | ((first | refine wx_quietU (by rfl) (by rfl) (by rfl) (fun K hK => ?_) | refine wx_quietG (by rfl) (by rfl) (by rfl) (by rfl) (by rfl) (fun K hK => ?_)); go_big_quiet_op; refine hK _ ?_; clear hK K) | ((first | refine wx_skipG (by rfl) (by rfl) (by rfl) (fun K hK => ?_) | refine wx_skipN (by rfl) (by rfl) (by rfl) (fun K hK => ?_)); go_simp; refine hK _ ?_; clear hK K))
                      refine wx_loudU (us := [7]) (by rfl) (by rfl) (fun S wS hC hS hU => ?_) (fun v hv K hK => ?_)
                      · obtain ⟨r2, e2, ho⟩ := (hU 7 (by simp) : CallL X wr.heap.size (.agg (lsaC X r.A1 r.n1 r.c1 r.A2 r.n2 r.c2)) S wS)
                        obtain rfl := lsaC_inj X r r2 e2
                        refine runs_build1 st_lsas (.tmp 103) rfl (lsaC X r.A1 r.n1 r.c1 r.A2 r.n2 r.c2) rfl rfl (by omega) (by omega) ?_
                        obtain ⟨k1, k2, k3⟩ := made_x (w := wS) (S := S) (base := w6.heap.size) (n := 1) (e := 63) (size := 9) (cs := lsaC X r.A1 r.n1 r.c1 r.A2 r.n2 r.c2) (xs := LS [(X, r)]) rfl (Nat.le_trans hsz hC.size) (by rfl) (by rfl) (by omega) (by omega)
                        exact ⟨k1, k2, r, k3, good_oneL X _ r S _ wS _ (fun b hb => .inl hb) (fun b hb => (World.grownBy_alloc wS _ none).block b (hS b hb).2 (by simp)) ho⟩
                      obtain ⟨A6, c6, rfl⟩ := hv; (go_simp; refine hK _ ?_; clear hK K)
                      repeat (first | ((first | refine wx_quietU (by rfl) (by rfl) (by rfl) (fun K hK => ?_) | refine wx_quietG (by rfl) (by rfl) (by rfl) (by rfl) (by rfl) (fun K hK => ?_)); go_big_quiet_op; refine hK _ ?_; clear hK K) | ((first | refine wx_skipG (by rfl) (by rfl) (by rfl) (fun K hK => ?_) | refine wx_skipN (by rfl) (by rfl) (by rfl) (fun K hK => ?_)); go_simp; refine hK _ ?_; clear hK K))
                      refine wx_loudU (us := [101, 8]) (by rfl) (by rfl) (fun S wS hC hS hU => ?_) (fun v hv K hK => ?_)
                      · have hO : OwnF w6.heap.size 63 9 k (LS done) (.slice A k c) S wS := hU 101 (by simp)
                        obtain ⟨r3, hM, hoi, hol, hof1, hof2⟩ := (hU 8 (by simp) : MadeL X wr.heap.size w6.heap.size 63 (.slice A6 1 c6) S wS)
                        have hzS := hC.size
                        have hap3 : Apart (.slice A k c) (X, r3) := ⟨fun _ ad had he => by have h5 := hof1 ad had; have h6 := (hown2 _ he).2; omega, fun _ ad had he => by have h5 := hof2 ad had; have h6 := (hown2 _ he).2; omega⟩
                        refine runs_app (.tmp 97) (.tmp 104) st_lsas (by rfl) w6.heap.size (by rfl) hO.2 (by rfl) (own_sl hM.2) (LS_one _) (by simp [maxLen]; omega) (by omega) (Nat.le_trans hsz hzS) ?_
                        intro A' c' w' h1 h2 h3
                        have hfr3 : ∀ b, Value.ownBlock (.slice A' (k + 1) c') = some b → Value.ownBlock (.slice A k c) = some b ∨ wS.heap.size ≤ b := fun b hb => by
                          rcases h3 with h3 | h3
                          · exact .inl (h3.symm.trans hb)
                          · rw [h3] at hb; injection hb with hb; exact .inr (by omega)
                        have hown9 : w'.ownsRow w6.heap.size 63 9 (.slice A' (k + 1) c') (k + 1) (LS (done ++ [(X, r3)])) := by rw [LS_append]; exact h1
                        exact ⟨⟨_, _, rfl⟩, own_kept hO h2, r3, ⟨fun b hb => by
                            rcases hfr3 b hb with h | h
                            · exact .inl (hO.1 b h)
                            · exact .inr ⟨h, (h1.lt b hb).2⟩, hown9⟩,
                          ⟨isL_kept hoi (Kept.of_row h2) hof1 hof2 hap3 (fun b _ hb => hb.symm), ⟨fun hn ad had => .inl (hol.1 hn ad had), fun hn ad had => .inl (hol.2 hn ad had)⟩, hof1, hof2⟩,
                          apart_from hoi hap3 hfr3, fun b hb => (hfr3 b hb).imp id (fun h => Nat.le_trans hzS h)⟩
                      obtain ⟨A7, c7, rfl⟩ := hv; (go_simp; refine hK _ ?_; clear hK K)
                      repeat (first | ((first | refine wx_quietU (by rfl) (by rfl) (by rfl) (fun K hK => ?_) | refine wx_quietG (by rfl) (by rfl) (by rfl) (by rfl) (by rfl) (fun K hK => ?_)); go_big_quiet_op; refine hK _ ?_; clear hK K) | ((first | refine wx_skipG (by rfl) (by rfl) (by rfl) (fun K hK => ?_) | refine wx_skipN (by rfl) (by rfl) (by rfl) (fun K hK => ?_)); go_simp; refine hK _ ?_; clear hK K))
                      refine wx_loudU (us := [1, 9]) (by rfl) (by rfl) (fun S wS hC hS hU => ?_) (fun v hv K hK => ?_)
                      · have hB : BlkF g' 40 (CS HS KS (.slice A k c)) S wS := hU 1 (by simp)
                        rw [HCS.out] at hB
                        obtain ⟨r4, hO, ho4, hap4, hfr4⟩ := (hU 9 (by simp) : RowsL X wr.heap.size w6.heap.size 63 done k (.slice A k c) (.slice A7 (k + 1) c7) S wS)
                        obtain ⟨hc, hf⟩ := blkF_cells hB
                        have hO9 := ownsRow_kept hO.2 (Kept.setCell (S := fun b => b = g') (Kept.refl _ wS) (p := ⟨g', 15, none⟩) (.inl rfl) (.slice A7 (k + 1) c7)) (fun y hy => by have := (hO.2.lt y hy).1; omega)
                        have hB9 := blk_set hB.2 15 (.slice A7 (k + 1) c7)
                        simp at hB9
                        have ho9 := oneL_set (i := 15) (.slice A7 (k + 1) c7) ho4 (show g' < wr.heap.size by omega)
                        exact runs_skip (by go_simp <;> rfl) ⟨trivial, (Kept.refl _ _).setCell (.inl hB.1) _, A7, c7, ⟨.inl hB.1, by rw [HCS.out]; exact hB9⟩, r4, ⟨fun y hy => .inl (hO.1 y hy), hO9⟩, ho9, hap4, hfr4⟩
                      (go_simp; refine hK _ ?_; clear hK K)
                      repeat (first | ((first | refine wx_quietU (by rfl) (by rfl) (by rfl) (fun K hK => ?_) | refine wx_quietG (by rfl) (by rfl) (by rfl) (by rfl) (by rfl) (fun K hK => ?_)); go_big_quiet_op; refine hK _ ?_; clear hK K) | ((first | refine wx_skipG (by rfl) (by rfl) (by rfl) (fun K hK => ?_) | refine wx_skipN (by rfl) (by rfl) (by rfl) (fun K hK => ?_)); go_simp; refine hK _ ?_; clear hK K))
                      refine wx_nil fun w9 hsat => ?_
                      obtain ⟨S9, hS9, hfin⟩ := sat_get hsat 11
                      obtain ⟨A9, c9, hb9, r9, ho9, hone9, hap9, hfr9⟩ := (hfin : ∃ A1 c1, BlkF g' 40 (CS HS KS (.slice A1 (k + 1) c1)) S9 w9 ∧ RowsL X wr.heap.size w6.heap.size 63 done k (.slice A k c) (.slice A1 (k + 1) c1) S9 w9)
                      have hK9 := hsat.1
                      have hkp9 := hI.kp.then hsat.1 (fun b hb h => by
                        rcases h with (h | h) | h
                        · exact h.elim
                        · exact h
                        · have := (hown.lt _ h).1; omega)
                      have hSw : ∀ b, w6.heap.size ≤ b → ((False ∨ b = g') ∨ Value.ownBlock (.slice A k c) = some b) → Value.ownBlock (.slice A k c) = some b := fun b hb h2 => by
                        rcases h2 with (h2 | h2) | h2
                        · exact h2.elim
                        · omega
                        · exact h2
                      have hea9 : ∀ p ∈ done ++ [(X, r9)], IsL w9 p ∧ FreshA w6.heap.size p.2.A1 ∧ FreshA w6.heap.size p.2.A2 ∧ Apart (.slice A9 (k + 1) c9) p := by
                        intro p hp
                        rcases List.mem_append.1 hp with hp | hp
                        · obtain ⟨e1, e2, e3, e4⟩ := hea p hp
                          exact ⟨isL_kept e1 hK9 e2 e3 e4 hSw, e2, e3, apart_from e1 e4 hfr9⟩
                        · obtain rfl : p = (X, r9) := by simpa using hp
                          exact ⟨hone9.1, fun ad had => by have := hone9.2.2.1 ad had; omega, fun ad had => by have := hone9.2.2.2 ad had; omega, hap9⟩
                      clear hsat hS9 hK9 hone9 hap9 hfr9
                      go_wp2_with fail
                      go_light
                      refine ⟨⟨k + 1, A9, c9, done ++ [(X, r9)], by omega, by go_num, ⟨hb9.2, ho9.2, hkp9⟩, ?_, hea9⟩, by simp [intOf]; omega⟩
                      show _ = _
                      rw [HTL.out, ← HD0.out]
                      simp
                  · obtain rfl : n4 = k := by omega
                    have hD7 := HD0.out
                    rw [List.take_of_length_le (by rw [HN.out.2.2.2]; exact Nat.le_refl _)] at hD7
                    have hL7 := own_sl hI.own
                    have hfrL : ∀ ad, A = some ad → w.heap.size + 3 ≤ ad.block ∧ ad.block ≠ g' := fun ad had => by
                      have h1 := freshA_own hI.own ad had
                      omega
                    have hN7 := sl_kept hN6 hI.kp (fun ad had hb => (hfr4.out ad had).2 hb)
                    have hH7 := sl_kept hH6 hI.kp (fun ad had hb => (hfrH.out ad had).2 hb)
                    have hK7 := sl_kept hK6 hI.kp (fun ad had hb => (hfrK.out ad had).2 hb)
                    have hl7 := hI.hl
                    rw [HCS.out] at hl7
                    simp only at hl7
                    rw [HHS.out, HKS.out] at hl7
                    have hR7 := blk_kept HBR.out hI.kp (by omega)
                    have hea7 := hid hea
                    have hw6 : w.heap.size + 3 ≤ w6.heap.size := by omega
                    have hfrN := fun ad had => (hfr4.out ad had).1
                    have hfrH2 := fun ad had => (hfrH.out ad had).1
                    have hfrK2 := fun ad had => (hfrK.out ad had).1
                    go_upto_region 15 with fail
                    clear hI hcP hbPr hea hN6 hH6 hK6 hl6 HBP HBB HBR hk hlt hg6 hsz HD0 HCS HHS HKS
                    go_wp2_with (first | refine wpList_load_row rfl 40 (.tmp 4) rfl g' rfl 40 (pkC ⟨ty, router, area, auth, mask, intv, dead, prio, dr, bdr, nbs, flags, seq, heads, keys, lsas⟩ A8 n1 c8 AH n2 cH AK n3 cK A n4 c) (0, 0) _ hl7 Try.underlying40 rfl (by kernel_rfl) ?_ | refine wpList_store_whole rfl 40 (.tmp 2) (.tmp 107) rfl (pkC ⟨ty, router, area, auth, mask, intv, dead, prio, dr, bdr, nbs, flags, seq, heads, keys, lsas⟩ A8 n1 c8 AH n2 cH AK n3 cK A n4 c) rfl rfl hR7 (by kernel_rfl) rfl (pkC_ones _ _ _ _ _ _ _ _ _ _ _ _ _) ?_)
                    intro wz hgz hgrz
                    have hN8 := hN7.grown hgrz (fun ad had hb => by injection hb with hb; have := hfrN ad had; omega)
                    have hH8 := hH7.grown hgrz (fun ad had hb => by injection hb with hb; have := hfrH2 ad had; omega)
                    have hK8 := hK7.grown hgrz (fun ad had hb => by injection hb with hb; have := hfrK2 ad had; omega)
                    have hL8 := hL7.grown hgrz (fun ad had hb => by injection hb with hb; have := (hfrL ad had).1; omega)
                    have hbb8 := hbr.trans ((Below.refl w.heap.size wr).grown hgrz hbr.size (by intro x hx; injection hx with hx; omega))
                    clear hl7 hR7 hN7 hH7 hK7 hL7
                    go_wp2_with fail
                    refine ret_row1 (fn := Try.f9) (cs := pkC ⟨ty, router, area, auth, mask, intv, dead, prio, dr, bdr, nbs, flags, seq, heads, keys, lsas⟩ A8 n1 c8 AH n2 cH AK n3 cK A n4 c) rfl rfl hgz Try.underlying40 rfl (by kernel_rfl) rfl ?_
                    have hzr := hD7.symm
                    refine ⟨A8, n1, c8, AH, n2, cH, AK, n3, cK, A, n4, c, done.map Prod.snd, rfl, ⟨hN8, hH8, hK8, ?_, by simp only; rw [hzr]; simp, ?_⟩, hbb8, ⟨fun ad had => by have := hfrN ad had; omega, fun ad had => by have := hfrH2 ad had; omega, fun ad had => by have := hfrK2 ad had; omega, fun ad had => by have := (hfrL ad had).1; omega, ?_⟩⟩
                    · simp only
                      rw [hzr, zip_done]
                      exact hL8
                    · simp only
                      rw [hzr, zip_done]
                      intro p hp
                      obtain ⟨e1, e2, e3, _⟩ := hea7.out p hp
                      exact ⟨e1.links.grown hgrz (fun ad had hb => by injection hb with hb; have := e2 ad had; omega), e1.routers.grown hgrz (fun ad had hb => by injection hb with hb; have := e3 ad had; omega)⟩
                    · intro r hr
                      obtain ⟨p, hp, rfl⟩ := List.mem_map.1 hr
                      obtain ⟨_, e2, e3, _⟩ := hea7.out p hp
                      exact ⟨fun ad had => by have := e2 ad had; omega, fun ad had => by have := e3 ad had; omega⟩
end Go.Proofs.Ytgopkpogakjckaa
