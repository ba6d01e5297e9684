/-
  Arguments opened: packets, pairs of ints.
-/
import Derived.Test.YtgopkpogakjckaaBase
import Derived.Deep.Slices
import Derived.Deep.Fields
import Derived.ChangeSame
import Derived.SizedLaws
import Derived.Test.YtgopkpogakjckaaLsa7
import Derived.Test.YtgopkpogakjckaaPk2
import Derived.ChangeSlices
namespace Go.Proofs.Ytgopkpogakjckaa
set_option linter.unusedVariables false
set_option linter.unusedSimpArgs false
open Go Go.RowKit Go.ChangeShapes Go.WideShapes Go.Deep

section
variable {H : Type} {enc : TypeId × Value → H} {P : Program} {w : World} {base : Nat} {spare : Nat → Bool} {held : Bool}
theorem open_slice_fields {t e : TypeId} {fs : Array Field} {fuel : Nat} {cs : List Value} {x : DataW H × List MemPlace} (ht : P.underlying t = some (.slice e)) (he : P.underlying e = some (.struct fs))
    (hone : oneCellFields P fs = true) (hC : P.cellsOf e = fs.size) (h : DataW.trod enc P w base spare held fuel t cs = some x) :
    (cs = [.slice none 0 0] ∧ x = (.nil, [])) ∨
    ∃ (a : Addr) (len cap m : Nat) (D : Nat → DataW H) (Pl : Nat → List MemPlace), cs = [.slice (some a) len cap] ∧ base ≤ a.block ∧ len ≤ cap ∧ cap ≤ maxLen ∧ m = (if spare a.block then cap else len) ∧
      x = (.slice ((List.range len).map D) ((List.range (m - len)).map fun j => D (len + j)), MemPlace.row a (m * fs.size) ++ (List.range m).flatMap Pl) ∧
      ∀ i, i < m → ∃ (ys : List (DataW H × List MemPlace)) (n : Nat), D i = .agg (ys.map (·.1)) ∧ Pl i = ys.flatMap (·.2) ∧ ys.length = fs.size ∧
        ∀ (j : Nat) (f : Field), fs[j]? = some f → ∃ (v : Value) (y : DataW H × List MemPlace), w.cell? (a.add (i * fs.size + j)) = some v ∧ ys[j]? = some y ∧ DataW.trod enc P w base spare held n f.type [v] = some y := by
  rcases open_slice ht h with h0 | ⟨a, len, cap, m, n, D, Pl, hcs, hb, hl, hm, hmm, hx, hi⟩
  · exact .inl h0
  · refine .inr ⟨a, len, cap, m, D, Pl, hcs, hb, hl, hm, hmm, by rw [hC] at hx; exact hx, fun i him => ?_⟩
    obtain ⟨cs', hc, ht'⟩ := hi i him
    rw [hC] at hc
    obtain ⟨ys, n', hn', hy, hlen, hyl, hf⟩ := DataW.trod_struct he ht'
    obtain ⟨_, hcl, hat⟩ := World.cells?_some hc
    simp only [Prod.mk.injEq] at hy
    refine ⟨ys, n', hy.1, hy.2, hyl, fun j f hj => ?_⟩
    obtain ⟨ho, hk⟩ := hone_of hone j f hj
    have hjl : j < fs.size := (Array.getElem?_eq_some_iff.1 hj).1
    have hcell := hat j hjl
    have hv : cs'[j]? = some (cs'[j]'(by omega)) := List.getElem?_eq_getElem (by omega)
    have h1 := hf j f hj
    rw [ho, hk] at h1
    have hone' : (cs'.drop j).take 1 = [cs'[j]'(by omega)] := by
      rw [List.drop_eq_getElem_cons (by omega)]
      rfl
    rw [hone'] at h1
    have hys : ys[j]? = some (ys[j]'(by omega)) := List.getElem?_eq_getElem (by omega)
    refine ⟨_, _, ?_, hys, h1.trans hys⟩
    rw [← Go.Deep.add_add, hcell, hv]
end

def cellInt (w : World) (a : Addr) : Int := match w.cell? a with | some (.int _ z) => z | _ => 0
theorem wf_bd {k : IntKind} {z : Int} (h : (Lit.int k z).wf = true) : k.min ≤ z ∧ z ≤ k.max := by simpa [Lit.wf] using h
theorem u32_bd {z : Int} (h : (Lit.int .u32 z).wf = true) : 0 ≤ z ∧ z < 4294967296 := by
  have := wf_bd h
  simp [IntKind.min, IntKind.max, IntKind.bits, IntKind.signed] at this
  omega
theorem i64_bd {z : Int} (h : (Lit.int .i64 z).wf = true) : -9223372036854775808 ≤ z ∧ z ≤ 9223372036854775807 := wf_i64_bd h
end Go.Proofs.Ytgopkpogakjckaa
namespace Go.Proofs.Ytgopkpogakjckaa
set_option linter.unusedVariables false
set_option linter.unusedSimpArgs false
open Go Go.RowKit SM LM Go.ChangeShapes Go.WideShapes Go.Deep

section
variable {H : Type} {enc : TypeId × Value → H} {w : World} {base : Nat} {held : Bool}
theorem open_links {P : Program} {t e : TypeId} {f0 f1 f2 f3 : Field} {fuel : Nat} {cs : List Value} {x : DataW H × List MemPlace} (ht : P.underlying t = some (.slice e)) (he : P.underlying e = some (.struct #[f0, f1, f2, f3]))
    (hone : oneCellFields P #[f0, f1, f2, f3] = true) (hC : P.cellsOf e = 4) (u0 : P.underlying f0.type = some (.int .u32)) (u1 : P.underlying f1.type = some (.int .u32)) (u2 : P.underlying f2.type = some (.int .i64)) (u3 : P.underlying f3.type = some (.int .i64))
    (h : DataW.trod enc P w base (fun _ => true) held fuel t cs = some x) :
    ∃ (A : Option Addr) (n c : Nat) (l : List Link), cs = [.slice A n c] ∧ Sl w 4 (.slice A n c) (LK l) ∧ (∀ y ∈ l, y.wf) ∧ ((n = 0) ∨ ∃ els rest, x.1 = .slice els rest ∧ els.length + rest.length = c) := by
  rcases open_slice_fields ht he hone hC h with ⟨rfl, rfl⟩ | ⟨a, len, cap, m, D, Pl, rfl, hb, hl, hm, hmm, rfl, hi⟩
  · exact ⟨none, 0, 0, [], rfl, sl_nil w 4, by simp, .inl rfl⟩
  · simp only [if_true] at hmm
    subst hmm
    have hi' : ∀ i, i < m → ∃ z0 z1 z2 z3 : Int, w.cell? (a.add (i * 4 + 0)) = some (.int .u32 z0) ∧ w.cell? (a.add (i * 4 + 1)) = some (.int .u32 z1) ∧ w.cell? (a.add (i * 4 + 2)) = some (.int .i64 z2) ∧ w.cell? (a.add (i * 4 + 3)) = some (.int .i64 z3) ∧
        (0 ≤ z0 ∧ z0 < 4294967296) ∧ (0 ≤ z1 ∧ z1 < 4294967296) ∧ (-9223372036854775808 ≤ z2 ∧ z2 ≤ 9223372036854775807) ∧ (-9223372036854775808 ≤ z3 ∧ z3 ≤ 9223372036854775807) := by
      intro i him
      obtain ⟨ys, n, _, _, _, hf⟩ := hi i him
      obtain ⟨v0, y0, c0, _, t0⟩ := hf 0 f0 rfl
      obtain ⟨v1, y1, c1, _, t1⟩ := hf 1 f1 rfl
      obtain ⟨v2, y2, c2, _, t2⟩ := hf 2 f2 rfl
      obtain ⟨v3, y3, c3, _, t3⟩ := hf 3 f3 rfl
      obtain ⟨z0, e0, _, b0⟩ := DataW.trod_int u0 t0
      obtain ⟨z1, e1, _, b1⟩ := DataW.trod_int u1 t1
      obtain ⟨z2, e2, _, b2⟩ := DataW.trod_int u2 t2
      obtain ⟨z3, e3, _, b3⟩ := DataW.trod_int u3 t3
      injection e0 with e0; injection e1 with e1; injection e2 with e2; injection e3 with e3
      subst e0; subst e1; subst e2; subst e3
      exact ⟨z0, z1, z2, z3, c0, c1, c2, c3, u32_bd b0, u32_bd b1, i64_bd b2, i64_bd b3⟩
    let lk : Nat → Link := fun i => ⟨(cellInt w (a.add (i * 4 + 0))).toNat, (cellInt w (a.add (i * 4 + 1))).toNat, cellInt w (a.add (i * 4 + 2)), cellInt w (a.add (i * 4 + 3))⟩
    have hlk : ∀ i, i < m → (lk i).wf ∧ ∀ j, j < 4 → w.cell? (a.add (i * 4 + j)) = (linkC (lk i))[j]? := by
      intro i him
      obtain ⟨z0, z1, z2, z3, c0, c1, c2, c3, b0, b1, b2, b3⟩ := hi' i him
      have e : lk i = ⟨z0.toNat, z1.toNat, z2, z3⟩ := by simp only [lk, cellInt, c0, c1, c2, c3]
      rw [e]
      refine ⟨⟨by simp only; omega, by simp only; omega, b2, b3⟩, fun j hj => ?_⟩
      have k0 : ((z0.toNat : Nat) : Int) = z0 := by omega
      have k1 : ((z1.toNat : Nat) : Int) = z1 := by omega
      match j, hj with
      | 0, _ => rw [c0]; simp [linkC, k0]
      | 1, _ => rw [c1]; simp [linkC, k1]
      | 2, _ => rw [c2]; simp [linkC]
      | 3, _ => rw [c3]; simp [linkC]
    refine ⟨some a, len, m, (List.range len).map lk, rfl, ?_, ?_, .inr ⟨_, _, rfl, by simp; omega⟩⟩
    · refine ⟨some a, len, m, rfl, by rw [LK_length]; simp, hl, hm, fun hn => ?_⟩
      obtain ⟨b, off, spot⟩ := a
      obtain ⟨z0, _, _, _, c0, _⟩ := hi' 0 (by omega)
      have hspot : spot = none := by simpa [Addr.add] using World.cell?_spot c0
      subst hspot
      have hbl : b < w.heap.size := by
        have := World.block_lt_of_cell? w _ c0
        rw [addr_add] at this
        exact this
      refine ⟨b, off, rfl, hbl, fun i hi2 => ?_⟩
      have h1 := (hlk (i / 4) (by omega)).2 (i % 4) (by omega)
      rw [addr_add, show i / 4 * 4 + i % 4 = i by omega] at h1
      rw [h1]
      have h2 := LK_get ((List.range len).map lk) (i / 4) (i % 4) (by simp; omega) (by omega)
      rw [show i / 4 * 4 + i % 4 = i by omega] at h2
      rw [h2]
      congr 2
      unfold linkAt
      rw [List.getD_eq_getElem?_getD, List.getElem?_map, List.getElem?_range (by omega)]
      rfl
    · intro y hy
      obtain ⟨i, hi2, rfl⟩ := List.mem_map.1 hy
      exact (hlk i (by have := List.mem_range.1 hi2; omega)).1
theorem open_u32s {P : Program} {t e : TypeId} {fuel : Nat} {cs : List Value} {x : DataW H × List MemPlace} (ht : P.underlying t = some (.slice e)) (he : P.underlying e = some (.int .u32)) (hC : P.cellsOf e = 1)
    (h : DataW.trod enc P w base (fun _ => true) held fuel t cs = some x) :
    ∃ (A : Option Addr) (n c : Nat) (l : List Nat), cs = [.slice A n c] ∧ Sl w 1 (.slice A n c) (U32 l) ∧ (∀ y ∈ l, y < 4294967296) ∧ ((n = 0) ∨ ∃ els rest, x.1 = .slice els rest ∧ els.length + rest.length = c) := by
  rcases open_ints ht he hC h with ⟨rfl, rfl⟩ | ⟨a, len, cap, zs, rfl, hb, hl, hm, hz, rfl, hc, hwf⟩
  · exact ⟨none, 0, 0, [], rfl, sl_nil w 1, by simp, .inl rfl⟩
  · simp only [if_true] at hz
    refine ⟨some a, len, cap, (zs.take len).map Int.toNat, rfl, ?_, ?_, .inr ⟨_, _, rfl, by simp [lits]; omega⟩⟩
    · refine ⟨some a, len, cap, rfl, by simp [U32]; omega, hl, hm, fun hn => ?_⟩
      obtain ⟨b, off, spot⟩ := a
      have h0 := hc 0 (by omega)
      have hspot : spot = none := by simpa [Addr.add] using World.cell?_spot h0
      subst hspot
      have hbl : b < w.heap.size := by
        have := World.block_lt_of_cell? w _ h0
        rw [addr_add] at this
        exact this
      refine ⟨b, off, rfl, hbl, fun i hi => ?_⟩
      have h1 := hc i (by omega)
      rw [addr_add] at h1
      rw [h1]
      have hi2 : i < zs.length := by omega
      have hw := u32_bd (hwf _ (List.getElem_mem hi2))
      simp [U32, List.getElem?_take, show i < len by omega, List.getElem?_eq_getElem hi2, List.getD_eq_getElem?_getD]
      omega
    · intro y hy
      obtain ⟨z, hz2, rfl⟩ := List.mem_map.1 hy
      have := u32_bd (hwf z (List.mem_of_mem_take hz2))
      omega

theorem list9 {α : Type} (l : List α) (h : l.length = 9) : ∃ c0 c1 c2 c3 c4 c5 c6 c7 c8, l = [c0, c1, c2, c3, c4, c5, c6, c7, c8] := by
  match l, h with
  | [c0, c1, c2, c3, c4, c5, c6, c7, c8], _ => exact ⟨c0, c1, c2, c3, c4, c5, c6, c7, c8, rfl⟩
theorem list7 {α : Type} (l : List α) (h : l.length = 7) : ∃ c0 c1 c2 c3 c4 c5 c6, l = [c0, c1, c2, c3, c4, c5, c6] := by
  match l, h with
  | [c0, c1, c2, c3, c4, c5, c6], _ => exact ⟨c0, c1, c2, c3, c4, c5, c6, rfl⟩
theorem list3 {α : Type} (l : List α) (h : l.length = 3) : ∃ c0 c1 c2, l = [c0, c1, c2] := by
  match l, h with
  | [c0, c1, c2], _ => exact ⟨c0, c1, c2, rfl⟩
theorem sized_struct {P : Program} {ts : List TypeId} {ds : List (DataW H)} (h : (DataW.weightsEach P ts ds).all (· ≤ reachBytes) = true) {j : Nat} {t : TypeId} {fs : Array Field} {parts : List (DataW H)} (ht : ts[j]? = some t) (hd : ds[j]? = some (.agg parts)) (hu : P.underlying t = some (.struct fs)) :
    (DataW.weightsEach P (fs.toList.map (·.type)) parts).all (· ≤ reachBytes) = true := by
  rw [List.all_eq_true] at h ⊢
  intro x hx
  exact h x (DataW.weights_mem_each ht hd x (by simpa [DataW.weights, hu] using hx))
end
end Go.Proofs.Ytgopkpogakjckaa
namespace Go.Proofs.Ytgopkpogakjckaa
set_option linter.unusedVariables false
set_option linter.unusedSimpArgs false
open Go Go.RowKit SM LM PK Go.ChangeShapes Go.WideShapes Go.Deep

section
variable {H : Type} {enc : TypeId × Value → H} {w : World} {base : Nat} {held : Bool}
theorem weights_all {P : Program} {e : TypeId} {d : DataW H} : ∀ {els : List (DataW H)}, d ∈ els → ∀ n ∈ d.weights P e, n ∈ DataW.weightsAll P e els
  | [], h, _, _ => by simp at h
  | d0 :: r, h, n, hn => by
    simp only [DataW.weightsAll, List.mem_append]
    rcases List.mem_cons.1 h with h | h
    · subst h; exact .inl hn
    · exact .inr (weights_all h n hn)
theorem sized_el {P : Program} {ts : List TypeId} {ds : List (DataW H)} (h : (DataW.weightsEach P ts ds).all (· ≤ reachBytes) = true) {j : Nat} {t e : TypeId} {els rest : List (DataW H)} {d : DataW H} {fs : Array Field} {parts : List (DataW H)}
    (ht : ts[j]? = some t) (hd : ds[j]? = some (.slice els rest)) (hu : P.underlying t = some (.slice e)) (hm : d ∈ els) (hs : P.underlying e = some (.struct fs)) (hp : d = .agg parts) : (DataW.weightsEach P (fs.toList.map (·.type)) parts).all (· ≤ reachBytes) = true := by
  subst hp
  rw [List.all_eq_true] at h ⊢
  intro x hx
  refine h x (DataW.weights_mem_each ht hd x ?_)
  simp only [DataW.weights, hu, List.mem_cons, List.mem_append]
  refine .inr (.inl (weights_all hm x ?_))
  simpa [DataW.weights, hs] using hx
theorem isU_of {z : Int} (h : (Lit.int .u32 z).wf = true) : isU z := u32_bd h
theorem isI_of {z : Int} (h : (Lit.int .i64 z).wf = true) : isI z := i64_bd h
theorem isS_of {z : Int} (h : (Lit.int .u16 z).wf = true) : 0 ≤ z ∧ z < 65536 := by
  have := wf_bd h
  simp [IntKind.min, IntKind.max, IntKind.bits, IntKind.signed] at this
  omega
theorem tr_key {P : Program} {t : TypeId} {k0 k1 k2 : Field} {fuel : Nat} {cs : List Value} {x : DataW H × List MemPlace} (hs : P.underlying t = some (.struct #[k0, k1, k2])) (hC : P.cellsOf t = 3)
    (ho : (k0.offset, k1.offset, k2.offset) = (0, 1, 2)) (hc : (P.cellsOf k0.type, P.cellsOf k1.type, P.cellsOf k2.type) = (1, 1, 1))
    (u0 : P.underlying k0.type = some (.int .i64)) (u1 : P.underlying k1.type = some (.int .u32)) (u2 : P.underlying k2.type = some (.int .u32))
    (h : DataW.trod enc P w base (fun _ => true) held fuel t cs = some x) : ∃ k : Ky, cs = kyC k ∧ k.wf := by
  obtain ⟨xs, n, _, hx, hl, hlen, hg⟩ := DataW.trod_struct hs h
  obtain ⟨c0, c1, c2, rfl⟩ := list3 cs (by rw [hl, hC])
  obtain ⟨x0, x1, x2, rfl⟩ := list3 xs (by simpa using hlen)
  simp only [Prod.mk.injEq] at ho hc
  obtain ⟨o0, o1, o2⟩ := ho
  obtain ⟨q0, q1, q2⟩ := hc
  have g0 := hg 0 k0 rfl
  have g1 := hg 1 k1 rfl
  have g2 := hg 2 k2 rfl
  simp [o0, q0] at g0
  simp [o1, q1] at g1
  simp [o2, q2] at g2
  obtain ⟨z0, e0, _, b0⟩ := DataW.trod_int u0 g0
  obtain ⟨z1, e1, _, b1⟩ := DataW.trod_int u1 g1
  obtain ⟨z2, e2, _, b2⟩ := DataW.trod_int u2 g2
  simp at e0 e1 e2
  subst e0; subst e1; subst e2
  exact ⟨⟨z0, z1, z2⟩, rfl, isI_of b0, isU_of b1, isU_of b2⟩
theorem list5 {α : Type} (l : List α) (h : l.length = 5) : ∃ c0 c1 c2 c3 c4, l = [c0, c1, c2, c3, c4] := by
  match l, h with
  | [c0, c1, c2, c3, c4], _ => exact ⟨c0, c1, c2, c3, c4, rfl⟩
theorem list10 {α : Type} (l : List α) (h : l.length = 10) : ∃ c0 c1 c2 c3 c4 c5 c6 c7 c8 c9, l = [c0, c1, c2, c3, c4, c5, c6, c7, c8, c9] := by
  match l, h with
  | [c0, c1, c2, c3, c4, c5, c6, c7, c8, c9], _ => exact ⟨c0, c1, c2, c3, c4, c5, c6, c7, c8, c9, rfl⟩
theorem list16 {α : Type} (l : List α) (h : l.length = 16) : ∃ c0 c1 c2 c3 c4 c5 c6 c7 c8 c9 c10 c11 c12 c13 c14 c15, l = [c0, c1, c2, c3, c4, c5, c6, c7, c8, c9, c10, c11, c12, c13, c14, c15] := by
  match l, h with
  | [c0, c1, c2, c3, c4, c5, c6, c7, c8, c9, c10, c11, c12, c13, c14, c15], _ => exact ⟨c0, c1, c2, c3, c4, c5, c6, c7, c8, c9, c10, c11, c12, c13, c14, c15, rfl⟩
theorem tr_hdr {P : Program} {t : TypeId} {f0 f1 f2 f3 f4 k0 k1 k2 : Field} {fuel : Nat} {cs : List Value} {x : DataW H × List MemPlace} (hs : P.underlying t = some (.struct #[f0, f1, f2, f3, f4])) (hC : P.cellsOf t = 7)
    (ho : (f0.offset, f1.offset, f2.offset, f3.offset, f4.offset) = (0, 1, 4, 5, 6)) (hc : (P.cellsOf f0.type, P.cellsOf f1.type, P.cellsOf f2.type, P.cellsOf f3.type, P.cellsOf f4.type) = (1, 3, 1, 1, 1))
    (u0 : P.underlying f0.type = some (.int .i64)) (uk : P.underlying f1.type = some (.struct #[k0, k1, k2])) (u2 : P.underlying f2.type = some (.int .i64)) (u3 : P.underlying f3.type = some (.int .u16)) (u4 : P.underlying f4.type = some (.int .i64))
    (hok : (k0.offset, k1.offset, k2.offset) = (0, 1, 2)) (hck : (P.cellsOf k0.type, P.cellsOf k1.type, P.cellsOf k2.type) = (1, 1, 1))
    (uk0 : P.underlying k0.type = some (.int .i64)) (uk1 : P.underlying k1.type = some (.int .u32)) (uk2 : P.underlying k2.type = some (.int .u32))
    (h : DataW.trod enc P w base (fun _ => true) held fuel t cs = some x) : ∃ k : Hdr, cs = hdC k ∧ k.wf := by
  obtain ⟨xs, n, _, hx, hl, hlen, hg⟩ := DataW.trod_struct hs h
  obtain ⟨c0, c1, c2, c3, c4, c5, c6, rfl⟩ := list7 cs (by rw [hl, hC])
  obtain ⟨x0, x1, x2, x3, x4, rfl⟩ := list5 xs (by simpa using hlen)
  simp only [Prod.mk.injEq] at ho hc
  obtain ⟨o0, o1, o2, o3, o4⟩ := ho
  obtain ⟨q0, q1, q2, q3, q4⟩ := hc
  have g0 := hg 0 f0 rfl
  have g1 := hg 1 f1 rfl
  have g2 := hg 2 f2 rfl
  have g3 := hg 3 f3 rfl
  have g4 := hg 4 f4 rfl
  simp [o0, q0] at g0
  simp [o1, q1] at g1
  simp [o2, q2] at g2
  simp [o3, q3] at g3
  simp [o4, q4] at g4
  obtain ⟨z0, e0, _, b0⟩ := DataW.trod_int u0 g0
  obtain ⟨K, e1, bk⟩ := tr_key uk (by rw [q1]) hok hck uk0 uk1 uk2 g1
  obtain ⟨z2, e2, _, b2⟩ := DataW.trod_int u2 g2
  obtain ⟨z3, e3, _, b3⟩ := DataW.trod_int u3 g3
  obtain ⟨z4, e4, _, b4⟩ := DataW.trod_int u4 g4
  simp at e0 e2 e3 e4
  simp [kyC] at e1
  obtain ⟨e1, e1', e1''⟩ := e1
  subst e0; subst e1; subst e1'; subst e1''; subst e2; subst e3; subst e4
  exact ⟨⟨z0, K.ty, K.id, K.adv, z2, z3, z4⟩, rfl, isI_of b0, bk.1, bk.2.1, bk.2.2, isI_of b2, isS_of b3, isI_of b4⟩
def SmL (p : Lsa × LsR) : Prop := p.2.n1 * 24 ≤ 140737488355328 ∧ p.2.n2 * 4 ≤ 140737488355328
theorem tr_lsa {P : Program} {t tl tr : TypeId} {f0 f1 f2 f3 f4 f5 f6 k0 k1 k2 l0 l1 l2 l3 : Field} {fuel : Nat} {cs : List Value} {x : DataW H × List MemPlace}
    (hs : P.underlying t = some (.struct #[f0, f1, f2, f3, f4, f5, f6])) (hC : P.cellsOf t = 9)
    (ho : (f0.offset, f1.offset, f2.offset, f3.offset, f4.offset, f5.offset, f6.offset) = (0, 1, 4, 5, 6, 7, 8))
    (hc : (P.cellsOf f0.type, P.cellsOf f1.type, P.cellsOf f2.type, P.cellsOf f3.type, P.cellsOf f4.type, P.cellsOf f5.type, P.cellsOf f6.type) = (1, 3, 1, 1, 1, 1, 1))
    (u0 : P.underlying f0.type = some (.int .i64)) (uk : P.underlying f1.type = some (.struct #[k0, k1, k2])) (u2 : P.underlying f2.type = some (.int .i64)) (u3 : P.underlying f3.type = some (.slice tl)) (u4 : P.underlying f4.type = some (.int .u32)) (u5 : P.underlying f5.type = some (.slice tr)) (u6 : P.underlying f6.type = some (.int .i64))
    (hok : (k0.offset, k1.offset, k2.offset) = (0, 1, 2)) (hck : (P.cellsOf k0.type, P.cellsOf k1.type, P.cellsOf k2.type) = (1, 1, 1))
    (uk0 : P.underlying k0.type = some (.int .i64)) (uk1 : P.underlying k1.type = some (.int .u32)) (uk2 : P.underlying k2.type = some (.int .u32))
    (ul : P.underlying tl = some (.struct #[l0, l1, l2, l3])) (hone : oneCellFields P #[l0, l1, l2, l3] = true) (hCl : P.cellsOf tl = 4) (ul0 : P.underlying l0.type = some (.int .u32)) (ul1 : P.underlying l1.type = some (.int .u32)) (ul2 : P.underlying l2.type = some (.int .i64)) (ul3 : P.underlying l3.type = some (.int .i64))
    (ur : P.underlying tr = some (.int .u32)) (hCr : P.cellsOf tr = 1) (bl : P.bytesOf tl = 24) (br : P.bytesOf tr = 4)
    (h : DataW.trod enc P w base (fun _ => true) held fuel t cs = some x) :
    ∃ p : Lsa × LsR, cs = lsC p ∧ IsL w p ∧ WfL p.1 ∧ ∃ parts, x.1 = .agg parts ∧ ((DataW.weightsEach P (#[f0, f1, f2, f3, f4, f5, f6].toList.map (·.type)) parts).all (· ≤ reachBytes) = true → SmL p) := by
  obtain ⟨xs, n, _, hx, hl, hlen, hg⟩ := DataW.trod_struct hs h
  obtain ⟨c0, c1, c2, c3, c4, c5, c6, c7, c8, rfl⟩ := list9 cs (by rw [hl, hC])
  obtain ⟨x0, x1, x2, x3, x4, x5, x6, rfl⟩ := list7 xs (by simpa using hlen)
  simp only [Prod.mk.injEq] at ho hc
  obtain ⟨o0, o1, o2, o3, o4, o5, o6⟩ := ho
  obtain ⟨q0, q1, q2, q3, q4, q5, q6⟩ := hc
  have g0 := hg 0 f0 rfl
  have g1 := hg 1 f1 rfl
  have g2 := hg 2 f2 rfl
  have g3 := hg 3 f3 rfl
  have g4 := hg 4 f4 rfl
  have g5 := hg 5 f5 rfl
  have g6 := hg 6 f6 rfl
  simp [o0, q0] at g0
  simp [o1, q1] at g1
  simp [o2, q2] at g2
  simp [o3, q3] at g3
  simp [o4, q4] at g4
  simp [o5, q5] at g5
  simp [o6, q6] at g6
  obtain ⟨age, e0, _, _⟩ := DataW.trod_int u0 g0
  obtain ⟨K, e1, bk⟩ := tr_key uk (by rw [q1]) hok hck uk0 uk1 uk2 g1
  obtain ⟨seq, e4, _, _⟩ := DataW.trod_int u2 g2
  obtain ⟨A1, n1, d1, links, e5, hsl, hwl, hzl⟩ := open_links u3 ul hone hCl ul0 ul1 ul2 ul3 g3
  obtain ⟨mask, e6, _, bm⟩ := DataW.trod_int u4 g4
  obtain ⟨A2, n2, d2, routers, e7, hsr, hwr, hzr⟩ := open_u32s u5 ur hCr g5
  obtain ⟨cost, e8, _, _⟩ := DataW.trod_int u6 g6
  simp at e0 e4 e5 e6 e7 e8
  simp [kyC] at e1
  obtain ⟨e1, e2, e3⟩ := e1
  subst e0; subst e1; subst e2; subst e3; subst e4; subst e5; subst e6; subst e7; subst e8
  have bm := u32_bd bm
  obtain ⟨kty, kid, kadv⟩ := K
  obtain ⟨_, bk1, bk2⟩ := bk
  simp only [isU] at bk1 bk2
  have i1 : ((kid.toNat : Nat) : Int) = kid := by omega
  have i2 : ((kadv.toNat : Nat) : Int) = kadv := by omega
  have i3 : ((mask.toNat : Nat) : Int) = mask := by omega
  refine ⟨(⟨age, kty, kid.toNat, kadv.toNat, seq, links, mask.toNat, routers, cost⟩, ⟨A1, n1, d1, A2, n2, d2⟩), ?_, ⟨hsl, hsr⟩, ⟨hwl, hwr, by simp only; omega, by simp only; omega, by simp only; omega⟩, _, by rw [hx], fun hw => ⟨?_, ?_⟩⟩
  · simp [lsC, i1, i2, i3]
  · rcases hzl with h0 | ⟨els, rest, hE, hL⟩
    · simp only; omega
    · have := sized_slice hw (j := 3) (t := f3.type) (e := tl) (elems := els) (spare := rest) rfl (by simp [hE]) u3
      rw [bl, hL] at this
      have := hsl.lenN.2.1
      simp only [reachBytes] at *
      omega
  · rcases hzr with h0 | ⟨els, rest, hE, hL⟩
    · simp only; omega
    · have := sized_slice hw (j := 5) (t := f5.type) (e := tr) (elems := els) (spare := rest) rfl (by simp [hE]) u5
      rw [br, hL] at this
      have := hsr.lenN.2.1
      simp only [reachBytes] at *
      omega
theorem open_els {P : Program} {α : Type} {t e : TypeId} {size fuel : Nat} {cs : List Value} {x : DataW H × List MemPlace} (cell : α → List Value) (Q : α → DataW H → Prop) (d0 : α) (ht : P.underlying t = some (.slice e)) (hC : P.cellsOf e = size) (h0 : 0 < size)
    (hcl : ∀ a, (cell a).length = size) (hel : ∀ n cs' y, DataW.trod enc P w base (fun _ => true) held n e cs' = some y → ∃ a, cs' = cell a ∧ Q a y.1) (h : DataW.trod enc P w base (fun _ => true) held fuel t cs = some x) :
    ∃ (A : Option Addr) (n c : Nat) (l : List α), cs = [.slice A n c] ∧ Sl w size (.slice A n c) (l.flatMap cell) ∧ ((n = 0 ∧ l = []) ∨ ∃ els rest, x.1 = .slice els rest ∧ els.length + rest.length = c ∧ ∀ a ∈ l, ∃ d ∈ els, Q a d) := by
  rcases open_slice ht h with ⟨rfl, rfl⟩ | ⟨a, len, cap, m, n, D, Pl, rfl, hb, hl, hm, hmm, rfl, hi⟩
  · exact ⟨none, 0, 0, [], rfl, sl_nil w size, .inl ⟨rfl, rfl⟩⟩
  · simp only [if_true] at hmm
    subst hmm
    rw [hC] at hi
    haveI : Inhabited α := ⟨d0⟩
    obtain ⟨f, hf⟩ := choose_lt (n := m) (p := fun i y => (∀ j, j < size → w.cell? (a.add (i * size + j)) = (cell y)[j]?) ∧ Q y (D i)) (fun i him => by
      obtain ⟨cs', hc, ht'⟩ := hi i him
      obtain ⟨y, rfl, hy⟩ := hel _ _ _ ht'
      obtain ⟨_, _, hat⟩ := World.cells?_some hc
      exact ⟨y, fun j hj => by rw [← Go.Deep.add_add]; exact hat j hj, hy⟩)
    refine ⟨some a, len, m, (List.range len).map f, rfl, ?_, .inr ⟨_, _, rfl, by simp; omega, ?_⟩⟩
    · refine ⟨some a, len, m, rfl, by rw [FL_len cell size hcl]; simp, hl, hm, fun hn => ?_⟩
      obtain ⟨b, off, spot⟩ := a
      have h1 := (hf 0 (by omega)).1 0 h0
      rw [List.getElem?_eq_getElem (by rw [hcl]; exact h0)] at h1
      have hspot : spot = none := by simpa [Addr.add] using World.cell?_spot h1
      subst hspot
      have hbl : b < w.heap.size := by
        have := World.block_lt_of_cell? w _ h1
        rw [addr_add] at this
        exact this
      refine ⟨b, off, rfl, hbl, fun i hi2 => ?_⟩
      have hk : i / size < len := Nat.div_lt_of_lt_mul (by rw [Nat.mul_comm]; exact hi2)
      have hj : i % size < size := Nat.mod_lt _ h0
      have e1 : i / size * size + i % size = i := by rw [Nat.mul_comm]; exact Nat.div_add_mod _ _
      have h2 := (hf (i / size) (by omega)).1 (i % size) hj
      rw [addr_add, e1] at h2
      rw [h2]
      have h3 := FL_get cell size hcl d0 ((List.range len).map f) (i / size) (i % size) (by simpa using hk) hj
      rw [e1] at h3
      rw [h3, List.getD_eq_getElem?_getD, List.getElem?_map, List.getElem?_range hk]
      rfl
    · intro y hy
      obtain ⟨i, hi2, rfl⟩ := List.mem_map.1 hy
      have hi3 := List.mem_range.1 hi2
      exact ⟨D i, List.mem_map.2 ⟨i, hi2, rfl⟩, (hf i (by omega)).2⟩
theorem zip_back (l : List (Lsa × LsR)) : (l.map Prod.fst).zip (l.map Prod.snd) = l := by
  induction l with
  | nil => rfl
  | cons a l ih => simp only [List.map_cons, List.zip_cons_cons, ih]
theorem sized_n {P : Program} {ts : List TypeId} {ds : List (DataW H)} (h : (DataW.weightsEach P ts ds).all (· ≤ reachBytes) = true) {j : Nat} {t e : TypeId} {els rest : List (DataW H)} {n c b : Nat} {d : DataW H} (ht : ts[j]? = some t) (hd : ds[j]? = some d) (hx : d = .slice els rest) (hu : P.underlying t = some (.slice e)) (hb : P.bytesOf e = b) (hL : els.length + rest.length = c) (hn : n ≤ c) :
    n * b ≤ 140737488355328 := by
  subst hx
  have := sized_slice h ht hd hu
  rw [hb, hL] at this
  have h2 : n * b ≤ c * b := Nat.mul_le_mul_right _ hn
  simp only [reachBytes] at this
  omega
set_option maxRecDepth 100000 in
set_option maxHeartbeats 4000000 in
theorem open_pkt {r : Reach} {b0 : Nat} {f0 f1 f2 f3 f4 f5 f6 f7 f8 f9 g0 g1 g2 g3 g4 g5 g6 : Field} {v : Value} {d : DataW H} {p : List MemPlace}
    (hs : (Try.prog).underlying 30 = some (.struct #[f0, f1, f2, f3, f4, f5, f6, f7, f8, f9])) (hC : (Try.prog).cellsOf 30 = 16)
    (ho : (f0.offset, f1.offset, f2.offset, f3.offset, f4.offset, f5.offset, f6.offset, f7.offset, f8.offset, f9.offset) = (0, 1, 2, 3, 4, 11, 12, 13, 14, 15))
    (hc : ((Try.prog).cellsOf f0.type, (Try.prog).cellsOf f1.type, (Try.prog).cellsOf f2.type, (Try.prog).cellsOf f3.type, (Try.prog).cellsOf f4.type, (Try.prog).cellsOf f5.type, (Try.prog).cellsOf f6.type, (Try.prog).cellsOf f7.type, (Try.prog).cellsOf f8.type, (Try.prog).cellsOf f9.type) = (1, 1, 1, 1, 7, 1, 1, 1, 1, 1))
    (u0 : (Try.prog).underlying f0.type = some (.int .i64)) (u1 : (Try.prog).underlying f1.type = some (.int .u32)) (u2 : (Try.prog).underlying f2.type = some (.int .u32)) (u3 : (Try.prog).underlying f3.type = some .string)
    (u4 : (Try.prog).underlying f4.type = some (.struct #[g0, g1, g2, g3, g4, g5, g6])) (u5 : (Try.prog).underlying f5.type = some (.int .i64)) (u6 : (Try.prog).underlying f6.type = some (.int .u32))
    (u7 : (Try.prog).underlying f7.type = some (.slice 105)) (u8 : (Try.prog).underlying f8.type = some (.slice 74)) (u9 : (Try.prog).underlying f9.type = some (.slice 77))
    (hog : (g0.offset, g1.offset, g2.offset, g3.offset, g4.offset, g5.offset, g6.offset) = (0, 1, 2, 3, 4, 5, 6))
    (hcg : ((Try.prog).cellsOf g0.type, (Try.prog).cellsOf g1.type, (Try.prog).cellsOf g2.type, (Try.prog).cellsOf g3.type, (Try.prog).cellsOf g4.type, (Try.prog).cellsOf g5.type, (Try.prog).cellsOf g6.type) = (1, 1, 1, 1, 1, 1, 1))
    (v0 : (Try.prog).underlying g0.type = some (.int .u32)) (v1 : (Try.prog).underlying g1.type = some (.int .i64)) (v2 : (Try.prog).underlying g2.type = some (.int .i64)) (v3 : (Try.prog).underlying g3.type = some (.int .i64))
    (v4 : (Try.prog).underlying g4.type = some (.int .u32)) (v5 : (Try.prog).underlying g5.type = some (.int .u32)) (v6 : (Try.prog).underlying g6.type = some (.slice 22))
    (hv : Value.okWide Try.prog w r b0 30 v) (h : DataW.Trod enc Try.prog w base (fun _ => true) held 30 v d p)
    (hz : ∀ parts, d = .agg parts → (DataW.weightsEach Try.prog (#[f0, f1, f2, f3, f4, f5, f6, f7, f8, f9].toList.map (·.type)) parts).all (· ≤ reachBytes) = true) :
    ∃ (P : Pkt) (A1 : Option Addr) (n1 c1 : Nat) (A2 : Option Addr) (n2 c2 : Nat) (A3 : Option Addr) (n3 c3 : Nat) (A4 : Option Addr) (n4 c4 : Nat) (R : List LsR), v = .agg (pkC P A1 n1 c1 A2 n2 c2 A3 n3 c3 A4 n4 c4) ∧ IsPk w P A1 n1 c1 A2 n2 c2 A3 n3 c3 A4 n4 c4 R ∧ WfP P ∧ P.auth.size ≤ 9223372036854775807 ∧
      n1 * 4 ≤ 140737488355328 ∧ n2 * 48 ≤ 140737488355328 ∧ n3 * 16 ≤ 140737488355328 ∧ n4 * 96 ≤ 140737488355328 ∧ ∀ q ∈ P.lsas.zip R, SmL q := by
  obtain ⟨cs, rfl, hsz⟩ := okWide_struct hs hv
  obtain ⟨l⟩ := cs
  obtain ⟨c0, c1, c2, c3, c4, c5, c6, c7, c8, c9, c10, c11, c12, c13, c14, c15, rfl⟩ := list16 l (by simpa [hC] using hsz)
  obtain ⟨fuel, hf⟩ := h
  obtain ⟨xs, n, _, hx, _, hlen, hg⟩ := DataW.trod_struct hs hf
  obtain ⟨x0, x1, x2, x3, x4, x5, x6, x7, x8, x9, rfl⟩ := list10 xs (by simpa using hlen)
  simp only [Prod.mk.injEq] at ho hc hog hcg hx
  obtain ⟨o0, o1, o2, o3, o4, o5, o6, o7, o8, o9⟩ := ho
  obtain ⟨q0, q1, q2, q3, q4, q5, q6, q7, q8, q9⟩ := hc
  obtain ⟨og0, og1, og2, og3, og4, og5, og6⟩ := hog
  obtain ⟨qg0, qg1, qg2, qg3, qg4, qg5, qg6⟩ := hcg
  have r0 := hg 0 f0 rfl
  have r1 := hg 1 f1 rfl
  have r2 := hg 2 f2 rfl
  have r3 := hg 3 f3 rfl
  have r4 := hg 4 f4 rfl
  have r5 := hg 5 f5 rfl
  have r6 := hg 6 f6 rfl
  have r7 := hg 7 f7 rfl
  have r8 := hg 8 f8 rfl
  have r9 := hg 9 f9 rfl
  simp [Value.cells, o0, q0] at r0
  simp [Value.cells, o1, q1] at r1
  simp [Value.cells, o2, q2] at r2
  simp [Value.cells, o3, q3] at r3
  simp [Value.cells, o4, q4] at r4
  simp [Value.cells, o5, q5] at r5
  simp [Value.cells, o6, q6] at r6
  simp [Value.cells, o7, q7] at r7
  simp [Value.cells, o8, q8] at r8
  simp [Value.cells, o9, q9] at r9
  obtain ⟨ty, e0, _, b0'⟩ := DataW.trod_int u0 r0
  obtain ⟨router, e1, _, b1⟩ := DataW.trod_int u1 r1
  obtain ⟨area, e2, _, b2⟩ := DataW.trod_int u2 r2
  obtain ⟨auth, e3, _, b3⟩ := DataW.trod_string u3 r3
  obtain ⟨ys, n', _, hy, _, hlk, hgk⟩ := DataW.trod_struct u4 r4
  obtain ⟨y0, y1, y2, y3, y4, y5, y6, rfl⟩ := list7 ys (by simpa using hlk)
  have j0 := hgk 0 g0 rfl
  have j1 := hgk 1 g1 rfl
  have j2 := hgk 2 g2 rfl
  have j3 := hgk 3 g3 rfl
  have j4 := hgk 4 g4 rfl
  have j5 := hgk 5 g5 rfl
  have j6 := hgk 6 g6 rfl
  simp [og0, qg0] at j0
  simp [og1, qg1] at j1
  simp [og2, qg2] at j2
  simp [og3, qg3] at j3
  simp [og4, qg4] at j4
  simp [og5, qg5] at j5
  simp [og6, qg6] at j6
  obtain ⟨mask, e4, _, b4⟩ := DataW.trod_int v0 j0
  obtain ⟨intv, e5, _, b5⟩ := DataW.trod_int v1 j1
  obtain ⟨dead, e6, _, b6⟩ := DataW.trod_int v2 j2
  obtain ⟨prio, e7, _, b7⟩ := DataW.trod_int v3 j3
  obtain ⟨dr, e8, _, b8⟩ := DataW.trod_int v4 j4
  obtain ⟨bdr, e9, _, b9⟩ := DataW.trod_int v5 j5
  obtain ⟨A1, n1, d1, nbs, e10, hs1, hw1, hz1⟩ := open_u32s v6 Try.underlying22 (by kernel_rfl) j6
  obtain ⟨flags, e11, _, b11⟩ := DataW.trod_int u5 r5
  obtain ⟨seq, e12, _, b12⟩ := DataW.trod_int u6 r6
  obtain ⟨A2, n2, d2, heads, e13, hs2, hz2⟩ := open_els (size := 7) hdC (fun a _ => a.wf) hd0 u7 (by kernel_rfl) (by omega) (fun _ => rfl) (fun _ _ _ hh => tr_hdr Try.underlying105 (by kernel_rfl) (by kernel_rfl) (by kernel_rfl) (by kernel_rfl) Try.underlying74 (by kernel_rfl) (by kernel_rfl) (by kernel_rfl) (by kernel_rfl) (by kernel_rfl) (by kernel_rfl) (by kernel_rfl) (by kernel_rfl) hh) r7
  obtain ⟨A3, n3, d3, keys, e14, hs3, hz3⟩ := open_els (size := 3) kyC (fun a _ => a.wf) ky0 u8 (by kernel_rfl) (by omega) (fun _ => rfl) (fun _ _ _ hh => tr_key Try.underlying74 (by kernel_rfl) (by kernel_rfl) (by kernel_rfl) (by kernel_rfl) (by kernel_rfl) (by kernel_rfl) hh) r8
  obtain ⟨A4, n4, d4, lsas, e15, hs4, hz4⟩ := open_els (size := 9) lsC (fun q d => IsL w q ∧ WfL q.1 ∧ ∃ parts, d = .agg parts ∧ ((DataW.weightsEach Try.prog _ parts).all (· ≤ reachBytes) = true → SmL q)) ls0 u9 (by kernel_rfl) (by omega) (fun _ => rfl)
    (fun _ _ _ hh => tr_lsa Try.underlying77 (by kernel_rfl) (by kernel_rfl) (by kernel_rfl) (by kernel_rfl) Try.underlying74 (by kernel_rfl) Try.underlying75 (by kernel_rfl) Try.underlying23 (by kernel_rfl)
    (by kernel_rfl) (by kernel_rfl) (by kernel_rfl) (by kernel_rfl) (by kernel_rfl) Try.underlying134 (by kernel_rfl) (by kernel_rfl) (by kernel_rfl) (by kernel_rfl) (by kernel_rfl) (by kernel_rfl) (by kernel_rfl) (by kernel_rfl) (by kernel_rfl) (by kernel_rfl) hh) r9
  simp at e0 e1 e2 e3 e4 e5 e6 e7 e8 e9 e10 e11 e12 e13 e14 e15
  subst e0; subst e1; subst e2; subst e3; subst e4; subst e5; subst e6; subst e7; subst e8; subst e9; subst e10; subst e11; subst e12; subst e13; subst e14; subst e15
  have B1 := u32_bd b1
  have B2 := u32_bd b2
  have B4 := u32_bd b4
  have B8 := u32_bd b8
  have B9 := u32_bd b9
  have B12 := u32_bd b12
  have i1 : ((router.toNat : Nat) : Int) = router := by omega
  have i2 : ((area.toNat : Nat) : Int) = area := by omega
  have i4 : ((mask.toNat : Nat) : Int) = mask := by omega
  have i8 : ((dr.toNat : Nat) : Int) = dr := by omega
  have i9 : ((bdr.toNat : Nat) : Int) = bdr := by omega
  have i12 : ((seq.toNat : Nat) : Int) = seq := by omega
  have hw := hz _ hx.1
  have hx4 : x4.1 = .agg ([y0, y1, y2, y3, y4, y5, y6].map (·.1)) := by rw [hy]
  have hwg := sized_struct hw (j := 4) (t := f4.type) (parts := [y0, y1, y2, y3, y4, y5, y6].map (·.1)) rfl (by simp [hx4]) u4
  have hQ : ∀ q ∈ lsas, IsL w q ∧ WfL q.1 ∧ SmL q := by
    intro q hq
    rcases hz4 with ⟨_, h0⟩ | ⟨els, rest, hE, hL, hA⟩
    · rw [h0] at hq; simp at hq
    · obtain ⟨d, hd, h1, h2, parts, h3, h4⟩ := hA q hq
      exact ⟨h1, h2, h4 (sized_el hw (j := 9) (t := f9.type) (rest := rest) rfl (by simp [hE]) u9 hd Try.underlying77 h3)⟩
  refine ⟨⟨ty, router.toNat, area.toNat, auth, mask.toNat, intv, dead, prio, dr.toNat, bdr.toNat, nbs, flags, seq.toNat, heads, keys, lsas.map Prod.fst⟩, A1, n1, d1, A2, n2, d2, A3, n3, d3, A4, n4, d4, lsas.map Prod.snd, ?_, ⟨hs1, hs2, hs3, ?_, by simp, ?_⟩,
    ⟨isI_of b0', by simp only; omega, by simp only; omega, by simp only; omega, isI_of b5, isI_of b6, isI_of b7, by simp only; omega, by simp only; omega, hw1, isI_of b11, by simp only; omega, ?_, ?_, ?_⟩, by simpa [maxLen] using b3, ?_, ?_, ?_, ?_, ?_⟩
  · simp [i1, i2, i4, i8, i9, i12]
  · rw [zip_back]; exact hs4
  · intro q hq
    rw [zip_back] at hq
    exact (hQ q hq).1
  · intro q hq
    rcases hz2 with ⟨_, h0⟩ | ⟨els, rest, hE, hL, hA⟩
    · rw [h0] at hq; simp at hq
    · obtain ⟨d, _, h1⟩ := hA q hq; exact h1
  · intro q hq
    rcases hz3 with ⟨_, h0⟩ | ⟨els, rest, hE, hL, hA⟩
    · rw [h0] at hq; simp at hq
    · obtain ⟨d, _, h1⟩ := hA q hq; exact h1
  · intro q hq
    obtain ⟨q', hq', rfl⟩ := List.mem_map.1 hq
    exact (hQ q' hq').2.1
  · rcases hz1 with h0 | ⟨els, rest, hE, hL⟩
    · rw [h0]; omega
    · exact sized_n hwg (j := 6) (t := g6.type) rfl (by simp) hE v6 (by kernel_rfl) hL hs1.lenN.2.1
  · rcases hz2 with ⟨h0, _⟩ | ⟨els, rest, hE, hL, _⟩
    · rw [h0]; omega
    · exact sized_n hw (j := 7) (t := f7.type) rfl (by simp) hE u7 (by kernel_rfl) hL hs2.lenN.2.1
  · rcases hz3 with ⟨h0, _⟩ | ⟨els, rest, hE, hL, _⟩
    · rw [h0]; omega
    · exact sized_n hw (j := 8) (t := f8.type) rfl (by simp) hE u8 (by kernel_rfl) hL hs3.lenN.2.1
  · rcases hz4 with ⟨h0, _⟩ | ⟨els, rest, hE, hL, _⟩
    · rw [h0]; omega
    · exact sized_n hw (j := 9) (t := f9.type) rfl (by simp) hE u9 (by kernel_rfl) hL hs4.lenN.2.1
  · intro q hq
    rw [zip_back] at hq
    exact (hQ q hq).2.2
end
end Go.Proofs.Ytgopkpogakjckaa
namespace Go.Proofs.Ytgopkpogakjckaa
set_option linter.unusedVariables false
set_option linter.unusedSimpArgs false
open Go Go.RowKit Go.ChangeShapes Go.WideShapes Go.Deep
section
variable {H : Type} {enc : TypeId × Value → H} {P : Program} {w : World} {base : Nat} {spare : Nat → Bool} {held : Bool}
theorem open_arr2 {r : Reach} {b0 : Nat} {t e : TypeId} {v : Value} {d : DataW H} {p : List MemPlace} (hu : P.underlying t = some (.array 2 e)) (he : P.underlying e = some (.int .i64)) (hC : P.cellsOf t = 2) (hE : P.cellsOf e = 1)
    (hv : Value.okWide P w r b0 t v) (h : DataW.Trod enc P w base spare held t v d p) : ∃ x y : Int, v = .agg #[.int .i64 x, .int .i64 y] := by
  simp only [Value.okWide, hu] at hv
  obtain ⟨cs, rfl, h2, _⟩ := hv
  rw [hC] at h2
  obtain ⟨a, b, rfl⟩ : ∃ a b, cs = #[a, b] := by
    obtain ⟨l⟩ := cs
    match l, h2 with
    | [a, b], _ => exact ⟨a, b, rfl⟩
  obtain ⟨fuel, hf⟩ := h
  cases fuel with
  | zero => simp [DataW.trod] at hf
  | succ m =>
    rw [DataW.trod_step] at hf
    unfold DataW.trodStep at hf
    simp only [hu, Value.cells] at hf
    rw [if_pos (by rw [hC]; rfl)] at hf
    simp only [Option.map_eq_some_iff, hE] at hf
    obtain ⟨ys, hy, _⟩ := hf
    rw [show List.range 2 = [0, 1] from rfl, List.mapM_cons] at hy
    simp only [bind, Option.bind_eq_some_iff, pure, Option.some.injEq] at hy
    obtain ⟨y, hy1, ys', hys, rfl⟩ := hy
    rw [List.mapM_cons] at hys
    simp only [bind, Option.bind_eq_some_iff, pure, Option.some.injEq] at hys
    obtain ⟨y', hy2, _⟩ := hys
    obtain ⟨x, ex, _, _⟩ := DataW.trod_int he hy1
    obtain ⟨z, ez, _, _⟩ := DataW.trod_int he hy2
    simp at ex ez
    subst ex; subst ez
    exact ⟨x, z, rfl⟩
end
section
variable {H : Type} {enc : TypeId × Value → H} {P : Program} {w : World} {base : Nat} {held : Bool}
end
end Go.Proofs.Ytgopkpogakjckaa
