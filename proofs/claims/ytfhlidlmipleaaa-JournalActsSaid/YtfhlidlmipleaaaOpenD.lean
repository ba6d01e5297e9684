/-
  A list of the law's acts among the arguments.
-/
import Derived.Test.YtfhlidlmipleaaaOpenS
import Derived.Test.YtfhlidlmipleaaaOpenB
import Derived.Test.YtfhlidlmipleaaaDk8
namespace Go.Proofs.Ytfhlidlmipleaaa
set_option linter.unusedVariables false
set_option linter.unusedSimpArgs false
open Go Go.RowKit Go.ChangeShapes Go.WideShapes Go.Deep

/-- an act: what it is, its numbers, its row of bools -/
structure Ac where
  what : Int
  i : Int
  b : UInt8
  size : Int
  K : Option Addr
  nk : Nat
  ck : Nat
  kl : List Bool
def acC (x : Ac) : List Value := [.int .i64 x.what, .int .i64 x.i, .int .u8 (x.b.toNat : Int), .int .i64 x.size, .slice x.K x.nk x.ck]
def AC (l : List Ac) : List Value := l.flatMap acC
def acAt (l : List Ac) (k : Nat) : Ac := l.getD k ⟨0, 0, 0, 0, none, 0, 0, []⟩
theorem AC_length (l : List Ac) : (AC l).length = l.length * 5 := by
  unfold AC
  induction l with
  | nil => rfl
  | cons x l ih => rw [List.flatMap_cons, List.length_append, ih]; simp [acC]; omega
theorem AC_get (l : List Ac) (k j : Nat) (hk : k < l.length) (hj : j < 5) : (AC l)[k * 5 + j]? = (acC (acAt l k))[j]? := by
  unfold AC acAt
  induction l generalizing k with
  | nil => simp at hk
  | cons x l ih =>
    have hx : (acC x).length = 5 := rfl
    cases k with
    | zero =>
      simp only [List.flatMap_cons, Nat.zero_mul, Nat.zero_add, List.getD_cons_zero]
      rw [List.getElem?_append_left (by omega)]
    | succ k =>
      simp only [List.flatMap_cons, List.getD_cons_succ]
      rw [List.getElem?_append_right (by omega)]
      have : (k + 1) * 5 + j - (acC x).length = k * 5 + j := by omega
      rw [this]
      exact ih k (by simp at hk; omega)
structure Ac.ok (w : World) (x : Ac) : Prop where
  what : -9223372036854775808 ≤ x.what ∧ x.what ≤ 9223372036854775807
  i : -9223372036854775808 ≤ x.i ∧ x.i ≤ 9223372036854775807
  size : -9223372036854775808 ≤ x.size ∧ x.size ≤ 9223372036854775807
  sl : Sl w 1 (.slice x.K x.nk x.ck) (BO x.kl)
def cellVal (w : World) (a : Addr) : Value := (w.cell? a).getD undef
def partsOf (v : Value) : Option Addr × Nat × Nat := match v with | .slice A n c => (A, n, c) | _ => (none, 0, 0)
theorem u8_bd {z : Int} (h : (Lit.int .u8 z).wf = true) : 0 ≤ z ∧ z < 256 := by
  have := wf_bd h
  simp [IntKind.min, IntKind.max, IntKind.bits, IntKind.signed] at this
  omega
section
variable {H : Type} {enc : TypeId × Value → H} {w : World} {base : Nat} {held : Bool}
theorem open_bo1 {P : Program} {t e : TypeId} {fuel : Nat} {v : Value} {x : DataW H × List MemPlace} (hu : P.underlying t = some (.slice e)) (he : P.underlying e = some .bool) (hE : P.cellsOf e = 1)
    (hf : DataW.trod enc P w base (fun _ => true) held fuel t [v] = some x) : ∃ (A : Option Addr) (n c : Nat) (l : List Bool), v = .slice A n c ∧ Sl w 1 (.slice A n c) (BO l) := by
  rcases open_bools hu he hE hf with ⟨hcs, _⟩ | ⟨x, l, c, B, hcs, _, hl, hm, _, hcell⟩
  · simp at hcs
    subst hcs
    exact ⟨none, 0, 0, [], rfl, sl_nil w 1⟩
  · simp at hcs
    subst hcs
    refine ⟨_, _, _, (List.range l).map B, rfl, sl_cells _ (by simp [BO]) hl hm (fun i hi => ?_)⟩
    rw [hcell i (by omega)]
    simp [BO, hi]
theorem open_acts {P : Program} {t e tb eb : TypeId} {f0 f1 f2 f3 f4 : Field} {fuel : Nat} {cs : List Value} {x : DataW H × List MemPlace} (ht : P.underlying t = some (.slice e)) (he : P.underlying e = some (.struct #[f0, f1, f2, f3, f4]))
    (hone : oneCellFields P #[f0, f1, f2, f3, f4] = true) (hC : P.cellsOf e = 5) (u0 : P.underlying f0.type = some (.int .i64)) (u1 : P.underlying f1.type = some (.int .i64)) (u2 : P.underlying f2.type = some (.int .u8)) (u3 : P.underlying f3.type = some (.int .i64)) (u4 : P.underlying f4.type = some (.slice eb)) (ub : P.underlying eb = some .bool) (hB : P.cellsOf eb = 1)
    (h : DataW.trod enc P w base (fun _ => true) held fuel t cs = some x) :
    ∃ (A : Option Addr) (n c : Nat) (l : List Ac), cs = [.slice A n c] ∧ Sl w 5 (.slice A n c) (AC l) ∧ ∀ y ∈ l, y.ok w := by
  rcases open_slice_fields ht he hone hC h with ⟨rfl, rfl⟩ | ⟨a, len, cap, m, D, Pl, rfl, hb, hl, hm, hmm, rfl, hi⟩
  · exact ⟨none, 0, 0, [], rfl, sl_nil w 5, by simp⟩
  · simp only [if_true] at hmm
    subst hmm
    have hi' : ∀ i, i < m → ∃ y : Ac, y.ok w ∧ ∀ j, j < 5 → w.cell? (a.add (i * 5 + j)) = (acC y)[j]? := by
      intro i him
      obtain ⟨ys, n, _, _, _, hf⟩ := hi i him
      obtain ⟨v0, y0, c0, _, t0⟩ := hf 0 f0 rfl
      obtain ⟨v1, y1, c1, _, t1⟩ := hf 1 f1 rfl
      obtain ⟨v2, y2, c2, _, t2⟩ := hf 2 f2 rfl
      obtain ⟨v3, y3, c3, _, t3⟩ := hf 3 f3 rfl
      obtain ⟨v4, y4, c4, _, t4⟩ := hf 4 f4 rfl
      obtain ⟨z0, e0, _, b0⟩ := DataW.trod_int u0 t0
      obtain ⟨z1, e1, _, b1⟩ := DataW.trod_int u1 t1
      obtain ⟨z2, e2, _, b2⟩ := DataW.trod_int u2 t2
      obtain ⟨z3, e3, _, b3⟩ := DataW.trod_int u3 t3
      obtain ⟨K, nk, ck, kl, rfl, hk⟩ := open_bo1 u4 ub hB t4
      injection e0 with e0; injection e1 with e1; injection e2 with e2; injection e3 with e3
      subst e0; subst e1; subst e2; subst e3
      have hz2 := u8_bd b2
      have h2 : (((UInt8.ofNat z2.toNat).toNat : Nat) : Int) = z2 := by rw [UInt8.toNat_ofNat', Nat.mod_eq_of_lt (by omega)]; omega
      refine ⟨⟨z0, z1, UInt8.ofNat z2.toNat, z3, K, nk, ck, kl⟩, ⟨i64_bd b0, i64_bd b1, i64_bd b3, hk⟩, fun j hj => ?_⟩
      match j, hj with
      | 0, _ => exact c0
      | 1, _ => exact c1
      | 2, _ => refine c2.trans ?_; simp only [acC, h2]; rfl
      | 3, _ => exact c3
      | 4, _ => exact c4
    classical
    let lk : Nat → Ac := fun i => if h : i < m then (hi' i h).choose else ⟨0, 0, 0, 0, none, 0, 0, []⟩
    have hlk : ∀ i, i < m → (lk i).ok w ∧ ∀ j, j < 5 → w.cell? (a.add (i * 5 + j)) = (acC (lk i))[j]? := by
      intro i him
      have e : lk i = (hi' i him).choose := by simp only [lk, him, dif_pos]
      rw [e]
      exact (hi' i him).choose_spec
    refine ⟨some a, len, m, (List.range len).map lk, rfl, ?_, ?_⟩
    · refine ⟨some a, len, m, rfl, by rw [AC_length]; simp, hl, hm, fun hn => ?_⟩
      obtain ⟨b, off, spot⟩ := a
      have c0 := (hlk 0 (by omega)).2 0 (by omega)
      have c0' : w.cell? ((⟨b, off, spot⟩ : Addr).add (0 * 5 + 0)) = some (.int .i64 (lk 0).what) := by rw [c0]; rfl
      have hspot : spot = none := by simpa [Addr.add] using World.cell?_spot c0'
      subst hspot
      have hbl : b < w.heap.size := by
        have := World.block_lt_of_cell? w _ c0'
        rw [addr_add] at this
        exact this
      refine ⟨b, off, rfl, hbl, fun i hi2 => ?_⟩
      have h1 := (hlk (i / 5) (by omega)).2 (i % 5) (by omega)
      rw [addr_add, show i / 5 * 5 + i % 5 = i by omega] at h1
      rw [h1]
      have h2 := AC_get ((List.range len).map lk) (i / 5) (i % 5) (by simp; omega) (by omega)
      rw [show i / 5 * 5 + i % 5 = i by omega] at h2
      rw [h2]
      congr 2
      unfold acAt
      rw [List.getD_eq_getElem?_getD, List.getElem?_map, List.getElem?_range (by omega)]
      rfl
    · intro y hy
      obtain ⟨i, hi2, rfl⟩ := List.mem_map.1 hy
      exact (hlk i (by have := List.mem_range.1 hi2; omega)).1
end
end Go.Proofs.Ytfhlidlmipleaaa
