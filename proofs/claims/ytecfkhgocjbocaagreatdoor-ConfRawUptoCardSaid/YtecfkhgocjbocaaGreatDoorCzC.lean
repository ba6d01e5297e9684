/-
  A slice of structs among the arguments, cell by cell. (open_slice_fields: a lemma that the guide offers to copy.)
  An argument that is a list of Lines (a number and three texts each), as the frame of a row hands it over, its texts bounded by the bulk.
  An argument that is a Line, as the frame of a row hands it over, its texts bounded by the bulk.
  Contract of package conf: what Delete asks of a line; the first line that it takes.
  Contract of package conf: slices.DeleteFunc over lines, in place.
  Contract of package conf: Delete.
  Plain law of layer 5: what a set, a value and a deletion tell of one another.
  The walk of ConfSteps.
-/
import Derived.Test.YtecfkhgocjbocaaGreatDoorBase
import Derived.Deep.Slices
import Derived.Deep.Fields
import Derived.ChangeSame
import Derived.SizedLaws
import Derived.Test.YtecfkhgocjbocaaGreatDoorRows
import Derived.Test.YtecfkhgocjbocaaGreatDoorCf2
import Derived.OpenShut
import Derived.ChangeSlices
import Derived.Test.YtecfkhgocjbocaaGreatDoorCzA
import Derived.Test.YtecfkhgocjbocaaGreatDoorCfM
namespace Go.Proofs.YtecfkhgocjbocaaGreatDoor
set_option linter.unusedVariables false
set_option linter.unusedSimpArgs false
open Go Go.RowKit Go.ChangeShapes Go.WideShapes Go.Deep

section
variable {H : Type} {enc : TypeId × Value → H} {P : Program} {w : World} {base : Nat} {spare : Nat → Bool} {held : Bool}
theorem open_slice_fields {t e : TypeId} {fs : Array Field} {fuel : Nat} {cs : List Value} {x : DataW H × List MemPlace} (ht : P.underlying t = some (.slice e)) (he : P.underlying e = some (.struct fs))
    (hone : oneCellFields P fs = true) (hC : P.cellsOf e = fs.size) (h : DataW.trod enc P w base spare held fuel t cs = some x) :
    (cs = [.slice none 0 0] ∧ x = (.nil, [])) ∨
    ∃ (a : Addr) (len cap m : Nat) (D : Nat → DataW H) (Pl : Nat → List MemPlace), cs = [.slice (some a) len cap] ∧ base ≤ a.block ∧ len ≤ cap ∧ cap ≤ maxLen ∧ m = (if spare a.block then cap else len) ∧
      x = (.slice ((List.range len).map D) ((List.range (m - len)).map fun j => D (len + j)), MemPlace.row a (m * fs.size) ++ (List.range m).flatMap Pl) ∧
      ∀ i, i < m → ∃ (ys : List (DataW H × List MemPlace)) (n : Nat), D i = .agg (ys.map (·.1)) ∧ Pl i = ys.flatMap (·.2) ∧ ys.length = fs.size ∧
        ∀ (j : Nat) (f : Field), fs[j]? = some f → ∃ (v : Value) (y : DataW H × List MemPlace), w.cell? (a.add (i * fs.size + j)) = some v ∧ ys[j]? = some y ∧ DataW.trod enc P w base spare held n f.type [v] = some y := by
  rcases open_slice ht h with h0 | ⟨a, len, cap, m, n, D, Pl, hcs, hb, hl, hm, hmm, hx, hi⟩
  · exact .inl h0
  · refine .inr ⟨a, len, cap, m, D, Pl, hcs, hb, hl, hm, hmm, by rw [hC] at hx; exact hx, fun i him => ?_⟩
    obtain ⟨cs', hc, ht'⟩ := hi i him
    rw [hC] at hc
    obtain ⟨ys, n', hn', hy, hlen, hyl, hf⟩ := DataW.trod_struct he ht'
    obtain ⟨_, hcl, hat⟩ := World.cells?_some hc
    simp only [Prod.mk.injEq] at hy
    refine ⟨ys, n', hy.1, hy.2, hyl, fun j f hj => ?_⟩
    obtain ⟨ho, hk⟩ := hone_of hone j f hj
    have hjl : j < fs.size := (Array.getElem?_eq_some_iff.1 hj).1
    have hcell := hat j hjl
    have hv : cs'[j]? = some (cs'[j]'(by omega)) := List.getElem?_eq_getElem (by omega)
    have h1 := hf j f hj
    rw [ho, hk] at h1
    have hone' : (cs'.drop j).take 1 = [cs'[j]'(by omega)] := by
      rw [List.drop_eq_getElem_cons (by omega)]
      rfl
    rw [hone'] at h1
    have hys : ys[j]? = some (ys[j]'(by omega)) := List.getElem?_eq_getElem (by omega)
    refine ⟨_, _, ?_, hys, h1.trans hys⟩
    rw [← Go.Deep.add_add, hcell, hv]
end

/-- the number in a cell -/
def cellInt (w : World) (a : Addr) : Int := match w.cell? a with | some (.int _ z) => z | _ => 0
theorem wf_bd {k : IntKind} {z : Int} (h : (Lit.int k z).wf = true) : k.min ≤ z ∧ z ≤ k.max := by simpa [Lit.wf] using h
theorem u32_bd {z : Int} (h : (Lit.int .u32 z).wf = true) : 0 ≤ z ∧ z < 4294967296 := by
  have := wf_bd h
  simp [IntKind.min, IntKind.max, IntKind.bits, IntKind.signed] at this
  omega
theorem i64_bd {z : Int} (h : (Lit.int .i64 z).wf = true) : -9223372036854775808 ≤ z ∧ z ≤ 9223372036854775807 := wf_i64_bd h
end Go.Proofs.YtecfkhgocjbocaaGreatDoor
namespace Go.Proofs.YtecfkhgocjbocaaGreatDoor
set_option linter.unusedVariables false
set_option linter.unusedSimpArgs false
open Go Go.RowKit Go.ChangeShapes Go.WideShapes Go.Deep

namespace CF
theorem bulk_pos {H : Type} (d : DataW H) : 1 ≤ Rows.uptoBulk d := by
  cases d with
  | lit l => cases l <;> simp [Rows.uptoBulk]
  | _ => simp [Rows.uptoBulk]
theorem bulk_part {H : Type} {d : DataW H} {l : List (DataW H)} (h : d ∈ l) : Rows.uptoBulk d ≤ Rows.uptoBulkAll l := by
  induction l with
  | nil => cases h
  | cons x r ih =>
    simp only [Rows.uptoBulkAll]
    cases List.mem_cons.1 h with
    | inl e => subst e; omega
    | inr e => have := ih e; omega
theorem bulk_slice {H : Type} (elems spare : List (DataW H)) : Rows.uptoBulkAll elems + 1 ≤ Rows.uptoBulk (.slice elems spare) := by
  simp only [Rows.uptoBulk]
  omega
theorem bulk_agg {H : Type} (elems : List (DataW H)) : Rows.uptoBulkAll elems ≤ Rows.uptoBulk (.agg elems) := by
  simp only [Rows.uptoBulk]
  omega
theorem bulk_string {H : Type} (bytes : List UInt8) : bytes.length ≤ Rows.uptoBulk (DataW.lit (H := H) (.string bytes)) := by
  simp [Rows.uptoBulk]
theorem bulk_small {H : Type} {l : List (DataW H)} (hk : Rows.uptoSmall H l = true) : Rows.uptoBulkAll l ≤ 1048576 := by
  simpa [Rows.uptoSmall] using hk
theorem sl_nilL (w : World) : Sl w 4 (.slice none 0 0) (LNS []) := ⟨none, 0, 0, rfl, rfl, by omega, by decide, fun h => by omega⟩
/-- the text in a cell -/
def cellStr (w : World) (a : Addr) : List UInt8 := match w.cell? a with | some (.string s) => s.data.toList | _ => []
section
variable {H : Type} {enc : TypeId × Value → H} {w : World} {base : Nat} {held : Bool}
theorem open_lines {P : Program} {r : Reach} {b0 : Nat} {t e : TypeId} {f0 f1 f2 f3 : Field} {v : Value} {d : DataW H} {p : List MemPlace} (ht : P.underlying t = some (.slice e)) (he : P.underlying e = some (.struct #[f0, f1, f2, f3]))
    (hone : oneCellFields P #[f0, f1, f2, f3] = true) (hC : P.cellsOf e = 4) (u0 : P.underlying f0.type = some (.int .i64)) (u1 : P.underlying f1.type = some .string) (u2 : P.underlying f2.type = some .string) (u3 : P.underlying f3.type = some .string)
    (hv : Value.okWide P w r b0 t v) (h : DataW.Trod enc P w base (fun _ => true) held t v d p) (hk : Rows.uptoBulk d ≤ 1048576) :
    ∃ (A : Option Addr) (n c : Nat) (L : List Ln), v = .slice A n c ∧ Sl w 4 (.slice A n c) (LNS L) ∧ (∀ l ∈ L, LnOk l) ∧ (∀ l ∈ L, -9223372036854775808 ≤ l.head ∧ l.head ≤ 9223372036854775807) := by
  obtain ⟨a0, n0, c0, rfl⟩ := okWide_slice ht hv
  obtain ⟨fuel, hf⟩ := h
  rcases open_slice_fields ht he hone hC hf with ⟨e0, _⟩ | ⟨a, len, cap, m, D, Pl, e0, hb, hl, hm, hmm, hx, hi⟩
  · simp [Value.cells] at e0
    obtain ⟨rfl, rfl, rfl⟩ := e0
    exact ⟨none, 0, 0, [], rfl, sl_nilL w, by simp, by simp⟩
  · simp [Value.cells] at e0
    obtain ⟨rfl, rfl, rfl⟩ := e0
    simp only [if_true] at hmm
    subst hmm
    have hd : d = .slice ((List.range n0).map D) ((List.range (m - n0)).map fun j => D (n0 + j)) := by
      simp only [Prod.mk.injEq] at hx
      exact hx.1
    have hi' : ∀ i, i < n0 → ∃ (z : Int) (s1 s2 s3 : ByteArray), w.cell? (a.add (i * 4 + 0)) = some (.int .i64 z) ∧ w.cell? (a.add (i * 4 + 1)) = some (.string s1) ∧ w.cell? (a.add (i * 4 + 2)) = some (.string s2) ∧ w.cell? (a.add (i * 4 + 3)) = some (.string s3) ∧
        (-9223372036854775808 ≤ z ∧ z ≤ 9223372036854775807) ∧ s1.data.toList.length ≤ 2000000 ∧ s2.data.toList.length ≤ 2000000 ∧ s3.data.toList.length ≤ 2000000 := by
      intro i him
      obtain ⟨ys, n, hD, _, _, hf⟩ := hi i (by omega)
      obtain ⟨v0, y0, c0, g0, t0⟩ := hf 0 f0 rfl
      obtain ⟨v1, y1, c1, g1, t1⟩ := hf 1 f1 rfl
      obtain ⟨v2, y2, c2, g2, t2⟩ := hf 2 f2 rfl
      obtain ⟨v3, y3, c3, g3, t3⟩ := hf 3 f3 rfl
      obtain ⟨z0, e0, _, b0⟩ := DataW.trod_int u0 t0
      obtain ⟨s1, e1, x1, _⟩ := DataW.trod_string u1 t1
      obtain ⟨s2, e2, x2, _⟩ := DataW.trod_string u2 t2
      obtain ⟨s3, e3, x3, _⟩ := DataW.trod_string u3 t3
      injection e0 with e0; injection e1 with e1; injection e2 with e2; injection e3 with e3
      subst e0; subst e1; subst e2; subst e3
      have hDm : Rows.uptoBulk (D i) ≤ 1048576 := by
        have q1 : D i ∈ (List.range n0).map D := List.mem_map.2 ⟨i, List.mem_range.2 him, rfl⟩
        have q2 := bulk_part q1
        have q3 := bulk_slice ((List.range n0).map D) ((List.range (m - n0)).map fun j => D (n0 + j))
        rw [← hd] at q3
        omega
      have hone : ∀ (j : Nat) (y : DataW H × List MemPlace) (s : ByteArray), ys[j]? = some y → y = (.lit (.string s.data.toList), []) → s.data.toList.length ≤ 2000000 := by
        intro j y s hy hs
        have q1 : y.1 ∈ ys.map (·.1) := List.mem_map.2 ⟨y, List.mem_of_getElem? hy, rfl⟩
        have q2 := bulk_part q1
        have q3 := bulk_agg (ys.map (·.1))
        rw [← hD] at q3
        rw [hs] at q2
        have q4 := bulk_string (H := H) s.data.toList
        have q5 : Rows.uptoBulk (DataW.lit (H := H) (.string s.data.toList)) ≤ 1048576 := by
          have : Rows.uptoBulk (DataW.lit (H := H) (.string s.data.toList)) ≤ Rows.uptoBulkAll (ys.map (·.1)) := q2
          omega
        omega
      exact ⟨z0, s1, s2, s3, c0, c1, c2, c3, i64_bd b0, hone 1 y1 s1 g1 x1, hone 2 y2 s2 g2 x2, hone 3 y3 s3 g3 x3⟩
    let lk : Nat → Ln := fun i => ⟨cellInt w (a.add (i * 4 + 0)), cellStr w (a.add (i * 4 + 1)), cellStr w (a.add (i * 4 + 2)), cellStr w (a.add (i * 4 + 3))⟩
    have hlk : ∀ i, i < n0 → (LnOk (lk i) ∧ (-9223372036854775808 ≤ (lk i).head ∧ (lk i).head ≤ 9223372036854775807)) ∧ ∀ j, j < 4 → w.cell? (a.add (i * 4 + j)) = (lnC (lk i))[j]? := by
      intro i him
      obtain ⟨z, s1, s2, s3, c0, c1, c2, c3, bz, b1, b2, b3⟩ := hi' i him
      have e : lk i = ⟨z, s1.data.toList, s2.data.toList, s3.data.toList⟩ := by simp only [lk, cellInt, cellStr, c0, c1, c2, c3]
      rw [e]
      refine ⟨⟨⟨b1, b2, b3⟩, bz⟩, fun j hj => ?_⟩
      match j, hj with
      | 0, _ => rw [c0]; rfl
      | 1, _ => rw [c1]; rfl
      | 2, _ => rw [c2]; rfl
      | 3, _ => rw [c3]; rfl
    refine ⟨some a, n0, m, (List.range n0).map lk, rfl, ?_, ?_, ?_⟩
    · refine ⟨some a, n0, m, rfl, by rw [LNS_length]; simp, hl, hm, fun hn => ?_⟩
      obtain ⟨b, off, spot⟩ := a
      obtain ⟨z, _, _, _, c0, _⟩ := hi' 0 (by omega)
      have hspot : spot = none := by simpa [Addr.add] using World.cell?_spot c0
      subst hspot
      have hbl : b < w.heap.size := by
        have := World.block_lt_of_cell? w _ c0
        rw [addr_add] at this
        exact this
      refine ⟨b, off, rfl, hbl, fun i hi2 => ?_⟩
      have h1 := (hlk (i / 4) (by omega)).2 (i % 4) (by omega)
      rw [addr_add, show i / 4 * 4 + i % 4 = i by omega] at h1
      rw [h1]
      have h2 := LNS_get ((List.range n0).map lk) (i / 4) (by simp; omega) (i % 4) (by omega)
      rw [show i / 4 * 4 + i % 4 = i by omega] at h2
      rw [h2]
      congr 2
      rw [lnAt_get _ _ (by simp; omega)]
      simp
    · intro y hy
      obtain ⟨i, hi2, rfl⟩ := List.mem_map.1 hy
      exact (hlk i (List.mem_range.1 hi2)).1.1
    · intro y hy
      obtain ⟨i, hi2, rfl⟩ := List.mem_map.1 hy
      exact (hlk i (List.mem_range.1 hi2)).1.2
end
section
variable {H : Type} {enc : TypeId × Value → H} {P : Program} {w : World} {base : Nat} {spare : Nat → Bool} {held : Bool}
theorem open_two {r : Reach} {b0 : Nat} {t e : TypeId} {v : Value} {d : DataW H} {p : List MemPlace} (hu : P.underlying t = some (.array 2 e)) (he : P.underlying e = some (.int .i64)) (hC : P.cellsOf t = 2) (hE : P.cellsOf e = 1)
    (hv : Value.okWide P w r b0 t v) (h : DataW.Trod enc P w base spare held t v d p) : ∃ x y : Int, v = .agg #[.int .i64 x, .int .i64 y] := by
  simp only [Value.okWide, hu] at hv
  obtain ⟨cs, rfl, h2, _⟩ := hv
  rw [hC] at h2
  obtain ⟨a, b, rfl⟩ : ∃ a b, cs = #[a, b] := by
    obtain ⟨l⟩ := cs
    match l, h2 with
    | [a, b], _ => exact ⟨a, b, rfl⟩
  obtain ⟨fuel, hf⟩ := h
  cases fuel with
  | zero => simp [DataW.trod] at hf
  | succ m =>
    rw [DataW.trod_step] at hf
    unfold DataW.trodStep at hf
    simp only [hu, Value.cells] at hf
    rw [if_pos (by rw [hC]; rfl)] at hf
    simp only [Option.map_eq_some_iff, hE] at hf
    obtain ⟨ys, hy, _⟩ := hf
    rw [show List.range 2 = [0, 1] from rfl, List.mapM_cons] at hy
    simp only [bind, Option.bind_eq_some_iff, pure, Option.some.injEq] at hy
    obtain ⟨y, hy1, ys', hys, rfl⟩ := hy
    rw [List.mapM_cons] at hys
    simp only [bind, Option.bind_eq_some_iff, pure, Option.some.injEq] at hys
    obtain ⟨y', hy2, _⟩ := hys
    obtain ⟨x, ex, _, _⟩ := DataW.trod_int he hy1
    obtain ⟨z, ez, _, _⟩ := DataW.trod_int he hy2
    simp at ex ez
    subst ex; subst ez
    exact ⟨x, z, rfl⟩
end
end CF
end Go.Proofs.YtecfkhgocjbocaaGreatDoor
namespace Go.Proofs.YtecfkhgocjbocaaGreatDoor
set_option linter.unusedVariables false
set_option linter.unusedSimpArgs false
open Go Go.RowKit Go.ChangeShapes Go.WideShapes Go.Deep

namespace CF
section
variable {H : Type} {enc : TypeId × Value → H} {w : World} {base : Nat} {held : Bool} {sp : Nat → Bool}
theorem open_line {P : Program} {r : Reach} {b0 : Nat} {t : TypeId} {f0 f1 f2 f3 : Field} {v : Value} {d : DataW H} {p : List MemPlace} (hs : P.underlying t = some (.struct #[f0, f1, f2, f3]))
    (hone : oneCellFields P #[f0, f1, f2, f3] = true) (hC : P.cellsOf t = 4) (u0 : P.underlying f0.type = some (.int .i64)) (u1 : P.underlying f1.type = some .string) (u2 : P.underlying f2.type = some .string) (u3 : P.underlying f3.type = some .string)
    (hv : Value.okWide P w r b0 t v) (h : DataW.Trod enc P w base sp held t v d p) (hk : Rows.uptoBulk d ≤ 1048576) :
    ∃ l : Ln, v = .agg (lnV l) ∧ LnOk l ∧ (-9223372036854775808 ≤ l.head ∧ l.head ≤ 9223372036854775807) := by
  obtain ⟨cs, rfl, hsz⟩ := okWide_struct hs hv
  rw [hC] at hsz
  obtain ⟨c0, c1, c2, c3, rfl⟩ : ∃ a b c d, cs = #[a, b, c, d] := by
    obtain ⟨l⟩ := cs
    match l, hsz with
    | [a, b, c, d], _ => exact ⟨a, b, c, d, rfl⟩
  obtain ⟨fuel, hf⟩ := h
  obtain ⟨xs, n, _, hx, _, hlen, hg⟩ := DataW.trod_struct hs hf
  obtain ⟨x0, x1, x2, x3, rfl⟩ : ∃ a b c d, xs = [a, b, c, d] := by
    match xs, (show xs.length = 4 by simpa using hlen) with
    | [a, b, c, d], _ => exact ⟨a, b, c, d, rfl⟩
  obtain ⟨o0, q0⟩ := hone_of hone 0 f0 rfl
  obtain ⟨o1, q1⟩ := hone_of hone 1 f1 rfl
  obtain ⟨o2, q2⟩ := hone_of hone 2 f2 rfl
  obtain ⟨o3, q3⟩ := hone_of hone 3 f3 rfl
  have g0 := hg 0 f0 rfl
  have g1 := hg 1 f1 rfl
  have g2 := hg 2 f2 rfl
  have g3 := hg 3 f3 rfl
  simp [Value.cells, o0, q0] at g0
  simp [Value.cells, o1, q1] at g1
  simp [Value.cells, o2, q2] at g2
  simp [Value.cells, o3, q3] at g3
  obtain ⟨z0, e0, _, b0⟩ := DataW.trod_int u0 g0
  obtain ⟨s1, e1, y1, _⟩ := DataW.trod_string u1 g1
  obtain ⟨s2, e2, y2, _⟩ := DataW.trod_string u2 g2
  obtain ⟨s3, e3, y3, _⟩ := DataW.trod_string u3 g3
  injection e0 with e0; injection e1 with e1; injection e2 with e2; injection e3 with e3
  subst e0; subst e1; subst e2; subst e3
  have hd : d = .agg [x0.1, x1.1, x2.1, x3.1] := by simp only [Prod.mk.injEq] at hx; exact hx.1
  have hb := bulk_agg [x0.1, x1.1, x2.1, x3.1]
  rw [← hd] at hb
  have hall : ∀ (y : DataW H × List MemPlace) (s : ByteArray), y.1 ∈ [x0.1, x1.1, x2.1, x3.1] → y = (.lit (.string s.data.toList), []) → s.data.toList.length ≤ 2000000 := by
    intro y s hy hs
    have q2 := bulk_part hy
    have q4 := bulk_string (H := H) s.data.toList
    rw [hs] at q2
    have q5 : Rows.uptoBulk (DataW.lit (H := H) (.string s.data.toList)) ≤ Rows.uptoBulkAll [x0.1, x1.1, x2.1, x3.1] := q2
    omega
  exact ⟨⟨z0, s1.data.toList, s2.data.toList, s3.data.toList⟩, rfl, ⟨hall x1 s1 (by simp) y1, hall x2 s2 (by simp) y2, hall x3 s3 (by simp) y3⟩, i64_bd b0⟩
end
end CF
end Go.Proofs.YtecfkhgocjbocaaGreatDoor
namespace Go.Proofs.YtecfkhgocjbocaaGreatDoor
set_option linter.unusedVariables false
set_option linter.unusedSimpArgs false
open Go Go.RowKit

namespace CF
/-- what is sought, in its three boxes -/
def Sought (w : World) (g1 g2 g3 : Nat) (h : Int) (nm lf : List UInt8) : Prop :=
  w.heap[g1]? = some (.cells #[.int .i64 h] 3 (0, 0)) ∧ w.heap[g2]? = some (.cells #[.string (S8 nm)] 9 (0, 0)) ∧ w.heap[g3]? = some (.cells #[.string (S8 lf)] 9 (0, 0))
theorem Sought.below {w w' : World} {g1 g2 g3 : Nat} {h : Int} {nm lf : List UInt8} (hs : Sought w g1 g2 g3 h nm lf) (hb : Below w.heap.size w w') : Sought w' g1 g2 g3 h nm lf :=
  ⟨blk_below hs.1 hb (blk_lt hs.1), blk_below hs.2.1 hb (blk_lt hs.2.1), blk_below hs.2.2 hb (blk_lt hs.2.2)⟩
theorem Sought.lt {w : World} {g1 g2 g3 : Nat} {h : Int} {nm lf : List UInt8} (hs : Sought w g1 g2 g3 h nm lf) : g1 < w.heap.size ∧ g2 < w.heap.size ∧ g3 < w.heap.size := ⟨blk_lt hs.1, blk_lt hs.2.1, blk_lt hs.2.2⟩
theorem Sought.low {w w' : World} {B g1 g2 g3 : Nat} {h : Int} {nm lf : List UInt8} (hs : Sought w g1 g2 g3 h nm lf) (hb : Below B w w') (h1 : g1 < B ∧ g2 < B ∧ g3 < B) : Sought w' g1 g2 g3 h nm lf :=
  ⟨blk_below hs.1 hb h1.1, blk_below hs.2.1 hb h1.2.1, blk_below hs.2.2 hb h1.2.2⟩
abbrev FnD (g1 g2 g3 : Nat) : Value := .func (.func 59) #[] #[.pointer (some ⟨g1, 0, none⟩), .pointer (some ⟨g2, 0, none⟩), .pointer (some ⟨g3, 0, none⟩)]
theorem tl_eq (a b : List UInt8) : ((S8 a).toList == (S8 b).toList) = decide (a = b) := by rw [Bool.eq_iff_iff, s8_inj, decide_eq_true_iff]
theorem tl_emp (a : List UInt8) : (S8 a).toList.isEmpty = decide (a = []) := by
  rw [show (S8 a).toList = a from Lib.toList_data _]
  cases a <;> simp
theorem hits_and (h : Int) (nm lf : List UInt8) (x : Ln) : hits h nm lf x = (decide (x.head = h) && (decide (x.name = nm) && (decide (lf = []) || decide (x.leaf = lf)))) := rfl
set_option maxRecDepth 100000 in
set_option maxHeartbeats 1600000 in
theorem hit_any (x : Ln) (h : Int) (nm lf : List UInt8) (g1 g2 g3 : Nat) (w : World) (hs : Sought w g1 g2 g3 h nm lf) :
    Calls Tryz.prog 59 #[.agg (lnV x), .pointer (some ⟨g1, 0, none⟩), .pointer (some ⟨g2, 0, none⟩), .pointer (some ⟨g3, 0, none⟩)] w fun e w' => e = .returned (.bool (hits h nm lf x)) ∧ Below w.heap.size w w' := by
  obtain ⟨hb, hg, hl⟩ := box1 w (.cells (lnV x) 29)
  have hs1 := hs.below hb
  have HH := hid (hits_and h nm lf x)
  have e2 := tl_eq x.name nm
  have e3 := tl_emp lf
  have e4 := tl_eq x.leaf lf
  obtain ⟨head, name, leaf, value⟩ := x
  simp only at HH e2 e4
  go_enter Tryz.func59, Tryz.ntmps59
  go_upto_region 1 with fail
  generalize w.alloc (.cells (lnV ⟨head, name, leaf, value⟩) 29) = w1 at *
  have q0 : w1.cell? ⟨w.heap.size, 0, none⟩ = some (.int .i64 head) := by rw [blkCell hg 0]; rfl
  have q1 : w1.cell? ⟨w.heap.size, 1, none⟩ = some (.string (S8 name)) := by rw [blkCell hg 1]; rfl
  have q2 : w1.cell? ⟨w.heap.size, 2, none⟩ = some (.string (S8 leaf)) := by rw [blkCell hg 2]; rfl
  have p1 : w1.cell? ⟨g1, 0, none⟩ = some (.int .i64 h) := by rw [blkCell hs1.1 0]; rfl
  have p2 : w1.cell? ⟨g2, 0, none⟩ = some (.string (S8 nm)) := by rw [blkCell hs1.2.1 0]; rfl
  have p3 : w1.cell? ⟨g3, 0, none⟩ = some (.string (S8 lf)) := by rw [blkCell hs1.2.2 0]; rfl
  clear hg hs hs1 hl
  generalize decide (name = nm) = b2 at *
  generalize decide (lf = []) = b3 at *
  generalize decide (leaf = lf) = b4 at *
  generalize S8 name = t1 at *
  generalize S8 leaf = t2 at *
  generalize S8 nm = t3 at *
  generalize S8 lf = t4 at *
  by_cases e1 : head = h
  · subst e1
    have HR : Hid (hits head nm lf ⟨head, name, leaf, value⟩ = (b2 && (b3 || b4))) := by show _ = _; rw [HH.out]; simp
    clear HH
    cases b2 <;> cases b3 <;> cases b4
    all_goals
      go_wp2_with fail
      go_ret
      exact ⟨by rw [HR.out]; rfl, hb⟩
  · have HR : Hid (hits h nm lf ⟨head, name, leaf, value⟩ = false) := by show _ = _; rw [HH.out, decide_eq_false e1]; rfl
    clear HH
    have e1' : ((head : Int) == h) = false := by simpa using e1
    go_wp2_with fail
    go_ret
    exact ⟨by rw [HR.out]; rfl, hb⟩
/-- the first line that is taken, or none -/
def FirstHit (C : List Ln) (h : Int) (nm lf : List UInt8) (n : Nat) (r : Int) : Prop :=
  (∃ i : Nat, i < n ∧ r = (i : Int) ∧ (∀ j < i, hits h nm lf (lnAt C j) = false) ∧ hits h nm lf (lnAt C i) = true) ∨ (r = -1 ∧ ∀ j < n, hits h nm lf (lnAt C j) = false)
set_option maxRecDepth 100000 in
set_option maxHeartbeats 1600000 in
theorem index_any (C : List Ln) (h : Int) (nm lf : List UInt8) (g1 g2 g3 : Nat) (A : Option Addr) (n c : Nat) (w : World) (hsl : Sl w 4 (.slice A n c) (LNS C)) (hs : Sought w g1 g2 g3 h nm lf) :
    Calls Tryz.prog 90 #[.slice A n c, FnD g1 g2 g3] w fun e w' => (∃ r, e = .returned (.int .i64 r) ∧ FirstHit C h nm lf n r) ∧ Below w.heap.size w w' := by
  obtain ⟨hl1, hl2, hl3⟩ := sl_lns hsl
  have HSL := hid hsl
  have HSO := hid hs
  clear hsl hs
  go_enter Tryz.func90, Tryz.ntmps90
  go_wp2_with fail
  go_loopw [8] (fun i wr => ∃ k : Nat, k ≤ n ∧ i = .int .i64 k ∧ Hid (∀ j < k, hits h nm lf (lnAt C j) = false) ∧ Below w.heap.size w wr) (fun i _ => n - (intOf i).toNat)
  case atStart => exact ⟨0, Nat.zero_le _, rfl, hid (by simp), Below.refl _ _⟩
  case round =>
    obtain ⟨k, hk, rfl, HF, hbr⟩ := hrel
    by_cases hlt : k < n
    · obtain ⟨b, off, rfl, hbl, hcl⟩ := sl_ln (HSL.out.below hbr) hlt
      have HIT := hid (hit_any (lnAt C k) h nm lf g1 g2 g3 wr (HSO.out.below hbr))
      have HF1 : Hid (hits h nm lf (lnAt C k) = false → ∀ j < k + 1, hits h nm lf (lnAt C j) = false) := fun hh j hj => by
        by_cases e : j = k
        · rw [e]; exact hh
        · exact HF.out j (by omega)
      have HF2 : Hid (hits h nm lf (lnAt C k) = true → FirstHit C h nm lf n (k : Int)) := fun hh => .inl ⟨k, hlt, rfl, HF.out, hh⟩
      clear HF HSO
      generalize hits h nm lf (lnAt C k) = bh at *
      generalize lnAt C k = l at *
      go_wp2_with (refine wpList_load_mid rfl 29 (.tmp 14) rfl b (off + k * 4) rfl (lnC l) _ hcl Tryz.underlying29 rfl i4 ?_)
      refine HIT.out.mono ?_
      rintro e w1 ⟨rfl, hb1⟩
      have hbw := hbr.trans (hb1.mono hbr.size)
      clear hcl HIT hb1
      cases bh with
      | true =>
        have HP := hid (HF2.out rfl)
        clear HF1 HF2
        go_wp2_with fail
        go_ret
        exact ⟨⟨_, rfl, HP.out⟩, hbw⟩
      | false =>
        have HP := hid (HF1.out rfl)
        clear HF1 HF2
        go_wp2_with fail
        go_light
        exact ⟨⟨k + 1, by omega, by go_num, HP, hbw⟩, by simp [intOf]; omega⟩
    · obtain rfl : k = n := by omega
      have HP : Hid (FirstHit C h nm lf k (-1)) := .inr ⟨rfl, HF.out⟩
      clear HF
      go_wp2_with fail
      go_ret
      exact ⟨⟨_, rfl, HP.out⟩, hbr⟩
end CF
end Go.Proofs.YtecfkhgocjbocaaGreatDoor
namespace Go.Proofs.YtecfkhgocjbocaaGreatDoor
set_option linter.unusedVariables false
set_option linter.unusedSimpArgs false
open Go Go.RowKit

namespace CF
theorem wp_clear_runI {P : Program} (w : World) {o : Oper} {a : Act} {K : Act → World → Prop} {Q : Exit → Act → World → Prop} (s : Operand) (t : TypeId)
    (ho : o.op = .call { callee := .builtin .clear, args := #[s], argTypes := #[t] }) (v : Value) (hs : a.eval s = v) {v' : Value} {w' : World}
    (hr : (Builtin.clear_ #[t] o.type #[v]).run P w = .ok v' w') (h : K (a.put o.dst v') w') : o.wp P a w K Q := by
  unfold Oper.wp execOp
  simp only [ho, resolve, invoke, builtin, Sem.run_bind, Sem.run_pure, Result.andThen_ok, List.map_toArray, List.map_cons, List.map_nil, hs, hr]
  exact h
theorem wpList_clear_runI {P : Program} (w : World) {ops : Array Oper} {rest : List Oper} {o : Oper} {a : Act} {Q : Exit → Act → World → Prop} (hgd : o.guard = none) (s : Operand) (t : TypeId)
    (ho : o.op = .call { callee := .builtin .clear, args := #[s], argTypes := #[t] }) (v : Value) (hs : a.eval s = v) {v' : Value} {w' : World}
    (hr : (Builtin.clear_ #[t] o.type #[v]).run P w = .ok v' w') (h : wpList P ops Q rest (a.put o.dst v') w') : wpList P ops Q (o :: rest) a w :=
  wpList_plain hgd fun _ hK => wp_clear_runI w s t ho v hs hr (hK _ _ h)
theorem zero_ln (w : World) : (zeroValue 29).run Tryz.prog w = .ok (.agg (lnV ln0)) w := by
  obtain ⟨i0, hi, hz0, _, _⟩ := info_parts info_ln
  unfold zeroValue typeInfo
  simp [hi, hz0]
/-- 'clear' of the rows behind the first m -/
theorem run_clear_rows (w : World) (ty : TypeId) (b o n c : Nat) (hn : 0 < n) (hc : ∀ j, j < n * 4 → (w.cell? ⟨b, o + j, none⟩).isSome = true) (hf : ∀ j, w.frozen? ⟨b, j, none⟩ = false) :
    ∃ zs, (Builtin.clear_ #[23] ty #[.slice (some ⟨b, o, none⟩) n c]).run Tryz.prog w = .ok (.tuple #[]) (w.setCells b o zs) := by
  refine ⟨(Builtin.zeroCells (Value.agg (lnV ln0)).cells n).toList, ?_⟩
  have hl : (Builtin.zeroCells (Value.agg (lnV ln0)).cells n).toList.length = n * 4 := by rw [Array.length_toList, zc_size]
  have h1 : ∀ v ∈ (Builtin.zeroCells (Value.agg (lnV ln0)).cells n).toList, v.oneCell' = true := by
    intro v hv
    simp [Builtin.zeroCells] at hv
    obtain ⟨i, hi, rfl⟩ := hv
    have h4 : i % 4 < 4 := by omega
    have hs : (Value.agg (lnV ln0)).cells.size = 4 := rfl
    have e : ∀ k, k < 4 → ((Value.agg (lnV ln0)).cells[k]!).oneCell' = true := by
      intro k hk
      match k, hk with
      | 0, _ => rfl
      | 1, _ => rfl
      | 2, _ => rfl
      | 3, _ => rfl
    exact e _ h4
  have hst := run_storeCells_cells (P := Tryz.prog) b o _ 0 w (fun j hj => by rw [hl] at hj; simpa using hc j hj) (fun j hj => hf _) h1
  simp only [Nat.add_zero] at hst
  obtain ⟨m, rfl⟩ : ∃ m, n = m + 1 := ⟨n - 1, by omega⟩
  have hz := zero_ln
  clear h1 hl
  generalize Value.agg (lnV ln0) = Z at *
  simp only [Builtin.clear_]
  simp [run_underlying Tryz.underlying23, hz, hst]
theorem own_setrow {w : World} {B g n c i : Nat} {C : List Ln} (l : Ln) (hown : w.ownsRow B 29 4 (.slice (some ⟨g, 0, none⟩) n c) n (LNS C)) (hC : C.length = n) (hi : i < n) :
    (w.setCells g (i * 4) (lnC l)).ownsRow B 29 4 (.slice (some ⟨g, 0, none⟩) n c) n (LNS (C.set i l)) := by
  have h1 := (hown.stored (i * 4) (.int .i64 l.head)).1
  have h2 := (h1.stored (i * 4 + 1) (.string (S8 l.name))).1
  have h3 := (h2.stored (i * 4 + 1 + 1) (.string (S8 l.leaf))).1
  have h4 := (h3.stored (i * 4 + 1 + 1 + 1) (.string (S8 l.value))).1
  have e : ((((LNS C).set (i * 4) (.int .i64 l.head)).set (i * 4 + 1) (.string (S8 l.name))).set (i * 4 + 1 + 1) (.string (S8 l.leaf))).set (i * 4 + 1 + 1 + 1) (.string (S8 l.value)) = LNS (C.set i l) := by
    have hxl : (LNS C).length = n * 4 := by rw [LNS_length, hC]
    apply List.ext_getElem?
    intro j
    by_cases hj : j < n * 4
    · have e1 : (LNS (C.set i l))[j]? = (lnC (lnAt (C.set i l) (j / 4)))[j % 4]? := by
        have := LNS_get (C.set i l) (j / 4) (by rw [List.length_set]; omega) (j % 4) (by omega)
        rwa [show j / 4 * 4 + j % 4 = j by omega] at this
      have e2 : (LNS C)[j]? = (lnC (lnAt C (j / 4)))[j % 4]? := by
        have := LNS_get C (j / 4) (by omega) (j % 4) (by omega)
        rwa [show j / 4 * 4 + j % 4 = j by omega] at this
      rw [e1]
      simp only [List.getElem?_set, List.length_set, hxl]
      by_cases hq : j / 4 = i
      · have e4 : lnAt (C.set i l) (j / 4) = l := by rw [hq, lnAt_get _ _ (by rw [List.length_set]; omega)]; simp
        rw [e4]
        have hm : j % 4 = 0 ∨ j % 4 = 1 ∨ j % 4 = 2 ∨ j % 4 = 3 := by omega
        rcases hm with hm | hm | hm | hm
        · obtain rfl : j = i * 4 := by omega
          rw [hm, if_neg (by omega), if_neg (by omega), if_neg (by omega), if_pos rfl, if_pos hj]; rfl
        · obtain rfl : j = i * 4 + 1 := by omega
          rw [hm, if_neg (by omega), if_neg (by omega), if_pos rfl, if_pos hj]; rfl
        · obtain rfl : j = i * 4 + 1 + 1 := by omega
          rw [hm, if_neg (by omega), if_pos rfl, if_pos hj]; rfl
        · obtain rfl : j = i * 4 + 1 + 1 + 1 := by omega
          rw [hm, if_pos rfl, if_pos hj]; rfl
      · have e4 : lnAt (C.set i l) (j / 4) = lnAt C (j / 4) := by
          rw [lnAt_get _ _ (by rw [List.length_set]; omega), lnAt_get _ _ (by omega), List.getElem_set_ne (fun h => hq h.symm)]
        rw [if_neg (by omega), if_neg (by omega), if_neg (by omega), if_neg (by omega), e2, e4]
    · rw [List.getElem?_eq_none (by simp only [List.length_set]; omega), List.getElem?_eq_none (by rw [LNS_length, List.length_set]; omega)]
  rw [e] at h4
  exact h4
theorem delL_take (C : List Ln) (h : Int) (nm lf : List UInt8) (k : Nat) (hk : k < C.length) : delL (C.take (k + 1)) h nm lf = delL (C.take k) h nm lf ++ (if hits h nm lf (lnAt C k) = true then [] else [lnAt C k]) := by
  unfold delL
  rw [List.take_succ_eq_append_getElem hk, List.filter_append, lnAt_get C k hk]
  congr 1
  by_cases hh : hits h nm lf C[k] = true
  · rw [if_pos hh]; simp [hh]
  · rw [if_neg hh]; simp [hh]
theorem delL_none (C : List Ln) (h : Int) (nm lf : List UInt8) (k : Nat) (hk : k ≤ C.length) (hh : ∀ j < k, hits h nm lf (lnAt C j) = false) : delL (C.take k) h nm lf = C.take k := by
  unfold delL
  rw [List.filter_eq_self]
  intro x hx
  obtain ⟨j, hj, rfl⟩ := List.getElem_of_mem hx
  rw [List.length_take] at hj
  have := hh j (by omega)
  rw [lnAt_get C j (by omega)] at this
  rw [List.getElem_take, this]
  rfl
theorem set_take (E : List Ln) (m : Nat) (l : Ln) (hm : m < E.length) : (E.set m l).take (m + 1) = E.take m ++ [l] := by
  rw [List.take_succ_eq_append_getElem (by rw [List.length_set]; exact hm), List.getElem_set_self, List.take_set_of_le (Nat.le_refl _)]
theorem set_drop (E : List Ln) (m k : Nat) (l : Ln) (hm : m < k) : (E.set m l).drop k = E.drop k := List.drop_set_of_lt hm
theorem drop_more {E C : List Ln} {k : Nat} (h : E.drop k = C.drop k) : E.drop (k + 1) = C.drop (k + 1) := by
  rw [← List.drop_drop, ← List.drop_drop, h]
theorem drop_at {E C : List Ln} {k : Nat} (h : E.drop k = C.drop k) (hE : k < E.length) (hC : k < C.length) : lnAt E k = lnAt C k := by
  rw [lnAt_get E k hE, lnAt_get C k hC]
  have h1 := List.drop_eq_getElem_cons hE
  have h2 := List.drop_eq_getElem_cons hC
  rw [h, h2] at h1
  injection h1 with h3 _
  exact h3.symm
/-- the first m rows of what is one's own -/
theorem sl_first {w w' : World} {B g n c m : Nat} {E D : List Ln} (zs : List Value) (hown : w.ownsRow B 29 4 (.slice (some ⟨g, 0, none⟩) n c) n (LNS E)) (hm : m ≤ n) (hD : E.take m = D) (hE : E.length = n) (hw : w' = w.setCells g (m * 4) zs) :
    Sl w' 4 (.slice (some ⟨g, 0, none⟩) m c) (LNS D) := by
  obtain ⟨hBg, hgl, hnc, hcm, hxl, hsome, hfz, hcell, hshape⟩ := own_row hown
  have hDl : D.length = m := by rw [← hD, List.length_take]; omega
  subst hw
  refine ⟨_, _, _, rfl, by rw [LNS_length]; omega, by omega, hcm, fun _ => ⟨g, 0, rfl, by rw [setCells_size]; exact hgl, fun j hj => ?_⟩⟩
  rw [Nat.zero_add, World.cell?_setCells_out g zs (m * 4) w ⟨g, j, none⟩ (fun _ _ => by show j < _ ∨ _ ≤ j; omega), hcell j (by omega)]
  have e1 := LNS_get D (j / 4) (by omega) (j % 4) (by omega)
  have e2 := LNS_get E (j / 4) (by omega) (j % 4) (by omega)
  rw [show j / 4 * 4 + j % 4 = j by omega] at e1 e2
  rw [e1, e2]
  have : lnAt E (j / 4) = lnAt D (j / 4) := by
    rw [lnAt_get E _ (by omega), lnAt_get D _ (by omega)]
    simp only [← hD, List.getElem_take]
  rw [this]
set_option maxRecDepth 100000 in
set_option maxHeartbeats 3200000 in
theorem delFunc_any (C : List Ln) (h : Int) (nm lf : List UInt8) (g1 g2 g3 B : Nat) (A : Option Addr) (n c : Nat) (w : World) (hown : w.ownsRow B 29 4 (.slice A n c) n (LNS C)) (hs : Sought w g1 g2 g3 h nm lf)
    (hg : g1 < B ∧ g2 < B ∧ g3 < B) (hB : B ≤ w.heap.size) (hn : n ≤ 1000) :
    Calls Tryz.prog 58 #[.slice A n c, FnD g1 g2 g3] w fun e w' => (∃ A' c', e = .returned (.slice A' (delL C h nm lf).length c') ∧ Sl w' 4 (.slice A' (delL C h nm lf).length c') (LNS (delL C h nm lf))) ∧ Below B w w' := by
  have hl1 := (sl_lns (own_sl hown)).1
  have HIX := hid (index_any C h nm lf g1 g2 g3 A n c w (own_sl hown) hs)
  have HG := hid hg
  go_enter Tryz.func58, Tryz.ntmps58
  go_wp2_with fail
  refine HIX.out.mono ?_
  rintro e w1 ⟨⟨r, rfl, hr⟩, hb1⟩
  have hown1 := own_below hown hb1
  have hs1 := hs.below hb1
  have hbw1 : Below B w w1 := hb1.mono hB
  clear HIX hown hs hb1 hg
  rcases hr with ⟨i, hi, rfl, hno, hhit⟩ | ⟨rfl, hno⟩
  · obtain ⟨g, rfl, hgB, hgl⟩ := own_some hown1 (by omega)
    obtain ⟨_, hc1, hc2⟩ := sl_lns (own_sl hown1)
    have hi1 : (((i : Int)) == -1) = false := by simp
    have HT : Hid (∀ k < n, delL (C.take (k + 1)) h nm lf = delL (C.take k) h nm lf ++ (if hits h nm lf (lnAt C k) = true then [] else [lnAt C k])) := fun k hk => delL_take C h nm lf k (by omega)
    have HD0 : Hid (delL (C.take (i + 1)) h nm lf = C.take i) := by
      show _ = _
      rw [HT.out i hi, if_pos hhit, List.append_nil]
      exact delL_none C h nm lf i (by omega) hno
    have HDn : Hid (delL (C.take n) h nm lf = delL C h nm lf) := by show _ = _; rw [List.take_of_length_le (by omega)]
    have HC0 : Hid ((C.take i).length = i) := by show _ = _; rw [List.length_take]; omega
    have HCL := hid hl1
    have hB1 : B ≤ w1.heap.size := Nat.le_trans hB hbw1.size
    clear hno hhit hl1
    go_wp2_with fail
    go_loopw [5, 6] (fun v u wr => ∃ (m k : Nat) (E : List Ln), k ≤ n ∧ m < k ∧ v = .int .i64 m ∧ u = .int .i64 k ∧ Hid (m = (delL (C.take k) h nm lf).length) ∧ Hid (E.take m = delL (C.take k) h nm lf) ∧ Hid (E.drop k = C.drop k) ∧ Hid (E.length = n) ∧
      wr.ownsRow B 29 4 (.slice (some ⟨g, 0, none⟩) n c) n (LNS E) ∧ Sought wr g1 g2 g3 h nm lf ∧ Below B w wr) (fun _ u _ => n - (intOf u).toNat)
    case atStart => exact ⟨i, i + 1, C, by omega, by omega, rfl, by go_num, by show _ = _; rw [HD0.out, HC0.out], by show _ = _; rw [HD0.out], rfl, HCL.out, hown1, hs1, hbw1⟩
    case round =>
      clear hown1 hs1 hbw1 HD0 HC0 hi1
      obtain ⟨m, k, E, hk, hmk, rfl, rfl, HM, HE1, HE2, HEL, ho, hsr, hbr⟩ := hrel
      have hBr : B ≤ wr.heap.size := Nat.le_trans hB hbr.size
      by_cases hlt : k < n
      · obtain ⟨b, off, hbo, hbl, hcl⟩ := sl_ln (own_sl ho) hlt
        injection hbo with hbo
        injection hbo with hb0 ho0 _
        subst hb0
        subst ho0
        have HAT : Hid (lnAt E k = lnAt C k) := drop_at HE2.out (by have := HEL.out; omega) (by have := HCL.out; omega)
        rw [HAT.out, Nat.zero_add] at hcl
        have HT1 := hid (HT.out k hlt)
        obtain ⟨hb2, hg2, hl2⟩ := box1 wr (.cells (lnV (lnAt C k)) 29)
        have ho2 := own_below ho hb2
        have hs2 := hsr.below hb2
        have hbw2 := hbr.trans (hb2.mono hBr)
        have HIT : Hid (∀ w', Sought w' g1 g2 g3 h nm lf → Calls Tryz.prog 59 #[.agg (lnV (lnAt C k)), .pointer (some ⟨g1, 0, none⟩), .pointer (some ⟨g2, 0, none⟩), .pointer (some ⟨g3, 0, none⟩)] w' fun e w'' => e = .returned (.bool (hits h nm lf (lnAt C k))) ∧ Below w'.heap.size w' w'') := fun w' hs' => hit_any (lnAt C k) h nm lf g1 g2 g3 w' hs'
        clear ho hsr HT HDn HCL
        generalize hits h nm lf (lnAt C k) = bh at *
        generalize hlk : lnAt C k = l at *
        have HLK := hid hlk
        clear hlk
        go_upto_region 8 with (first | refine wpList_load_mid rfl 29 (.tmp 24) rfl g (k * 4) rfl (lnC l) _ hcl Tryz.underlying29 rfl i4 ?_ | refine wpList_store_last rfl 29 (.tmp 7) (.tmp 25) rfl (lnV l) rfl rfl i4 rfl (lnV_one _) ?_)
        have hgL : ∃ gL, gL = wr.heap.size := ⟨_, rfl⟩
        obtain ⟨gL, hgL⟩ := hgL
        rw [← hgL] at hg2 ⊢
        generalize wr.alloc (.cells (lnV l) 29) = w2 at *
        have hB2 : B ≤ w2.heap.size := Nat.le_trans hB hbw2.size
        clear hb2 hl2 hcl hbr hbl hgL hBr
        go_wp2_with (refine wpList_load_row rfl 29 (.tmp 7) rfl gL rfl 29 (lnV l) (0, 0) _ hg2 Tryz.underlying29 rfl i4 ?_)
        refine (HIT.out w2 hs2).mono ?_
        rintro e w3 ⟨rfl, hb3⟩
        have ho3 := own_below ho2 hb3
        have hs3 := hs2.below hb3
        have hg3 := blk_below hg2 hb3 (blk_lt hg2)
        have hbw3 := hbw2.trans (hb3.mono hB2)
        clear HIT ho2 hs2 hg2 hbw2 hb3
        cases bh with
        | true =>
          have HTT : Hid (delL (C.take (k + 1)) h nm lf = delL (C.take k) h nm lf) := by show _ = _; rw [HT1.out]; simp
          clear HT1
          go_wp2_with fail
          go_light
          exact ⟨⟨m, k + 1, E, by omega, by omega, rfl, by go_num, by show _ = _; rw [HTT.out]; exact HM.out, by show _ = _; rw [HTT.out]; exact HE1.out, drop_more HE2.out, HEL, ho3, hs3, hbw3⟩, by simp [intOf]; omega⟩
        | false =>
          have HTT : Hid (delL (C.take (k + 1)) h nm lf = delL (C.take k) h nm lf ++ [l]) := by show _ = _; rw [HT1.out]; simp
          clear HT1
          have hth : w3.there g (m * 4) (lnV l).size := fun j hj => by
            obtain ⟨_, _, _, _, _, hsome, hfz, _⟩ := own_row ho3
            have hj4 : j < 4 := hj
            exact ⟨hsome _ (by omega), hfz _⟩
          have HN1 : Hid ((w3.setCells g (m * 4) (lnC l)).ownsRow B 29 4 (.slice (some ⟨g, 0, none⟩) n c) n (LNS (E.set m l))) := own_setrow l ho3 HEL.out (by omega)
          have hbz : Below B w (w3.setCells g (m * 4) (lnC l)) := below_setCells hgB _ _ _ hbw3
          have hsz : Sought (w3.setCells g (m * 4) (lnC l)) g1 g2 g3 h nm lf := hs3.low (below_setCells hgB _ _ _ (Below.refl B w3)) HG.out
          have HQ := hid (And.intro hbz hsz)
          clear hbz hsz ho3 hs3 hbw3
          go_wp2_with (first | refine wpList_load_row rfl 29 (.tmp 7) rfl gL rfl 29 (lnV l) (0, 0) _ hg3 Tryz.underlying29 rfl i4 ?_ | refine wpList_store_mid rfl 29 (.tmp 33) (.tmp 32) rfl g (m * 4) (lnV l) rfl rfl hth i4 (lnV_one l) ?_)
          go_light
          have hml : m < E.length := by have := HEL.out; omega
          refine ⟨⟨m + 1, k + 1, E.set m l, by omega, by omega, by go_num, by go_num, ?_, ?_, ?_, ?_, HN1.out, HQ.out.2, HQ.out.1⟩, by simp [intOf]; omega⟩
          · show _ = _; rw [HTT.out, List.length_append, ← HM.out]; rfl
          · show _ = _; rw [HTT.out, set_take E m l hml, HE1.out]
          · show _ = _; rw [set_drop E m (k + 1) l (by omega)]; exact drop_more HE2.out
          · show _ = _; rw [List.length_set]; exact HEL.out
      · obtain rfl : k = n := by omega
        obtain ⟨_, _, _, _, _, hsome, hfz, _⟩ := own_row ho
        obtain ⟨zs, hzs⟩ : ∃ zs, ∀ ty, (Builtin.clear_ #[23] ty #[.slice (some ⟨g, m * 4, none⟩) (k - m) (c - m)]).run Tryz.prog wr = .ok (.tuple #[]) (wr.setCells g (m * 4) zs) := by
          obtain ⟨zs, hz⟩ := run_clear_rows wr 23 g (m * 4) (k - m) (c - m) (by omega) (fun j hj => hsome _ (by omega)) hfz
          exact ⟨zs, fun ty => hz⟩
        have HSF : Hid (Sl (wr.setCells g (m * 4) zs) 4 (.slice (some ⟨g, 0, none⟩) m c) (LNS (delL C h nm lf))) := by
          have := sl_first zs ho (by omega) HE1.out HEL.out rfl
          rw [HDn.out] at this
          exact this
        have HML : Hid ((delL C h nm lf).length = m) := by show _ = _; rw [← HDn.out]; exact HM.out.symm
        have hbz : Below B w (wr.setCells g (m * 4) zs) := below_setCells hgB _ _ _ hbr
        have HQ := hid hbz
        have hmc : ¬ (c = m) := by omega
        clear hbz hsome hfz ho hsr hbr HM HE1 HE2 HEL HDn HT HCL
        go_wp2_with (at_builtin; refine wpList_clear_runI _ rfl _ 23 rfl _ rfl (hzs _) ?_)
        go_ret
        exact ⟨⟨_, c, by rw [HML.out]; rfl, by rw [HML.out]; exact HSF.out⟩, HQ.out⟩
  · have HD : Hid (delL C h nm lf = C) := by
      show _ = _
      have := delL_none C h nm lf n (by omega) hno
      rwa [List.take_of_length_le (by omega)] at this
    clear hno
    go_wp2_with fail
    go_ret
    exact ⟨⟨A, c, by rw [HD.out, hl1]; rfl, by rw [HD.out, hl1]; exact own_sl hown1⟩, hbw1⟩
end CF
end Go.Proofs.YtecfkhgocjbocaaGreatDoor
namespace Go.Proofs.YtecfkhgocjbocaaGreatDoor
set_option linter.unusedVariables false
set_option linter.unusedSimpArgs false
open Go Go.RowKit

namespace CF
set_option maxRecDepth 100000 in
set_option maxHeartbeats 3200000 in
theorem Delete_any (C : List Ln) (h : Int) (nm lf : List UInt8) (A : Option Addr) (n c : Nat) (w : World) (hsl : Sl w 4 (.slice A n c) (LNS C)) (hC : ∀ l ∈ C, LnOk l) (hen : Env w) :
    Calls Tryz.prog 24 #[.slice A n c, .int .i64 h, .string (S8 nm), .string (S8 lf)] w fun e w' => ConfPost (delC C h nm lf) (delE C h nm lf) e w' ∧ Below w.heap.size w w' := by
  have hmf : ∀ (fn : Fn) (first cap : Array Value) (w : World), (Instr.makeFunc fn first cap).run Tryz.prog w = .ok (.func fn first cap) w := fun _ _ _ _ => rfl
  have hl1 := (sl_lns hsl).1
  obtain ⟨hba, hga, hla⟩ := box1 w (.cells #[.int .i64 h] 3)
  have sa := hsl.below hba
  have ea := hen.below hba
  obtain ⟨wA, hwA⟩ : ∃ wA, wA = w.alloc (.cells #[.int .i64 h] 3) := ⟨_, rfl⟩
  rw [← hwA] at hba hga hla sa ea
  obtain ⟨hbb, hgb, hlb⟩ := box1 wA (.cells #[.string (S8 nm)] 9)
  have sb := sa.below hbb
  have eb := ea.below hbb
  have ga2 := blk_below hga hbb hla
  obtain ⟨wB, hwB⟩ : ∃ wB, wB = wA.alloc (.cells #[.string (S8 nm)] 9) := ⟨_, rfl⟩
  rw [← hwB] at hbb hgb hlb sb eb ga2
  obtain ⟨hbc, hgc, hlc⟩ := box1 wB (.cells #[.string (S8 lf)] 9)
  have sc := sb.below hbc
  have ec := eb.below hbc
  have ga3 := blk_below ga2 hbc (Nat.lt_of_lt_of_le hla hbb.size)
  have gb3 := blk_below hgb hbc hlb
  obtain ⟨wC, hwC⟩ : ∃ wC, wC = wB.alloc (.cells #[.string (S8 lf)] 9) := ⟨_, rfl⟩
  rw [← hwC] at hbc hgc hlc sc ec ga3 gb3
  have hsA : wA.heap.size = w.heap.size + 1 := by rw [hwA]; simp
  have hsB : wB.heap.size = w.heap.size + 1 + 1 := by rw [hwB]; simp [hsA]
  have hbw : Below w.heap.size w wC := (hba.trans (hbb.mono hba.size)).trans (hbc.mono (by omega))
  have hSO : Sought wC w.heap.size (w.heap.size + 1) (w.heap.size + 1 + 1) h nm lf := ⟨ga3, by rw [← hsA]; exact gb3, by rw [← hsB]; exact hgc⟩
  have HSO := hid hSO
  have HRC := hid (Right_any C A n c wC sc hC ec)
  have HSL := hid sc
  have hsC := hSO.lt.2.2
  have HE0 : Hid (RightC C = false → ConfPost (delC C h nm lf) (delE C h nm lf) = ConfPost [] 1) := fun hr => by
    have : delE C h nm lf = 1 := by unfold delE; rw [hr]; rfl
    unfold delC; rw [this]; rfl
  have HE1 : Hid (RightC C = true → (delL C h nm lf).length = n → ConfPost (delC C h nm lf) (delE C h nm lf) = ConfPost [] 6) := fun hr hl => by
    have : delE C h nm lf = 6 := by unfold delE; rw [hr, if_pos rfl, if_pos (by omega)]
    unfold delC; rw [this]; rfl
  have HE2 : Hid (RightC C = true → ¬ (delL C h nm lf).length = n → ConfPost (delC C h nm lf) (delE C h nm lf) = ConfPost (delL C h nm lf) 0) := fun hr hl => by
    have : delE C h nm lf = 0 := by unfold delE; rw [hr, if_pos rfl, if_neg (by omega)]
    unfold delC; rw [this]; rfl
  have HN : Hid (RightC C = true → n ≤ 64) := fun hr => by have := ((RightC_iff C).1 hr).2.2; omega
  clear hsl hC hen sa ea sb eb sc ec hba hbb hbc hga hgb hgc hla hlb hlc ga2 ga3 gb3 hSO
  go_enter Tryz.func24, Tryz.ntmps24
  go_upto_region 1 with fail
  rw [← hwA, ← hwB, ← hwC]
  clear hwA hwB hwC hsA hsB
  go_wp2_with fail
  refine HRC.out.mono ?_
  rintro e w1 ⟨rfl, hb1⟩
  have hbw1 := hbw.trans (hb1.mono hbw.size)
  have HSL1 := hid (HSL.out.below hb1)
  have HSO1 := hid (HSO.out.below hb1)
  have hs1 : w.heap.size + 1 + 1 < w1.heap.size := Nat.lt_of_lt_of_le hsC hb1.size
  clear HRC HSL HSO hbw hb1 hsC
  cases b1 : RightC C with
  | false =>
    have HP := hid (HE0.out b1)
    clear HE0 HE1 HE2 HN b1
    go_wp2_with fail
    go_ret2
    exact ⟨by rw [HP.out]; exact conf_nil _ _, hbw1⟩
  | true =>
    have hn64 := HN.out b1
    have HP1 := hid (HE1.out b1)
    have HP2 := hid (HE2.out b1)
    have HCL := hid (clone_any C A n c w1 HSL1.out (by omega))
    clear HE0 HE1 HE2 HN b1 HSL1
    go_wp2_with fail
    refine HCL.out.mono ?_
    rintro e w2 ⟨A2, c2, rfl, ho2, hb2⟩
    have HSO2 := hid (HSO1.out.below hb2)
    have hbw2 := hbw1.trans (hb2.mono (by omega))
    have HDF := hid (delFunc_any C h nm lf w.heap.size (w.heap.size + 1) (w.heap.size + 1 + 1) w1.heap.size A2 n c2 w2 ho2 HSO2.out ⟨by omega, by omega, by omega⟩ hb2.size (by omega))
    clear HCL HSO1 HSO2 ho2
    generalize delL C h nm lf = D at *
    go_wp2_with fail
    refine HDF.out.mono ?_
    rintro e w3 ⟨⟨A3, c3, rfl, hs3⟩, hb3⟩
    have hbw3 := hbw2.trans (hb3.mono (by omega))
    have HS3 := hid hs3
    clear HDF hs3 hb3 hb2 hbw2 hbw1 hs1
    by_cases hd : D.length = n
    · have HP := hid (HP1.out hd)
      clear HP1 HP2
      have hd' : ((D.length : Int) == (n : Int)) = true := by simp; omega
      go_wp2_with fail
      all_goals go_ret2
      all_goals exact ⟨by rw [HP.out]; exact conf_nil _ _, hbw3⟩
    · have HP := hid (HP2.out hd)
      clear HP1 HP2
      have hd' : ((D.length : Int) == (n : Int)) = false := by simp; omega
      go_wp2_with fail
      all_goals go_ret2
      all_goals exact ⟨by rw [HP.out]; exact ⟨A3, c3, rfl, HS3.out⟩, hbw3⟩
end CF
end Go.Proofs.YtecfkhgocjbocaaGreatDoor
namespace Go.Proofs.YtecfkhgocjbocaaGreatDoor
set_option linter.unusedVariables false
set_option linter.unusedSimpArgs false
open Go Go.RowKit

namespace CF
theorem ordL_self (x : Ln) : ordL x x = 0 := (ordL_zero x x).2 ⟨rfl, rfl, rfl⟩
theorem srt_uniq {C : List Ln} (h : Srt C) {x y : Ln} (hx : x ∈ C) (hy : y ∈ C) (he : ordL x y = 0) : x = y := by
  obtain ⟨i, hi, rfl⟩ := List.getElem_of_mem hx
  obtain ⟨j, hj, rfl⟩ := List.getElem_of_mem hy
  have e1 := lnAt_get C i hi
  have e2 := lnAt_get C j hj
  by_cases c1 : i < j
  · have := h i j c1 hj
    rw [e1, e2] at this
    omega
  · by_cases c2 : j < i
    · have := h j i c2 hi
      rw [e1, e2, ordL_neg] at this
      omega
    · have : i = j := by omega
      subst this
      rfl
theorem val_mem {D : List Ln} (h : RightC D = true) (x : Ln) (hx : x ∈ D) : valC D x.head x.name x.leaf = x.value := by
  have hs := ((RightC_iff D).1 h).2.1
  unfold valC
  rw [if_pos h]
  cases hf : D.find? (fun y => decide (ordL y ⟨x.head, x.name, x.leaf, []⟩ = 0)) with
  | none =>
    have := List.find?_eq_none.1 hf x hx
    have h0 : ordL x ⟨x.head, x.name, x.leaf, []⟩ = 0 := (ordL_zero _ _).2 ⟨rfl, rfl, rfl⟩
    simp [h0] at this
  | some y =>
    have h1 := List.find?_some hf
    have h2 := List.mem_of_find?_eq_some hf
    have h3 := (ordL_zero _ _).1 (of_decide_eq_true h1)
    have h4 : ordL y x = 0 := (ordL_zero _ _).2 h3
    rw [srt_uniq hs h2 hx h4]
theorem mem_ins (C : List Ln) (l : Ln) : l ∈ insC C l := by
  induction C with
  | nil => exact List.mem_singleton.2 rfl
  | cons x r ih =>
    unfold insC
    split
    · exact List.mem_cons_of_mem _ ih
    · split <;> exact List.mem_cons_self
theorem mem_ins_old (C : List Ln) (l x : Ln) (hx : x ∈ C) (hne : ordL x l ≠ 0) : x ∈ insC C l := by
  induction C with
  | nil => cases hx
  | cons y r ih =>
    unfold insC
    split
    · rcases List.mem_cons.1 hx with h | h
      · rw [h]; exact List.mem_cons_self
      · exact List.mem_cons_of_mem _ (ih h)
    · split
      · rename_i h0
        rcases List.mem_cons.1 hx with h | h
        · rw [h] at hne; exact absurd h0 hne
        · exact List.mem_cons_of_mem _ h
      · exact List.mem_cons_of_mem _ hx
theorem ins_again (C : List Ln) (l : Ln) : insC (insC C l) l = insC C l := by
  have h0 := ordL_self l
  induction C with
  | nil =>
    show insC [l] l = [l]
    unfold insC
    rw [if_neg (by omega), if_pos h0]
  | cons x r ih =>
    by_cases h1 : ordL x l < 0
    · have e : insC (x :: r) l = x :: insC r l := by rw [insC, if_pos h1]
      rw [e, insC, if_pos h1, ih]
    · by_cases h2 : ordL x l = 0
      · have e : insC (x :: r) l = l :: r := by rw [insC, if_neg h1, if_pos h2]
        rw [e, insC, if_neg (by omega), if_pos h0]
      · have e : insC (x :: r) l = l :: x :: r := by rw [insC, if_neg h1, if_neg h2]
        rw [e, insC, if_neg (by omega), if_pos h0]
theorem set_full (B : List Ln) (l : Ln) (h : setE B l = 5) : B.length = 64 := by
  unfold setE at h
  split at h
  · rename_i h1
    rw [Bool.and_eq_true] at h1
    have h2 := ((RightC_iff B).1 h1.1).2.2
    split at h
    · cases h
    · have := ins_len B l
      omega
  · cases h
theorem set_cases (B : List Ln) (l : Ln) (hB : RightC B = true) (hl : rightL l = true) (h : setE B l ≠ 5) : setE B l = 0 ∧ setC B l = insC B l ∧ RightC (insC B l) = true ∧ (insC B l).length ≤ 64 := by
  have h2 : (insC B l).length ≤ 64 := by
    by_cases c : (insC B l).length ≤ 64
    · exact c
    · exfalso; apply h; unfold setE; rw [hB, hl, if_pos (by rfl), if_neg c]
  have h1 : setE B l = 0 := by unfold setE; rw [hB, hl, if_pos (by rfl), if_pos h2]
  exact ⟨h1, by unfold setC; rw [if_pos h1], right_ins B l hB hl h2, h2⟩
theorem set_again (B : List Ln) (l : Ln) (hl : rightL l = true) (hD : RightC (insC B l) = true) : setE (insC B l) l = 0 ∧ setC (insC B l) l = insC B l := by
  have h3 := ((RightC_iff _).1 hD).2.2
  have h1 : setE (insC B l) l = 0 := by unfold setE; rw [hD, hl, if_pos (by rfl), ins_again, if_pos h3]
  exact ⟨h1, by unfold setC; rw [if_pos h1, ins_again]⟩
theorem leaf_ne (l : Ln) (h : rightL l = true) : l.leaf ≠ [] := by
  unfold rightL at h
  simp only [Bool.and_eq_true] at h
  obtain ⟨⟨h1, _⟩, _⟩ := h
  intro e
  rw [e] at h1
  unfold findR at h1
  split at h1
  · rename_i r hf
    have hr := List.find?_some hf
    unfold isR at hr
    simp only [Bool.and_eq_true, decide_eq_true_eq] at hr
    have : TAB.all (fun r => decide (r.name ≠ [])) = true := by kernel_rfl
    have h2 := of_decide_eq_true (List.all_eq_true.1 this r (List.mem_of_find?_eq_some hf))
    exact h2 hr.2
  · cases h1
theorem hits_ord (l x : Ln) (hl : l.leaf ≠ []) : hits l.head l.name l.leaf x = decide (ordL x l = 0) := by
  rw [Bool.eq_iff_iff, decide_eq_true_iff, ordL_zero]
  unfold hits
  simp [hl]
theorem srt_app (s t : List Ln) (l : Ln) (h : Srt (s ++ l :: t)) : (∀ x ∈ s, ordL x l < 0) ∧ (∀ x ∈ t, ordL l x < 0) ∧ Srt (s ++ t) := by
  induction s with
  | nil =>
    have := (srt_cons l t).1 h
    exact ⟨by simp, this.1, this.2⟩
  | cons y r ih =>
    have h1 := (srt_cons y (r ++ l :: t)).1 h
    obtain ⟨i1, i2, i3⟩ := ih h1.2
    refine ⟨fun x hx => ?_, i2, (srt_cons y (r ++ t)).2 ⟨fun z hz => ?_, i3⟩⟩
    · rcases List.mem_cons.1 hx with e | e
      · rw [e]; exact h1.1 l (by simp)
      · exact i1 x e
    · exact h1.1 z (by rcases List.mem_append.1 hz with e | e <;> simp [e])
/-- one line is taken out -/
theorem del_one (D : List Ln) (l : Ln) (hD : RightC D = true) (hl : l ∈ D) (hf : l.leaf ≠ []) :
    delE D l.head l.name l.leaf = 0 ∧ (delL D l.head l.name l.leaf).length + 1 = D.length ∧ RightC (delL D l.head l.name l.leaf) = true ∧ delE (delL D l.head l.name l.leaf) l.head l.name l.leaf = 6 := by
  obtain ⟨hr, hs, h64⟩ := (RightC_iff D).1 hD
  obtain ⟨s, t, rfl⟩ := List.append_of_mem hl
  obtain ⟨h1, h2, h3⟩ := srt_app s t l hs
  have e0 := ordL_self l
  have hd : delL (s ++ l :: t) l.head l.name l.leaf = s ++ t := by
    unfold delL
    rw [List.filter_append, List.filter_cons]
    have q1 : s.filter (fun x => !hits l.head l.name l.leaf x) = s := by
      rw [List.filter_eq_self]
      intro x hx
      rw [hits_ord l x hf]
      have := h1 x hx
      simp; omega
    have q2 : t.filter (fun x => !hits l.head l.name l.leaf x) = t := by
      rw [List.filter_eq_self]
      intro x hx
      rw [hits_ord l x hf]
      have := h2 x hx
      rw [ordL_neg] at this
      simp; omega
    rw [q1, q2, if_neg (by rw [hits_ord l l hf]; simp [e0])]
  have hlen : (s ++ t).length + 1 = (s ++ l :: t).length := by simp only [List.length_append, List.length_cons]; omega
  have hrt : RightC (s ++ t) = true := by
    rw [RightC_iff]
    refine ⟨fun x hx => hr x ?_, h3, by omega⟩
    rcases List.mem_append.1 hx with e | e <;> simp [e]
  rw [hd]
  refine ⟨?_, hlen, hrt, ?_⟩
  · unfold delE
    rw [if_pos hD, hd, if_neg (by omega)]
  · have hd2 : delL (s ++ t) l.head l.name l.leaf = s ++ t := by
      have : delL (delL (s ++ l :: t) l.head l.name l.leaf) l.head l.name l.leaf = delL (s ++ l :: t) l.head l.name l.leaf := by
        unfold delL
        rw [List.filter_filter]
        congr 1
        funext x
        simp
      rw [hd] at this
      exact this
    unfold delE
    rw [if_pos hrt, hd2, if_pos rfl]
end CF
end Go.Proofs.YtecfkhgocjbocaaGreatDoor
namespace Go.Proofs.YtecfkhgocjbocaaGreatDoor
set_option linter.unusedVariables false
set_option linter.unusedSimpArgs false
open Go Go.RowKit

namespace CF
theorem to_one (l : Ln) (g : Nat) (w : World) (hg : w.heap[g]? = some (.cells (lnV l) 48 (0, 0))) :
    Calls Tryz.prog 26 #[.slice (some ⟨g, 0, none⟩) 1 1] w fun e w' => (∃ b off c, e = .returned (.slice (some ⟨b, off, none⟩) 1 c) ∧ b < w'.heap.size ∧ w'.rangeAt b off (lnC l) ∧ 1 ≤ c) ∧ Below w.heap.size w w' := by
  refine (to_any [l] _ 1 1 w (sl_blkT hg) (by omega)).mono ?_
  rintro e w' ⟨A', c', rfl, ho, hb⟩
  have hs := own_sl ho
  obtain ⟨b, off, rfl, hbl, hcl⟩ := sl_ln hs (show 0 < 1 by omega)
  rw [Nat.zero_mul, Nat.add_zero] at hcl
  exact ⟨⟨b, off, c', rfl, hbl, hcl, (sl_lns hs).2.1⟩, hb⟩
set_option maxRecDepth 100000 in
set_option maxHeartbeats 8000000 in
theorem confSteps_walk (L : List Ln) (A : Option Addr) (n c : Nat) (l : Ln) (w : World) (h : Sl w 4 (.slice A n c) (LNS L)) (hL : ∀ l ∈ L, LnOk l) (hl : LnOk l) (hen : Env w) :
    Calls Tryz.prog 6 #[.slice A n c, .agg (lnV l)] w fun e w' => e = .returned (.bool true) ∧ Below w.heap.size w w' := by
  obtain ⟨hbA, hgA, hlA⟩ := box1 w (.cells (lnV l) 48)
  have HEN : Hid (∀ w', Below w.heap.size w w' → Env w') := fun w' hb => hen.below hb
  have HBD := hid (build_any L A n c _ (h.below hbA) hL (hen.below hbA))
  have HBL := hid (build_lnb L)
  have HBR : Hid (RightC (buildC L) = true) := build_right L 100
  clear h hL hen
  generalize buildC L = B at *
  have HBO : Hid (∀ x ∈ B, LnOk x) := fun x hx => lnb_ok (HBL.out x hx)
  have HB64 : Hid (B.length ≤ 64) := right_len HBR.out
  have HWR : Hid (∀ w', Below w.heap.size w w' → Calls Tryz.prog 15 #[] w' fun e w'' => e = .returned (.bool true) ∧ Below w'.heap.size w' w'') := fun w' hb => writes_any w' (HEN.out w' hb)
  have HSE : Hid (∀ (C : List Ln) A n c w', (∀ x ∈ C, LnOk x) → Below w.heap.size w w' → Sl w' 4 (.slice A n c) (LNS C) → Calls Tryz.prog 13 #[.slice A n c, .agg (lnV l)] w' fun e w'' => ConfPost (setC C l) (setE C l) e w'' ∧ Below w'.heap.size w' w'') :=
    fun C A n c w' hC hb hs => Set_any C l A n c w' hs hC hl (HEN.out w' hb)
  have HRL : Hid (∀ w', Below w.heap.size w w' → Calls Tryz.prog 34 #[.agg (lnV l)] w' fun e w'' => e = .returned (.bool (rightL l)) ∧ Below w'.heap.size w' w'') := fun w' hb => refRight1_any l w' hl (HEN.out w' hb)
  have HLO := hid hl
  clear hl HBL
  go_enter Tryz.func6, Tryz.ntmps6
  go_upto_region 1 with fail
  generalize w.alloc (.cells (lnV l) 48) = wA at *
  go_wp2_with fail
  refine HBD.out.mono ?_
  rintro e w1 ⟨⟨A1, c1, rfl, hs1⟩, hb1⟩
  have hg1 := blk_below hgA hb1 (blk_lt hgA)
  have hbw1 := hbA.trans (hb1.mono hbA.size)
  have HTO := hid (to_any B A1 B.length c1 w1 hs1 (by have := HB64.out; omega))
  clear HBD hs1 hbA hb1 hgA hlA
  go_wp2_with fail
  refine HTO.out.mono ?_
  rintro e w2 ⟨A2, c2, rfl, ho2, hb2⟩
  have hsB := own_sl ho2
  have HSB := hid hsB
  have hg2 := blk_below hg1 hb2 (blk_lt hg1)
  have hbw2 := hbw1.trans (hb2.mono hbw1.size)
  clear HTO hg1 hbw1 hb2 ho2 hsB
  obtain ⟨hb3, hg3, hl3⟩ := box1 w2 (.cells (lnV l) 48)
  have HT3 := hid (to_one l w2.heap.size _ hg3)
  have HSB3 := hid (HSB.out.below hb3)
  have hbw3 := hbw2.trans (hb3.mono hbw2.size)
  have hgx3 := blk_below hg2 hb3 (blk_lt hg2)
  clear hg3 hl3 hb3 HSB hbw2
  go_wp2_with (first | refine wpList_load_row rfl 48 (.tmp 3) rfl w.heap.size rfl 48 (lnV l) (0, 0) _ hg2 Tryz.underlying48 rfl k4 ?_ | refine wpList_build1 rfl st_rls (.tmp 20) rfl (lnV l) rfl rfl (by omega) (by omega) ?_)
  refine HT3.out.mono ?_
  rintro e w4 ⟨⟨b4, off4, c4, rfl, hbl4, hcl4, hc41⟩, hb4⟩
  have hbw4 := hbw3.trans (hb4.mono hbw3.size)
  have hg4 := blk_below hgx3 hb4 (blk_lt hgx3)
  have HSB4 := hid (HSB3.out.below hb4)
  have HS4 := hid (HSE.out B A2 B.length c2 w4 HBO.out hbw4 HSB4.out)
  clear HT3 HSB3 hbw3 hgx3 hg2 hb4
  generalize w2.alloc (.cells (lnV l) 48) = w3 at *
  obtain ⟨nB, hnB⟩ : ∃ nB, nB = B.length := ⟨_, rfl⟩
  go_wp2_with (refine wpList_load_mid rfl 29 (.tmp 23) rfl b4 off4 rfl (lnC l) _ hcl4 Tryz.underlying29 rfl i4 ?_)
  refine HS4.out.mono ?_
  rintro e w5 ⟨⟨A5, c5, rfl, hs5⟩, hb5⟩
  have hbw5 := hbw4.trans (hb5.mono hbw4.size)
  have hg5 := blk_below hg4 hb5 (blk_lt hg4)
  have HSB5 := hid (HSB4.out.below hb5)
  have HD5 := hid hs5
  have HR5 := hid (HRL.out w5 hbw5)
  clear HS4 HSB4 hbw4 hg4 hb5 hs5 hcl4 hbl4
  go_wp2_with (refine wpList_load_row rfl 48 (.tmp 3) rfl w.heap.size rfl 48 (lnV l) (0, 0) _ hg5 Tryz.underlying48 rfl k4 ?_)
  refine HR5.out.mono ?_
  rintro e w6 ⟨rfl, hb6⟩
  have hbw6 := hbw5.trans (hb6.mono hbw5.size)
  have hg6 := blk_below hg5 hb6 (blk_lt hg5)
  have HSB6 := hid (HSB5.out.below hb6)
  have HD6 := hid (HD5.out.below hb6)
  clear HR5 HSB5 HD5 hbw5 hg5 hb6 HRL
  cases hr : rightL l with
  | false =>
    have hE : setE B l = 1 := by unfold setE; rw [hr, Bool.and_false]; rfl
    have hD : setC B l = [] := by unfold setC; rw [hE]; rfl
    have HW := hid (HWR.out w6 hbw6)
    rw [hE, hD]
    clear hE hD HSE HBO HBR HB64
    as_aux_lemma =>
      go_wp2_with fail
      refine HW.out.mono ?_
      rintro e w7 ⟨rfl, hb7⟩
      have hbw7 := hbw6.trans (hb7.mono hbw6.size)
      clear HW hb7
      go_wp2_with fail
      go_ret
      exact ⟨rfl, hbw7⟩
  | true =>
    by_cases h5 : setE B l = 5
    · have hB : B.length = 64 := set_full B l h5
      have HW := hid (HWR.out w6 hbw6)
      rw [h5, hB]
      clear HSE HBO HBR HB64
      as_aux_lemma =>
        go_wp2_with fail
        refine HW.out.mono ?_
        rintro e w7 ⟨rfl, hb7⟩
        have hbw7 := hbw6.trans (hb7.mono hbw6.size)
        clear HW hb7
        go_wp2_with fail
        go_ret
        exact ⟨rfl, hbw7⟩
    · obtain ⟨e1, e2, hRD, hD64⟩ := set_cases B l HBR.out hr h5
      obtain ⟨f1, f2⟩ := set_again B l hr hRD
      obtain ⟨d1, d2, d3, d4⟩ := del_one (insC B l) l hRD (mem_ins B l) (leaf_ne l hr)
      have HDO : Hid (∀ x ∈ insC B l, LnOk x) := fun x hx => (ins_mem B l x hx).elim (fun e => by rw [e]; exact HLO.out) (HBO.out x)
      have HFO : Hid (∀ x ∈ delL (insC B l) l.head l.name l.leaf, LnOk x) := fun x hx => HDO.out x (by unfold delL at hx; exact (List.mem_filter.1 hx).1)
      have HV := hid (val_mem hRD l (mem_ins B l))
      have HV2 : Hid (∀ x ∈ B, ordL x l ≠ 0 → valC (insC B l) x.head x.name x.leaf = x.value) := fun x hx hne => val_mem hRD x (mem_ins_old B l x hx hne)
      have HS7 : Hid (∀ A n c w', Below w.heap.size w w' → Sl w' 4 (.slice A n c) (LNS (insC B l)) → Calls Tryz.prog 13 #[.slice A n c, .agg (lnV l)] w' fun e w'' => ConfPost (insC B l) 0 e w'' ∧ Below w'.heap.size w' w'') := fun A n c w' hb hs => by
        have := HSE.out (insC B l) A n c w' HDO.out hb hs
        rwa [f1, f2] at this
      have HVA : Hid (∀ (x : Ln) A n c w', valC (insC B l) x.head x.name x.leaf = x.value → Below w.heap.size w w' → Sl w' 4 (.slice A n c) (LNS (insC B l)) → Calls Tryz.prog 16 #[.slice A n c, .int .i64 x.head, .string (S8 x.name), .string (S8 x.leaf)] w' fun e w'' => e = .returned (.string (S8 x.value)) ∧ Below w'.heap.size w' w'') := fun x A n c w' hx hb hs => by
        have := Value_any (insC B l) x.head x.name x.leaf A n c w' hs HDO.out (HEN.out w' hb)
        rwa [hx] at this
      have HD1 : Hid (∀ A n c w', Below w.heap.size w w' → Sl w' 4 (.slice A n c) (LNS (insC B l)) → Calls Tryz.prog 24 #[.slice A n c, .int .i64 l.head, .string (S8 l.name), .string (S8 l.leaf)] w' fun e w'' => ConfPost (delL (insC B l) l.head l.name l.leaf) 0 e w'' ∧ Below w'.heap.size w' w'') := fun A n c w' hb hs => by
        have := Delete_any (insC B l) l.head l.name l.leaf A n c w' hs HDO.out (HEN.out w' hb)
        have e : delC (insC B l) l.head l.name l.leaf = delL (insC B l) l.head l.name l.leaf := by unfold delC; rw [if_pos d1]
        rwa [d1, e] at this
      have HD2 : Hid (∀ A n c w', Below w.heap.size w w' → Sl w' 4 (.slice A n c) (LNS (delL (insC B l) l.head l.name l.leaf)) → Calls Tryz.prog 24 #[.slice A n c, .int .i64 l.head, .string (S8 l.name), .string (S8 l.leaf)] w' fun e w'' => ConfPost [] 6 e w'' ∧ Below w'.heap.size w' w'') := fun A n c w' hb hs => by
        have := Delete_any (delL (insC B l) l.head l.name l.leaf) l.head l.name l.leaf A n c w' hs HFO.out (HEN.out w' hb)
        have e : delC (delL (insC B l) l.head l.name l.leaf) l.head l.name l.leaf = [] := by unfold delC; rw [d4]; rfl
        rwa [d4, e] at this
      rw [e1, e2]
      rw [e2] at HD6
      clear HSE HDO HFO h5 e1 e2 f1 f2 d1 d3 d4 hRD hr HBR HBO
      generalize insC B l = D at *
      generalize delL D l.head l.name l.leaf = F at *
      as_aux_lemma =>
        obtain ⟨hb7, hg7, hl7⟩ := box1 w6 (.cells (lnV l) 48)
        have HT7 := hid (to_one l w6.heap.size _ hg7)
        have HSB7 := hid (HSB6.out.below hb7)
        have HD7 := hid (HD6.out.below hb7)
        have hbw7 := hbw6.trans (hb7.mono hbw6.size)
        have hgx7 := blk_below hg6 hb7 (blk_lt hg6)
        clear hg7 hl7 hb7 HSB6 HD6 hbw6
        go_wp2_with (first | refine wpList_load_row rfl 48 (.tmp 3) rfl w.heap.size rfl 48 (lnV l) (0, 0) _ hg6 Tryz.underlying48 rfl k4 ?_ | refine wpList_build1 rfl st_rls (.tmp 51) rfl (lnV l) rfl rfl (by omega) (by omega) ?_)
        refine HT7.out.mono ?_
        rintro e w8 ⟨⟨b8, off8, c8, rfl, hbl8, hcl8, hc81⟩, hb8⟩
        have hbw8 := hbw7.trans (hb8.mono hbw7.size)
        have hg8 := blk_below hgx7 hb8 (blk_lt hgx7)
        have HSB8 := hid (HSB7.out.below hb8)
        have HD8 := hid (HD7.out.below hb8)
        have HS8 := hid (HS7.out A5 D.length c5 w8 hbw8 HD8.out)
        clear HT7 HSB7 HD7 hbw7 hgx7 hg6 hb8 HS7
        generalize w6.alloc (.cells (lnV l) 48) = w7 at *
        go_wp2_with (refine wpList_load_mid rfl 29 (.tmp 54) rfl b8 off8 rfl (lnC l) _ hcl8 Tryz.underlying29 rfl i4 ?_)
        refine HS8.out.mono ?_
        rintro e w9 ⟨⟨A9, c9, rfl, hs9⟩, hb9⟩
        have hbw9 := hbw8.trans (hb9.mono hbw8.size)
        have hg9 := blk_below hg8 hb9 (blk_lt hg8)
        have HSB9 := hid (HSB8.out.below hb9)
        have HD9 := hid (HD8.out.below hb9)
        have HE9 := hid hs9
        clear HS8 HSB8 HD8 hbw8 hg8 hb9 hs9 hcl8 hbl8
        go_upto_region 8 with fail
        have z0 := box_z (S0 := fun _ => False) hg9 (fun e => e) 0 _ rfl
        have z1 := box_z (S0 := fun _ => False) hg9 (fun e => e) 1 _ rfl
        have z2 := box_z (S0 := fun _ => False) hg9 (fun e => e) 2 _ rfl
        have z3 := box_z (S0 := fun _ => False) hg9 (fun e => e) 3 _ rfl
        have qv : ((S8 l.value).toList == (S8 l.value).toList) = true := by simp
        refine wp_region_loud (fun _ => False) [(0, plainL [] (.bool true)), (13, plainL [] (.bool true)), (24, plainL [] (.string (S8 l.value)))] (fun _ => Fact.none) (by kernel_rfl) (by kernel_rfl)
          (.cons (plainL_ok _ _) (.cons (plainL_ok _ _) (.cons (plainL_ok _ _) .nil))) good_nothing sat_none (WX.out ?_)
        repeat (first | (refine wx_quietU (by rfl) (by rfl) (by rfl) (fun K hK => ?_); go_big_quiet_op; refine hK _ ?_; clear hK K) | (refine wx_quietG (by rfl) (by rfl) (by rfl) (by rfl) (by rfl) (fun K hK => ?_); go_big_quiet_op; refine hK _ ?_; clear hK K) | (refine wx_skipG (by rfl) (by rfl) (by rfl) (fun K hK => ?_); go_simp; refine hK _ ?_; clear hK K) | (refine wx_skipN (by rfl) (by rfl) (by rfl) (fun K hK => ?_); go_simp; refine hK _ ?_; clear hK K))
        refine wx_loudU (us := []) (by rfl) (by rfl) (fun S wS hC hS hU => runs_enter (f := 15) (by go_simp <;> rfl) ?_) (fun v hv K hK => ?_)
        · refine (HWR.out wS (hbw9.trans (hC.below.mono hbw9.size))).mono ?_
          rintro e w' ⟨rfl, hb⟩
          exact ⟨_, rfl, rfl, Kept.of_below hb, trivial⟩
        obtain rfl := hv; (go_simp; refine hK _ ?_; clear hK K)
        repeat (first | (refine wx_quietU (by rfl) (by rfl) (by rfl) (fun K hK => ?_); go_big_quiet_op; refine hK _ ?_; clear hK K) | (refine wx_quietG (by rfl) (by rfl) (by rfl) (by rfl) (by rfl) (fun K hK => ?_); go_big_quiet_op; refine hK _ ?_; clear hK K) | (refine wx_skipG (by rfl) (by rfl) (by rfl) (fun K hK => ?_); go_simp; refine hK _ ?_; clear hK K) | (refine wx_skipN (by rfl) (by rfl) (by rfl) (fun K hK => ?_); go_simp; refine hK _ ?_; clear hK K))
        refine wx_loudG (us := []) (by rfl) (by rfl) (by rfl) (by rfl) (fun S wS hC hS hU => runs_enter (f := 35) (by go_simp <;> rfl) ?_) (fun v hv K hK => ?_)
        · have hsm := confSame_any D D A5 A9 D.length c5 D.length c9 wS (HD9.out.below hC.below) (HE9.out.below hC.below)
          rw [sameC_refl] at hsm
          refine hsm.mono ?_
          rintro e w' ⟨rfl, hb⟩
          exact ⟨_, rfl, rfl, Kept.of_below hb, trivial⟩
        obtain rfl := hv; (go_simp; refine hK _ ?_; clear hK K)
        repeat (first | (refine wx_quietU (by rfl) (by rfl) (by rfl) (fun K hK => ?_); go_big_quiet_op; refine hK _ ?_; clear hK K) | (refine wx_quietG (by rfl) (by rfl) (by rfl) (by rfl) (by rfl) (fun K hK => ?_); go_big_quiet_op; refine hK _ ?_; clear hK K) | (refine wx_skipG (by rfl) (by rfl) (by rfl) (fun K hK => ?_); go_simp; refine hK _ ?_; clear hK K) | (refine wx_skipN (by rfl) (by rfl) (by rfl) (fun K hK => ?_); go_simp; refine hK _ ?_; clear hK K))
        refine wx_loudG (us := []) (by rfl) (by rfl) (by rfl) (by rfl) (fun S wS hC hS hU => runs_enter (f := 16) (by go_simp <;> rfl) ?_) (fun v hv K hK => ?_)
        · refine (HVA.out l A5 D.length c5 wS HV.out (hbw9.trans (hC.below.mono hbw9.size)) (HD9.out.below hC.below)).mono ?_
          rintro e w' ⟨rfl, hb⟩
          exact ⟨_, rfl, rfl, Kept.of_below hb, trivial⟩
        obtain rfl := hv; (go_simp; refine hK _ ?_; clear hK K)
        repeat (first | (refine wx_quietU (by rfl) (by rfl) (by rfl) (fun K hK => ?_); go_big_quiet_op; refine hK _ ?_; clear hK K) | (refine wx_quietG (by rfl) (by rfl) (by rfl) (by rfl) (by rfl) (fun K hK => ?_); go_big_quiet_op; refine hK _ ?_; clear hK K) | (refine wx_skipG (by rfl) (by rfl) (by rfl) (fun K hK => ?_); go_simp; refine hK _ ?_; clear hK K) | (refine wx_skipN (by rfl) (by rfl) (by rfl) (fun K hK => ?_); go_simp; refine hK _ ?_; clear hK K))
        refine wx_nil fun w10 hsat => ?_
        have hb10 := sat_below hsat
        have hbw10 := hbw9.trans (hb10.mono hbw9.size)
        have hg10 := blk_below hg9 hb10 (blk_lt hg9)
        have HSB10 := hid (HSB9.out.below hb10)
        have HD10 := hid (HD9.out.below hb10)
        clear hsat z0 z1 z2 z3 qv hb10 HSB9 HD9 HE9 hg9 hbw9
        go_wp2_with fail
        go_loopw [10] (fun i wr => ∃ k : Nat, k ≤ B.length ∧ i = .int .i64 k ∧ Below w10.heap.size w10 wr) (fun i _ => B.length - (intOf i).toNat)
        case atStart => exact ⟨0, Nat.zero_le _, rfl, Below.refl _ _⟩
        case round =>
          obtain ⟨k, hk, rfl, hbr⟩ := hrel
          have hbw := hbw10.trans (hbr.mono hbw10.size)
          have hgr := blk_below hg10 hbr (blk_lt hg10)
          have hk64 := HB64.out
          by_cases hlt : k < B.length
          · obtain ⟨b, off, rfl, hbl, hcl⟩ := sl_ln (HSB10.out.below hbr) hlt
            have hmem : lnAt B k ∈ B := by rw [lnAt_get B k hlt]; exact List.getElem_mem hlt
            have HX := hid (fun h => HV2.out (lnAt B k) hmem h)
            have hx0 : wr.cell? ⟨b, off + k * 4, none⟩ = some (.int .i64 (lnAt B k).head) := hcl 0 _ rfl
            have hx1 : wr.cell? ⟨b, off + k * 4 + 1, none⟩ = some (.string (S8 (lnAt B k).name)) := hcl 1 _ rfl
            have hx2 : wr.cell? ⟨b, off + k * 4 + 2, none⟩ = some (.string (S8 (lnAt B k).leaf)) := hcl 2 _ rfl
            have hx3 : wr.cell? ⟨b, off + k * 4 + 3, none⟩ = some (.string (S8 (lnAt B k).value)) := hcl 3 _ rfl
            have y0 := fun z : WK (fun _ => False) wr => (wat_cell (p := ⟨b, off + k * 4, none⟩) hbl (by simp) z).trans hx0
            have y1 := fun z : WK (fun _ => False) wr => (wat_cell (p := ⟨b, off + k * 4 + 1, none⟩) hbl (by simp) z).trans hx1
            have y2 := fun z : WK (fun _ => False) wr => (wat_cell (p := ⟨b, off + k * 4 + 2, none⟩) hbl (by simp) z).trans hx2
            have z0 := box_z (S0 := fun _ => False) hgr (fun e => e) 0 _ rfl
            have z1 := box_z (S0 := fun _ => False) hgr (fun e => e) 1 _ rfl
            have z2 := box_z (S0 := fun _ => False) hgr (fun e => e) 2 _ rfl
            have t1 := tl_eq (lnAt B k).name l.name
            have t2 := tl_eq (lnAt B k).leaf l.leaf
            have hord := ordL_zero (lnAt B k) l
            clear hmem hcl
            generalize lnAt B k = x at *
            by_cases q0 : x.head = l.head
            · have e0 : (x.head == l.head) = true := by simpa using q0
              by_cases q1 : x.name = l.name
              · rw [decide_eq_true q1] at t1
                by_cases q2 : x.leaf = l.leaf
                · rw [decide_eq_true q2] at t2
                  clear HX hord q0 q1 q2
                  as_aux_lemma =>
                    go_upto_region 13 with fail
                    refine wp_region_loud (fun _ => False) [] (fun _ => Fact.none) (by kernel_rfl) (by kernel_rfl) .nil good_nothing sat_none (WX.out ?_)
                    repeat (first | (refine wx_quietU (by rfl) (by rfl) (by rfl) (fun K hK => ?_); go_big_quiet_op; refine hK _ ?_; clear hK K) | (refine wx_quietG (by rfl) (by rfl) (by rfl) (by rfl) (by rfl) (fun K hK => ?_); go_big_quiet_op; refine hK _ ?_; clear hK K) | (refine wx_skipG (by rfl) (by rfl) (by rfl) (fun K hK => ?_); go_simp; refine hK _ ?_; clear hK K) | (refine wx_skipN (by rfl) (by rfl) (by rfl) (fun K hK => ?_); go_simp; refine hK _ ?_; clear hK K))
                    refine wx_nil fun w13 hsat => ?_
                    have hb13 := sat_below hsat
                    clear hsat y0 y1 y2 z0 z1 z2
                    go_upto_if 121 with fail
                    go_wp2_with fail
                    go_light
                    exact ⟨⟨k + 1, by omega, by go_num, hbr.trans (hb13.mono hbr.size)⟩, by simp [intOf]; omega⟩
                · rw [decide_eq_false q2] at t2
                  have HXV := hid (HX.out fun h => q2 (hord.1 h).2.2)
                  clear HX hord q0 q1 q2
                  as_aux_lemma =>
                    go_upto_region 13 with fail
                    refine wp_region_loud (fun _ => False) [] (fun _ => Fact.none) (by kernel_rfl) (by kernel_rfl) .nil good_nothing sat_none (WX.out ?_)
                    repeat (first | (refine wx_quietU (by rfl) (by rfl) (by rfl) (fun K hK => ?_); go_big_quiet_op; refine hK _ ?_; clear hK K) | (refine wx_quietG (by rfl) (by rfl) (by rfl) (by rfl) (by rfl) (fun K hK => ?_); go_big_quiet_op; refine hK _ ?_; clear hK K) | (refine wx_skipG (by rfl) (by rfl) (by rfl) (fun K hK => ?_); go_simp; refine hK _ ?_; clear hK K) | (refine wx_skipN (by rfl) (by rfl) (by rfl) (fun K hK => ?_); go_simp; refine hK _ ?_; clear hK K))
                    refine wx_nil fun w13 hsat => ?_
                    have hb13 := sat_below hsat
                    clear hsat y0 y1 y2 z0 z1 z2
                    go_upto_if 121 with fail
                    have hbq := hbr.trans (hb13.mono hbr.size)
                    have hbz := hbw.trans (hb13.mono hbw.size)
                    have c0 : w13.cell? ⟨b, off + k * 4, none⟩ = some (.int .i64 x.head) := (hb13.cell hbl).trans hx0
                    have c1 : w13.cell? ⟨b, off + k * 4 + 1, none⟩ = some (.string (S8 x.name)) := (hb13.cell hbl).trans hx1
                    have c2 : w13.cell? ⟨b, off + k * 4 + 2, none⟩ = some (.string (S8 x.leaf)) := (hb13.cell hbl).trans hx2
                    have c3 : w13.cell? ⟨b, off + k * 4 + 3, none⟩ = some (.string (S8 x.value)) := (hb13.cell hbl).trans hx3
                    have hb13l : b < w13.heap.size := Nat.lt_of_lt_of_le hbl hb13.size
                    have y0 := fun z : WK (fun _ => False) w13 => (wat_cell (p := ⟨b, off + k * 4, none⟩) hb13l (by simp) z).trans c0
                    have y1 := fun z : WK (fun _ => False) w13 => (wat_cell (p := ⟨b, off + k * 4 + 1, none⟩) hb13l (by simp) z).trans c1
                    have y2 := fun z : WK (fun _ => False) w13 => (wat_cell (p := ⟨b, off + k * 4 + 2, none⟩) hb13l (by simp) z).trans c2
                    have y3 := fun z : WK (fun _ => False) w13 => (wat_cell (p := ⟨b, off + k * 4 + 3, none⟩) hb13l (by simp) z).trans c3
                    have HD13 := hid (HD10.out.below hbq)
                    have qv : ((S8 x.value).toList == (S8 x.value).toList) = true := by simp
                    clear c0 c1 c2 c3 hx0 hx1 hx2 hx3
                    go_upto_region 14 with fail
                    refine wp_region_loud (fun _ => False) [(16, plainL [] (.string (S8 x.value)))] (fun _ => Fact.none) (by kernel_rfl) (by kernel_rfl) (.cons (plainL_ok _ _) .nil) good_nothing sat_none (WX.out ?_)
                    repeat (first | (refine wx_quietU (by rfl) (by rfl) (by rfl) (fun K hK => ?_); go_big_quiet_op; refine hK _ ?_; clear hK K) | (refine wx_quietG (by rfl) (by rfl) (by rfl) (by rfl) (by rfl) (fun K hK => ?_); go_big_quiet_op; refine hK _ ?_; clear hK K) | (refine wx_skipG (by rfl) (by rfl) (by rfl) (fun K hK => ?_); go_simp; refine hK _ ?_; clear hK K) | (refine wx_skipN (by rfl) (by rfl) (by rfl) (fun K hK => ?_); go_simp; refine hK _ ?_; clear hK K))
                    refine wx_loudU (us := []) (by rfl) (by rfl) (fun S wS hC hS hU => runs_enter (f := 16) (by go_simp <;> rfl) ?_) (fun v hv K hK => ?_)
                    · refine (HVA.out x A5 D.length c5 wS HXV.out (hbz.trans (hC.below.mono hbz.size)) (HD13.out.below hC.below)).mono ?_
                      rintro e w' ⟨rfl, hb⟩
                      exact ⟨_, rfl, rfl, Kept.of_below hb, trivial⟩
                    obtain rfl := hv; (go_simp; refine hK _ ?_; clear hK K)
                    repeat (first | (refine wx_quietU (by rfl) (by rfl) (by rfl) (fun K hK => ?_); go_big_quiet_op; refine hK _ ?_; clear hK K) | (refine wx_quietG (by rfl) (by rfl) (by rfl) (by rfl) (by rfl) (fun K hK => ?_); go_big_quiet_op; refine hK _ ?_; clear hK K) | (refine wx_skipG (by rfl) (by rfl) (by rfl) (fun K hK => ?_); go_simp; refine hK _ ?_; clear hK K) | (refine wx_skipN (by rfl) (by rfl) (by rfl) (fun K hK => ?_); go_simp; refine hK _ ?_; clear hK K))
                    refine wx_nil fun w14 hsat => ?_
                    have hb14 := sat_below hsat
                    clear hsat y0 y1 y2 y3 qv
                    go_wp2_with fail
                    go_light
                    exact ⟨⟨k + 1, by omega, by go_num, hbq.trans (hb14.mono hbq.size)⟩, by simp [intOf]; omega⟩
              · rw [decide_eq_false q1] at t1
                have HXV := hid (HX.out fun h => q1 (hord.1 h).2.1)
                clear HX hord q0 q1
                as_aux_lemma =>
                  go_upto_region 13 with fail
                  refine wp_region_loud (fun _ => False) [] (fun _ => Fact.none) (by kernel_rfl) (by kernel_rfl) .nil good_nothing sat_none (WX.out ?_)
                  repeat (first | (refine wx_quietU (by rfl) (by rfl) (by rfl) (fun K hK => ?_); go_big_quiet_op; refine hK _ ?_; clear hK K) | (refine wx_quietG (by rfl) (by rfl) (by rfl) (by rfl) (by rfl) (fun K hK => ?_); go_big_quiet_op; refine hK _ ?_; clear hK K) | (refine wx_skipG (by rfl) (by rfl) (by rfl) (fun K hK => ?_); go_simp; refine hK _ ?_; clear hK K) | (refine wx_skipN (by rfl) (by rfl) (by rfl) (fun K hK => ?_); go_simp; refine hK _ ?_; clear hK K))
                  refine wx_nil fun w13 hsat => ?_
                  have hb13 := sat_below hsat
                  clear hsat y0 y1 y2 z0 z1 z2
                  go_upto_if 121 with fail
                  have hbq := hbr.trans (hb13.mono hbr.size)
                  have hbz := hbw.trans (hb13.mono hbw.size)
                  have c0 : w13.cell? ⟨b, off + k * 4, none⟩ = some (.int .i64 x.head) := (hb13.cell hbl).trans hx0
                  have c1 : w13.cell? ⟨b, off + k * 4 + 1, none⟩ = some (.string (S8 x.name)) := (hb13.cell hbl).trans hx1
                  have c2 : w13.cell? ⟨b, off + k * 4 + 2, none⟩ = some (.string (S8 x.leaf)) := (hb13.cell hbl).trans hx2
                  have c3 : w13.cell? ⟨b, off + k * 4 + 3, none⟩ = some (.string (S8 x.value)) := (hb13.cell hbl).trans hx3
                  have hb13l : b < w13.heap.size := Nat.lt_of_lt_of_le hbl hb13.size
                  have y0 := fun z : WK (fun _ => False) w13 => (wat_cell (p := ⟨b, off + k * 4, none⟩) hb13l (by simp) z).trans c0
                  have y1 := fun z : WK (fun _ => False) w13 => (wat_cell (p := ⟨b, off + k * 4 + 1, none⟩) hb13l (by simp) z).trans c1
                  have y2 := fun z : WK (fun _ => False) w13 => (wat_cell (p := ⟨b, off + k * 4 + 2, none⟩) hb13l (by simp) z).trans c2
                  have y3 := fun z : WK (fun _ => False) w13 => (wat_cell (p := ⟨b, off + k * 4 + 3, none⟩) hb13l (by simp) z).trans c3
                  have HD13 := hid (HD10.out.below hbq)
                  have qv : ((S8 x.value).toList == (S8 x.value).toList) = true := by simp
                  clear c0 c1 c2 c3 hx0 hx1 hx2 hx3
                  go_upto_region 14 with fail
                  refine wp_region_loud (fun _ => False) [(16, plainL [] (.string (S8 x.value)))] (fun _ => Fact.none) (by kernel_rfl) (by kernel_rfl) (.cons (plainL_ok _ _) .nil) good_nothing sat_none (WX.out ?_)
                  repeat (first | (refine wx_quietU (by rfl) (by rfl) (by rfl) (fun K hK => ?_); go_big_quiet_op; refine hK _ ?_; clear hK K) | (refine wx_quietG (by rfl) (by rfl) (by rfl) (by rfl) (by rfl) (fun K hK => ?_); go_big_quiet_op; refine hK _ ?_; clear hK K) | (refine wx_skipG (by rfl) (by rfl) (by rfl) (fun K hK => ?_); go_simp; refine hK _ ?_; clear hK K) | (refine wx_skipN (by rfl) (by rfl) (by rfl) (fun K hK => ?_); go_simp; refine hK _ ?_; clear hK K))
                  refine wx_loudU (us := []) (by rfl) (by rfl) (fun S wS hC hS hU => runs_enter (f := 16) (by go_simp <;> rfl) ?_) (fun v hv K hK => ?_)
                  · refine (HVA.out x A5 D.length c5 wS HXV.out (hbz.trans (hC.below.mono hbz.size)) (HD13.out.below hC.below)).mono ?_
                    rintro e w' ⟨rfl, hb⟩
                    exact ⟨_, rfl, rfl, Kept.of_below hb, trivial⟩
                  obtain rfl := hv; (go_simp; refine hK _ ?_; clear hK K)
                  repeat (first | (refine wx_quietU (by rfl) (by rfl) (by rfl) (fun K hK => ?_); go_big_quiet_op; refine hK _ ?_; clear hK K) | (refine wx_quietG (by rfl) (by rfl) (by rfl) (by rfl) (by rfl) (fun K hK => ?_); go_big_quiet_op; refine hK _ ?_; clear hK K) | (refine wx_skipG (by rfl) (by rfl) (by rfl) (fun K hK => ?_); go_simp; refine hK _ ?_; clear hK K) | (refine wx_skipN (by rfl) (by rfl) (by rfl) (fun K hK => ?_); go_simp; refine hK _ ?_; clear hK K))
                  refine wx_nil fun w14 hsat => ?_
                  have hb14 := sat_below hsat
                  clear hsat y0 y1 y2 y3 qv
                  go_wp2_with fail
                  go_light
                  exact ⟨⟨k + 1, by omega, by go_num, hbq.trans (hb14.mono hbq.size)⟩, by simp [intOf]; omega⟩
            · have e0 : (x.head == l.head) = false := by simpa using q0
              have HXV := hid (HX.out fun h => q0 (hord.1 h).1)
              clear HX hord q0
              as_aux_lemma =>
                go_upto_region 13 with fail
                refine wp_region_loud (fun _ => False) [] (fun _ => Fact.none) (by kernel_rfl) (by kernel_rfl) .nil good_nothing sat_none (WX.out ?_)
                repeat (first | (refine wx_quietU (by rfl) (by rfl) (by rfl) (fun K hK => ?_); go_big_quiet_op; refine hK _ ?_; clear hK K) | (refine wx_quietG (by rfl) (by rfl) (by rfl) (by rfl) (by rfl) (fun K hK => ?_); go_big_quiet_op; refine hK _ ?_; clear hK K) | (refine wx_skipG (by rfl) (by rfl) (by rfl) (fun K hK => ?_); go_simp; refine hK _ ?_; clear hK K) | (refine wx_skipN (by rfl) (by rfl) (by rfl) (fun K hK => ?_); go_simp; refine hK _ ?_; clear hK K))
                refine wx_nil fun w13 hsat => ?_
                have hb13 := sat_below hsat
                clear hsat y0 y1 y2 z0 z1 z2
                go_upto_if 121 with fail
                have hbq := hbr.trans (hb13.mono hbr.size)
                have hbz := hbw.trans (hb13.mono hbw.size)
                have c0 : w13.cell? ⟨b, off + k * 4, none⟩ = some (.int .i64 x.head) := (hb13.cell hbl).trans hx0
                have c1 : w13.cell? ⟨b, off + k * 4 + 1, none⟩ = some (.string (S8 x.name)) := (hb13.cell hbl).trans hx1
                have c2 : w13.cell? ⟨b, off + k * 4 + 2, none⟩ = some (.string (S8 x.leaf)) := (hb13.cell hbl).trans hx2
                have c3 : w13.cell? ⟨b, off + k * 4 + 3, none⟩ = some (.string (S8 x.value)) := (hb13.cell hbl).trans hx3
                have hb13l : b < w13.heap.size := Nat.lt_of_lt_of_le hbl hb13.size
                have y0 := fun z : WK (fun _ => False) w13 => (wat_cell (p := ⟨b, off + k * 4, none⟩) hb13l (by simp) z).trans c0
                have y1 := fun z : WK (fun _ => False) w13 => (wat_cell (p := ⟨b, off + k * 4 + 1, none⟩) hb13l (by simp) z).trans c1
                have y2 := fun z : WK (fun _ => False) w13 => (wat_cell (p := ⟨b, off + k * 4 + 2, none⟩) hb13l (by simp) z).trans c2
                have y3 := fun z : WK (fun _ => False) w13 => (wat_cell (p := ⟨b, off + k * 4 + 3, none⟩) hb13l (by simp) z).trans c3
                have HD13 := hid (HD10.out.below hbq)
                have qv : ((S8 x.value).toList == (S8 x.value).toList) = true := by simp
                clear c0 c1 c2 c3 hx0 hx1 hx2 hx3
                go_upto_region 14 with fail
                refine wp_region_loud (fun _ => False) [(16, plainL [] (.string (S8 x.value)))] (fun _ => Fact.none) (by kernel_rfl) (by kernel_rfl) (.cons (plainL_ok _ _) .nil) good_nothing sat_none (WX.out ?_)
                repeat (first | (refine wx_quietU (by rfl) (by rfl) (by rfl) (fun K hK => ?_); go_big_quiet_op; refine hK _ ?_; clear hK K) | (refine wx_quietG (by rfl) (by rfl) (by rfl) (by rfl) (by rfl) (fun K hK => ?_); go_big_quiet_op; refine hK _ ?_; clear hK K) | (refine wx_skipG (by rfl) (by rfl) (by rfl) (fun K hK => ?_); go_simp; refine hK _ ?_; clear hK K) | (refine wx_skipN (by rfl) (by rfl) (by rfl) (fun K hK => ?_); go_simp; refine hK _ ?_; clear hK K))
                refine wx_loudU (us := []) (by rfl) (by rfl) (fun S wS hC hS hU => runs_enter (f := 16) (by go_simp <;> rfl) ?_) (fun v hv K hK => ?_)
                · refine (HVA.out x A5 D.length c5 wS HXV.out (hbz.trans (hC.below.mono hbz.size)) (HD13.out.below hC.below)).mono ?_
                  rintro e w' ⟨rfl, hb⟩
                  exact ⟨_, rfl, rfl, Kept.of_below hb, trivial⟩
                obtain rfl := hv; (go_simp; refine hK _ ?_; clear hK K)
                repeat (first | (refine wx_quietU (by rfl) (by rfl) (by rfl) (fun K hK => ?_); go_big_quiet_op; refine hK _ ?_; clear hK K) | (refine wx_quietG (by rfl) (by rfl) (by rfl) (by rfl) (by rfl) (fun K hK => ?_); go_big_quiet_op; refine hK _ ?_; clear hK K) | (refine wx_skipG (by rfl) (by rfl) (by rfl) (fun K hK => ?_); go_simp; refine hK _ ?_; clear hK K) | (refine wx_skipN (by rfl) (by rfl) (by rfl) (fun K hK => ?_); go_simp; refine hK _ ?_; clear hK K))
                refine wx_nil fun w14 hsat => ?_
                have hb14 := sat_below hsat
                clear hsat y0 y1 y2 y3 qv
                go_wp2_with fail
                go_light
                exact ⟨⟨k + 1, by omega, by go_num, hbq.trans (hb14.mono hbq.size)⟩, by simp [intOf]; omega⟩
          · obtain rfl : k = B.length := by omega
            have p0 : wr.cell? ⟨w.heap.size, 0, none⟩ = some (.int .i64 l.head) := by rw [blkCell hgr 0]; rfl
            have p1 : wr.cell? ⟨w.heap.size, 1, none⟩ = some (.string (S8 l.name)) := by rw [blkCell hgr 1]; rfl
            have p2 : wr.cell? ⟨w.heap.size, 2, none⟩ = some (.string (S8 l.leaf)) := by rw [blkCell hgr 2]; rfl
            have HA := hid (HD1.out A5 D.length c5 wr hbw (HD10.out.below hbr))
            clear HV2 HVA HD1
            as_aux_lemma =>
              go_wp2_with fail
              refine HA.out.mono ?_
              rintro e w11 ⟨⟨A11, c11, rfl, hs11⟩, hb11⟩
              have hbw11 := hbw.trans (hb11.mono hbw.size)
              have hg11 := blk_below hgr hb11 (blk_lt hgr)
              have HB11 := hid (HD2.out A11 F.length c11 w11 hbw11 hs11)
              have p0 : w11.cell? ⟨w.heap.size, 0, none⟩ = some (.int .i64 l.head) := by rw [blkCell hg11 0]; rfl
              have p1 : w11.cell? ⟨w.heap.size, 1, none⟩ = some (.string (S8 l.name)) := by rw [blkCell hg11 1]; rfl
              have p2 : w11.cell? ⟨w.heap.size, 2, none⟩ = some (.string (S8 l.leaf)) := by rw [blkCell hg11 2]; rfl
              clear HA hs11 HD2 hgr hbr
              go_wp2_with fail
              refine HB11.out.mono ?_
              rintro e w12 ⟨⟨A12, c12, rfl, hs12⟩, hb12⟩
              have hbw12 := hbw11.trans (hb12.mono hbw11.size)
              clear HB11 hs12
              generalize D.length = nD at *
              generalize F.length = nF at *
              have hq : wrap64 ((nD : Int) - 1) = (nF : Int) := by unfold wrap64; omega
              go_wp2_with fail
              go_ret
              exact ⟨by simp; omega, hbw12⟩
end CF
end Go.Proofs.YtecfkhgocjbocaaGreatDoor
