/-
  An argument that is a list of Lines (a number and three texts each), as the frame of a row hands it over, its texts bounded by the bulk.
-/
import Derived.Test.YtecfkhgocjbocaaGreatDoorOpenS
import Derived.Test.YtecfkhgocjbocaaGreatDoorRows
import Derived.Test.YtecfkhgocjbocaaGreatDoorCf2
import Derived.OpenShut
import Derived.ChangeSlices
namespace Go.Proofs.YtecfkhgocjbocaaGreatDoor
set_option linter.unusedVariables false
set_option linter.unusedSimpArgs false
open Go Go.RowKit Go.ChangeShapes Go.WideShapes Go.Deep

namespace CF
theorem bulk_pos {H : Type} (d : DataW H) : 1 ≤ Rows.uptoBulk d := by
  cases d with
  | lit l => cases l <;> simp [Rows.uptoBulk]
  | _ => simp [Rows.uptoBulk]
theorem bulk_part {H : Type} {d : DataW H} {l : List (DataW H)} (h : d ∈ l) : Rows.uptoBulk d ≤ Rows.uptoBulkAll l := by
  induction l with
  | nil => cases h
  | cons x r ih =>
    simp only [Rows.uptoBulkAll]
    cases List.mem_cons.1 h with
    | inl e => subst e; omega
    | inr e => have := ih e; omega
theorem bulk_slice {H : Type} (elems spare : List (DataW H)) : Rows.uptoBulkAll elems + 1 ≤ Rows.uptoBulk (.slice elems spare) := by
  simp only [Rows.uptoBulk]
  omega
theorem bulk_agg {H : Type} (elems : List (DataW H)) : Rows.uptoBulkAll elems ≤ Rows.uptoBulk (.agg elems) := by
  simp only [Rows.uptoBulk]
  omega
theorem bulk_string {H : Type} (bytes : List UInt8) : bytes.length ≤ Rows.uptoBulk (DataW.lit (H := H) (.string bytes)) := by
  simp [Rows.uptoBulk]
theorem bulk_small {H : Type} {l : List (DataW H)} (hk : Rows.uptoSmall H l = true) : Rows.uptoBulkAll l ≤ 1048576 := by
  simpa [Rows.uptoSmall] using hk
theorem sl_nilL (w : World) : Sl w 4 (.slice none 0 0) (LNS []) := ⟨none, 0, 0, rfl, rfl, by omega, by decide, fun h => by omega⟩
/-- the text in a cell -/
def cellStr (w : World) (a : Addr) : List UInt8 := match w.cell? a with | some (.string s) => s.data.toList | _ => []
section
variable {H : Type} {enc : TypeId × Value → H} {w : World} {base : Nat} {held : Bool}
theorem open_lines {P : Program} {r : Reach} {b0 : Nat} {t e : TypeId} {f0 f1 f2 f3 : Field} {v : Value} {d : DataW H} {p : List MemPlace} (ht : P.underlying t = some (.slice e)) (he : P.underlying e = some (.struct #[f0, f1, f2, f3]))
    (hone : oneCellFields P #[f0, f1, f2, f3] = true) (hC : P.cellsOf e = 4) (u0 : P.underlying f0.type = some (.int .i64)) (u1 : P.underlying f1.type = some .string) (u2 : P.underlying f2.type = some .string) (u3 : P.underlying f3.type = some .string)
    (hv : Value.okWide P w r b0 t v) (h : DataW.Trod enc P w base (fun _ => true) held t v d p) (hk : Rows.uptoBulk d ≤ 1048576) :
    ∃ (A : Option Addr) (n c : Nat) (L : List Ln), v = .slice A n c ∧ Sl w 4 (.slice A n c) (LNS L) ∧ (∀ l ∈ L, LnOk l) ∧ (∀ l ∈ L, -9223372036854775808 ≤ l.head ∧ l.head ≤ 9223372036854775807) := by
  obtain ⟨a0, n0, c0, rfl⟩ := okWide_slice ht hv
  obtain ⟨fuel, hf⟩ := h
  rcases open_slice_fields ht he hone hC hf with ⟨e0, _⟩ | ⟨a, len, cap, m, D, Pl, e0, hb, hl, hm, hmm, hx, hi⟩
  · simp [Value.cells] at e0
    obtain ⟨rfl, rfl, rfl⟩ := e0
    exact ⟨none, 0, 0, [], rfl, sl_nilL w, by simp, by simp⟩
  · simp [Value.cells] at e0
    obtain ⟨rfl, rfl, rfl⟩ := e0
    simp only [if_true] at hmm
    subst hmm
    have hd : d = .slice ((List.range n0).map D) ((List.range (m - n0)).map fun j => D (n0 + j)) := by
      simp only [Prod.mk.injEq] at hx
      exact hx.1
    have hi' : ∀ i, i < n0 → ∃ (z : Int) (s1 s2 s3 : ByteArray), w.cell? (a.add (i * 4 + 0)) = some (.int .i64 z) ∧ w.cell? (a.add (i * 4 + 1)) = some (.string s1) ∧ w.cell? (a.add (i * 4 + 2)) = some (.string s2) ∧ w.cell? (a.add (i * 4 + 3)) = some (.string s3) ∧
        (-9223372036854775808 ≤ z ∧ z ≤ 9223372036854775807) ∧ s1.data.toList.length ≤ 2000000 ∧ s2.data.toList.length ≤ 2000000 ∧ s3.data.toList.length ≤ 2000000 := by
      intro i him
      obtain ⟨ys, n, hD, _, _, hf⟩ := hi i (by omega)
      obtain ⟨v0, y0, c0, g0, t0⟩ := hf 0 f0 rfl
      obtain ⟨v1, y1, c1, g1, t1⟩ := hf 1 f1 rfl
      obtain ⟨v2, y2, c2, g2, t2⟩ := hf 2 f2 rfl
      obtain ⟨v3, y3, c3, g3, t3⟩ := hf 3 f3 rfl
      obtain ⟨z0, e0, _, b0⟩ := DataW.trod_int u0 t0
      obtain ⟨s1, e1, x1, _⟩ := DataW.trod_string u1 t1
      obtain ⟨s2, e2, x2, _⟩ := DataW.trod_string u2 t2
      obtain ⟨s3, e3, x3, _⟩ := DataW.trod_string u3 t3
      injection e0 with e0; injection e1 with e1; injection e2 with e2; injection e3 with e3
      subst e0; subst e1; subst e2; subst e3
      have hDm : Rows.uptoBulk (D i) ≤ 1048576 := by
        have q1 : D i ∈ (List.range n0).map D := List.mem_map.2 ⟨i, List.mem_range.2 him, rfl⟩
        have q2 := bulk_part q1
        have q3 := bulk_slice ((List.range n0).map D) ((List.range (m - n0)).map fun j => D (n0 + j))
        rw [← hd] at q3
        omega
      have hone : ∀ (j : Nat) (y : DataW H × List MemPlace) (s : ByteArray), ys[j]? = some y → y = (.lit (.string s.data.toList), []) → s.data.toList.length ≤ 2000000 := by
        intro j y s hy hs
        have q1 : y.1 ∈ ys.map (·.1) := List.mem_map.2 ⟨y, List.mem_of_getElem? hy, rfl⟩
        have q2 := bulk_part q1
        have q3 := bulk_agg (ys.map (·.1))
        rw [← hD] at q3
        rw [hs] at q2
        have q4 := bulk_string (H := H) s.data.toList
        have q5 : Rows.uptoBulk (DataW.lit (H := H) (.string s.data.toList)) ≤ 1048576 := by
          have : Rows.uptoBulk (DataW.lit (H := H) (.string s.data.toList)) ≤ Rows.uptoBulkAll (ys.map (·.1)) := q2
          omega
        omega
      exact ⟨z0, s1, s2, s3, c0, c1, c2, c3, i64_bd b0, hone 1 y1 s1 g1 x1, hone 2 y2 s2 g2 x2, hone 3 y3 s3 g3 x3⟩
    let lk : Nat → Ln := fun i => ⟨cellInt w (a.add (i * 4 + 0)), cellStr w (a.add (i * 4 + 1)), cellStr w (a.add (i * 4 + 2)), cellStr w (a.add (i * 4 + 3))⟩
    have hlk : ∀ i, i < n0 → (LnOk (lk i) ∧ (-9223372036854775808 ≤ (lk i).head ∧ (lk i).head ≤ 9223372036854775807)) ∧ ∀ j, j < 4 → w.cell? (a.add (i * 4 + j)) = (lnC (lk i))[j]? := by
      intro i him
      obtain ⟨z, s1, s2, s3, c0, c1, c2, c3, bz, b1, b2, b3⟩ := hi' i him
      have e : lk i = ⟨z, s1.data.toList, s2.data.toList, s3.data.toList⟩ := by simp only [lk, cellInt, cellStr, c0, c1, c2, c3]
      rw [e]
      refine ⟨⟨⟨b1, b2, b3⟩, bz⟩, fun j hj => ?_⟩
      match j, hj with
      | 0, _ => rw [c0]; rfl
      | 1, _ => rw [c1]; rfl
      | 2, _ => rw [c2]; rfl
      | 3, _ => rw [c3]; rfl
    refine ⟨some a, n0, m, (List.range n0).map lk, rfl, ?_, ?_, ?_⟩
    · refine ⟨some a, n0, m, rfl, by rw [LNS_length]; simp, hl, hm, fun hn => ?_⟩
      obtain ⟨b, off, spot⟩ := a
      obtain ⟨z, _, _, _, c0, _⟩ := hi' 0 (by omega)
      have hspot : spot = none := by simpa [Addr.add] using World.cell?_spot c0
      subst hspot
      have hbl : b < w.heap.size := by
        have := World.block_lt_of_cell? w _ c0
        rw [addr_add] at this
        exact this
      refine ⟨b, off, rfl, hbl, fun i hi2 => ?_⟩
      have h1 := (hlk (i / 4) (by omega)).2 (i % 4) (by omega)
      rw [addr_add, show i / 4 * 4 + i % 4 = i by omega] at h1
      rw [h1]
      have h2 := LNS_get ((List.range n0).map lk) (i / 4) (by simp; omega) (i % 4) (by omega)
      rw [show i / 4 * 4 + i % 4 = i by omega] at h2
      rw [h2]
      congr 2
      rw [lnAt_get _ _ (by simp; omega)]
      simp
    · intro y hy
      obtain ⟨i, hi2, rfl⟩ := List.mem_map.1 hy
      exact (hlk i (List.mem_range.1 hi2)).1.1
    · intro y hy
      obtain ⟨i, hi2, rfl⟩ := List.mem_map.1 hy
      exact (hlk i (List.mem_range.1 hi2)).1.2
end
section
variable {H : Type} {enc : TypeId × Value → H} {P : Program} {w : World} {base : Nat} {spare : Nat → Bool} {held : Bool}
theorem open_two {r : Reach} {b0 : Nat} {t e : TypeId} {v : Value} {d : DataW H} {p : List MemPlace} (hu : P.underlying t = some (.array 2 e)) (he : P.underlying e = some (.int .i64)) (hC : P.cellsOf t = 2) (hE : P.cellsOf e = 1)
    (hv : Value.okWide P w r b0 t v) (h : DataW.Trod enc P w base spare held t v d p) : ∃ x y : Int, v = .agg #[.int .i64 x, .int .i64 y] := by
  simp only [Value.okWide, hu] at hv
  obtain ⟨cs, rfl, h2, _⟩ := hv
  rw [hC] at h2
  obtain ⟨a, b, rfl⟩ : ∃ a b, cs = #[a, b] := by
    obtain ⟨l⟩ := cs
    match l, h2 with
    | [a, b], _ => exact ⟨a, b, rfl⟩
  obtain ⟨fuel, hf⟩ := h
  cases fuel with
  | zero => simp [DataW.trod] at hf
  | succ m =>
    rw [DataW.trod_step] at hf
    unfold DataW.trodStep at hf
    simp only [hu, Value.cells] at hf
    rw [if_pos (by rw [hC]; rfl)] at hf
    simp only [Option.map_eq_some_iff, hE] at hf
    obtain ⟨ys, hy, _⟩ := hf
    rw [show List.range 2 = [0, 1] from rfl, List.mapM_cons] at hy
    simp only [bind, Option.bind_eq_some_iff, pure, Option.some.injEq] at hy
    obtain ⟨y, hy1, ys', hys, rfl⟩ := hy
    rw [List.mapM_cons] at hys
    simp only [bind, Option.bind_eq_some_iff, pure, Option.some.injEq] at hys
    obtain ⟨y', hy2, _⟩ := hys
    obtain ⟨x, ex, _, _⟩ := DataW.trod_int he hy1
    obtain ⟨z, ez, _, _⟩ := DataW.trod_int he hy2
    simp at ex ez
    subst ex; subst ez
    exact ⟨x, z, rfl⟩
end
end CF
end Go.Proofs.YtecfkhgocjbocaaGreatDoor
