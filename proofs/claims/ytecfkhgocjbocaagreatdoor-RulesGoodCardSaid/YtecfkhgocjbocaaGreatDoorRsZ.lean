/-
  A slice of structs among the arguments, cell by cell. (open_slice_fields: a lemma that the guide offers to copy.)
  An argument that is a list of Lines (a number and three texts each), as the frame of a row hands it over, its texts bounded by the bulk.
  Contract of package conf: what Delete asks of a line; the first line that it takes.
  Plain law of layer 5: what a set, a value and a deletion tell of one another.
  Contract of layer 5's reference: Value.
  Layer 5 (plain): the reference's text of a configuration is the program's.
  Layer 8 (plain): sorting by halves, as far as lists tell it: what rotations, merges and insertions leave.
  Layer 8 (plain): blocks of a row that are sorted, and merged.
  Layer 8: faults in memory: rows of two cells each.
  Layer 8: sorting faults in place: two of them change places; a range changes places with another one.
  Layer 8: which of two faults is ahead: the order that is handed to the sort.
  Layer 8: sorting faults in place: two runs change places.
  Layer 8: sorting faults in place: insertion.
  Layer 8: sorting faults in place: a merge where one of both runs is a single fault.
  Layer 8: sorting faults in place: a merge of two runs.
  Layer 8: sorting faults in place: the whole sort.
  Layer 8: the merge of two sorted runs of faults, of whatever lengths.
-/
import Derived.Test.YtecfkhgocjbocaaGreatDoorBase
import Derived.Deep.Slices
import Derived.Deep.Fields
import Derived.ChangeSame
import Derived.SizedLaws
import Derived.Test.YtecfkhgocjbocaaGreatDoorRows
import Derived.Test.YtecfkhgocjbocaaGreatDoorCf2
import Derived.OpenShut
import Derived.ChangeSlices
import Derived.Test.YtecfkhgocjbocaaGreatDoorCzA
import Derived.Test.YtecfkhgocjbocaaGreatDoorCfM
import Derived.Test.YtecfkhgocjbocaaGreatDoorCf6
namespace Go.Proofs.YtecfkhgocjbocaaGreatDoor
set_option linter.unusedVariables false
set_option linter.unusedSimpArgs false
open Go Go.RowKit Go.ChangeShapes Go.WideShapes Go.Deep

section
variable {H : Type} {enc : TypeId × Value → H} {P : Program} {w : World} {base : Nat} {spare : Nat → Bool} {held : Bool}
theorem open_slice_fields {t e : TypeId} {fs : Array Field} {fuel : Nat} {cs : List Value} {x : DataW H × List MemPlace} (ht : P.underlying t = some (.slice e)) (he : P.underlying e = some (.struct fs))
    (hone : oneCellFields P fs = true) (hC : P.cellsOf e = fs.size) (h : DataW.trod enc P w base spare held fuel t cs = some x) :
    (cs = [.slice none 0 0] ∧ x = (.nil, [])) ∨
    ∃ (a : Addr) (len cap m : Nat) (D : Nat → DataW H) (Pl : Nat → List MemPlace), cs = [.slice (some a) len cap] ∧ base ≤ a.block ∧ len ≤ cap ∧ cap ≤ maxLen ∧ m = (if spare a.block then cap else len) ∧
      x = (.slice ((List.range len).map D) ((List.range (m - len)).map fun j => D (len + j)), MemPlace.row a (m * fs.size) ++ (List.range m).flatMap Pl) ∧
      ∀ i, i < m → ∃ (ys : List (DataW H × List MemPlace)) (n : Nat), D i = .agg (ys.map (·.1)) ∧ Pl i = ys.flatMap (·.2) ∧ ys.length = fs.size ∧
        ∀ (j : Nat) (f : Field), fs[j]? = some f → ∃ (v : Value) (y : DataW H × List MemPlace), w.cell? (a.add (i * fs.size + j)) = some v ∧ ys[j]? = some y ∧ DataW.trod enc P w base spare held n f.type [v] = some y := by
  rcases open_slice ht h with h0 | ⟨a, len, cap, m, n, D, Pl, hcs, hb, hl, hm, hmm, hx, hi⟩
  · exact .inl h0
  · refine .inr ⟨a, len, cap, m, D, Pl, hcs, hb, hl, hm, hmm, by rw [hC] at hx; exact hx, fun i him => ?_⟩
    obtain ⟨cs', hc, ht'⟩ := hi i him
    rw [hC] at hc
    obtain ⟨ys, n', hn', hy, hlen, hyl, hf⟩ := DataW.trod_struct he ht'
    obtain ⟨_, hcl, hat⟩ := World.cells?_some hc
    simp only [Prod.mk.injEq] at hy
    refine ⟨ys, n', hy.1, hy.2, hyl, fun j f hj => ?_⟩
    obtain ⟨ho, hk⟩ := hone_of hone j f hj
    have hjl : j < fs.size := (Array.getElem?_eq_some_iff.1 hj).1
    have hcell := hat j hjl
    have hv : cs'[j]? = some (cs'[j]'(by omega)) := List.getElem?_eq_getElem (by omega)
    have h1 := hf j f hj
    rw [ho, hk] at h1
    have hone' : (cs'.drop j).take 1 = [cs'[j]'(by omega)] := by
      rw [List.drop_eq_getElem_cons (by omega)]
      rfl
    rw [hone'] at h1
    have hys : ys[j]? = some (ys[j]'(by omega)) := List.getElem?_eq_getElem (by omega)
    refine ⟨_, _, ?_, hys, h1.trans hys⟩
    rw [← Go.Deep.add_add, hcell, hv]
end

/-- the number in a cell -/
def cellInt (w : World) (a : Addr) : Int := match w.cell? a with | some (.int _ z) => z | _ => 0
theorem wf_bd {k : IntKind} {z : Int} (h : (Lit.int k z).wf = true) : k.min ≤ z ∧ z ≤ k.max := by simpa [Lit.wf] using h
theorem u32_bd {z : Int} (h : (Lit.int .u32 z).wf = true) : 0 ≤ z ∧ z < 4294967296 := by
  have := wf_bd h
  simp [IntKind.min, IntKind.max, IntKind.bits, IntKind.signed] at this
  omega
theorem i64_bd {z : Int} (h : (Lit.int .i64 z).wf = true) : -9223372036854775808 ≤ z ∧ z ≤ 9223372036854775807 := wf_i64_bd h
end Go.Proofs.YtecfkhgocjbocaaGreatDoor
namespace Go.Proofs.YtecfkhgocjbocaaGreatDoor
set_option linter.unusedVariables false
set_option linter.unusedSimpArgs false
open Go Go.RowKit Go.ChangeShapes Go.WideShapes Go.Deep

namespace CF
theorem bulk_pos {H : Type} (d : DataW H) : 1 ≤ Rows.uptoBulk d := by
  cases d with
  | lit l => cases l <;> simp [Rows.uptoBulk]
  | _ => simp [Rows.uptoBulk]
theorem bulk_part {H : Type} {d : DataW H} {l : List (DataW H)} (h : d ∈ l) : Rows.uptoBulk d ≤ Rows.uptoBulkAll l := by
  induction l with
  | nil => cases h
  | cons x r ih =>
    simp only [Rows.uptoBulkAll]
    cases List.mem_cons.1 h with
    | inl e => subst e; omega
    | inr e => have := ih e; omega
theorem bulk_slice {H : Type} (elems spare : List (DataW H)) : Rows.uptoBulkAll elems + 1 ≤ Rows.uptoBulk (.slice elems spare) := by
  simp only [Rows.uptoBulk]
  omega
theorem bulk_agg {H : Type} (elems : List (DataW H)) : Rows.uptoBulkAll elems ≤ Rows.uptoBulk (.agg elems) := by
  simp only [Rows.uptoBulk]
  omega
theorem bulk_string {H : Type} (bytes : List UInt8) : bytes.length ≤ Rows.uptoBulk (DataW.lit (H := H) (.string bytes)) := by
  simp [Rows.uptoBulk]
theorem bulk_small {H : Type} {l : List (DataW H)} (hk : Rows.uptoSmall H l = true) : Rows.uptoBulkAll l ≤ 1048576 := by
  simpa [Rows.uptoSmall] using hk
theorem sl_nilL (w : World) : Sl w 4 (.slice none 0 0) (LNS []) := ⟨none, 0, 0, rfl, rfl, by omega, by decide, fun h => by omega⟩
/-- the text in a cell -/
def cellStr (w : World) (a : Addr) : List UInt8 := match w.cell? a with | some (.string s) => s.data.toList | _ => []
section
variable {H : Type} {enc : TypeId × Value → H} {w : World} {base : Nat} {held : Bool}
theorem open_lines {P : Program} {r : Reach} {b0 : Nat} {t e : TypeId} {f0 f1 f2 f3 : Field} {v : Value} {d : DataW H} {p : List MemPlace} (ht : P.underlying t = some (.slice e)) (he : P.underlying e = some (.struct #[f0, f1, f2, f3]))
    (hone : oneCellFields P #[f0, f1, f2, f3] = true) (hC : P.cellsOf e = 4) (u0 : P.underlying f0.type = some (.int .i64)) (u1 : P.underlying f1.type = some .string) (u2 : P.underlying f2.type = some .string) (u3 : P.underlying f3.type = some .string)
    (hv : Value.okWide P w r b0 t v) (h : DataW.Trod enc P w base (fun _ => true) held t v d p) (hk : Rows.uptoBulk d ≤ 1048576) :
    ∃ (A : Option Addr) (n c : Nat) (L : List Ln), v = .slice A n c ∧ Sl w 4 (.slice A n c) (LNS L) ∧ (∀ l ∈ L, LnOk l) ∧ (∀ l ∈ L, -9223372036854775808 ≤ l.head ∧ l.head ≤ 9223372036854775807) := by
  obtain ⟨a0, n0, c0, rfl⟩ := okWide_slice ht hv
  obtain ⟨fuel, hf⟩ := h
  rcases open_slice_fields ht he hone hC hf with ⟨e0, _⟩ | ⟨a, len, cap, m, D, Pl, e0, hb, hl, hm, hmm, hx, hi⟩
  · simp [Value.cells] at e0
    obtain ⟨rfl, rfl, rfl⟩ := e0
    exact ⟨none, 0, 0, [], rfl, sl_nilL w, by simp, by simp⟩
  · simp [Value.cells] at e0
    obtain ⟨rfl, rfl, rfl⟩ := e0
    simp only [if_true] at hmm
    subst hmm
    have hd : d = .slice ((List.range n0).map D) ((List.range (m - n0)).map fun j => D (n0 + j)) := by
      simp only [Prod.mk.injEq] at hx
      exact hx.1
    have hi' : ∀ i, i < n0 → ∃ (z : Int) (s1 s2 s3 : ByteArray), w.cell? (a.add (i * 4 + 0)) = some (.int .i64 z) ∧ w.cell? (a.add (i * 4 + 1)) = some (.string s1) ∧ w.cell? (a.add (i * 4 + 2)) = some (.string s2) ∧ w.cell? (a.add (i * 4 + 3)) = some (.string s3) ∧
        (-9223372036854775808 ≤ z ∧ z ≤ 9223372036854775807) ∧ s1.data.toList.length ≤ 2000000 ∧ s2.data.toList.length ≤ 2000000 ∧ s3.data.toList.length ≤ 2000000 := by
      intro i him
      obtain ⟨ys, n, hD, _, _, hf⟩ := hi i (by omega)
      obtain ⟨v0, y0, c0, g0, t0⟩ := hf 0 f0 rfl
      obtain ⟨v1, y1, c1, g1, t1⟩ := hf 1 f1 rfl
      obtain ⟨v2, y2, c2, g2, t2⟩ := hf 2 f2 rfl
      obtain ⟨v3, y3, c3, g3, t3⟩ := hf 3 f3 rfl
      obtain ⟨z0, e0, _, b0⟩ := DataW.trod_int u0 t0
      obtain ⟨s1, e1, x1, _⟩ := DataW.trod_string u1 t1
      obtain ⟨s2, e2, x2, _⟩ := DataW.trod_string u2 t2
      obtain ⟨s3, e3, x3, _⟩ := DataW.trod_string u3 t3
      injection e0 with e0; injection e1 with e1; injection e2 with e2; injection e3 with e3
      subst e0; subst e1; subst e2; subst e3
      have hDm : Rows.uptoBulk (D i) ≤ 1048576 := by
        have q1 : D i ∈ (List.range n0).map D := List.mem_map.2 ⟨i, List.mem_range.2 him, rfl⟩
        have q2 := bulk_part q1
        have q3 := bulk_slice ((List.range n0).map D) ((List.range (m - n0)).map fun j => D (n0 + j))
        rw [← hd] at q3
        omega
      have hone : ∀ (j : Nat) (y : DataW H × List MemPlace) (s : ByteArray), ys[j]? = some y → y = (.lit (.string s.data.toList), []) → s.data.toList.length ≤ 2000000 := by
        intro j y s hy hs
        have q1 : y.1 ∈ ys.map (·.1) := List.mem_map.2 ⟨y, List.mem_of_getElem? hy, rfl⟩
        have q2 := bulk_part q1
        have q3 := bulk_agg (ys.map (·.1))
        rw [← hD] at q3
        rw [hs] at q2
        have q4 := bulk_string (H := H) s.data.toList
        have q5 : Rows.uptoBulk (DataW.lit (H := H) (.string s.data.toList)) ≤ 1048576 := by
          have : Rows.uptoBulk (DataW.lit (H := H) (.string s.data.toList)) ≤ Rows.uptoBulkAll (ys.map (·.1)) := q2
          omega
        omega
      exact ⟨z0, s1, s2, s3, c0, c1, c2, c3, i64_bd b0, hone 1 y1 s1 g1 x1, hone 2 y2 s2 g2 x2, hone 3 y3 s3 g3 x3⟩
    let lk : Nat → Ln := fun i => ⟨cellInt w (a.add (i * 4 + 0)), cellStr w (a.add (i * 4 + 1)), cellStr w (a.add (i * 4 + 2)), cellStr w (a.add (i * 4 + 3))⟩
    have hlk : ∀ i, i < n0 → (LnOk (lk i) ∧ (-9223372036854775808 ≤ (lk i).head ∧ (lk i).head ≤ 9223372036854775807)) ∧ ∀ j, j < 4 → w.cell? (a.add (i * 4 + j)) = (lnC (lk i))[j]? := by
      intro i him
      obtain ⟨z, s1, s2, s3, c0, c1, c2, c3, bz, b1, b2, b3⟩ := hi' i him
      have e : lk i = ⟨z, s1.data.toList, s2.data.toList, s3.data.toList⟩ := by simp only [lk, cellInt, cellStr, c0, c1, c2, c3]
      rw [e]
      refine ⟨⟨⟨b1, b2, b3⟩, bz⟩, fun j hj => ?_⟩
      match j, hj with
      | 0, _ => rw [c0]; rfl
      | 1, _ => rw [c1]; rfl
      | 2, _ => rw [c2]; rfl
      | 3, _ => rw [c3]; rfl
    refine ⟨some a, n0, m, (List.range n0).map lk, rfl, ?_, ?_, ?_⟩
    · refine ⟨some a, n0, m, rfl, by rw [LNS_length]; simp, hl, hm, fun hn => ?_⟩
      obtain ⟨b, off, spot⟩ := a
      obtain ⟨z, _, _, _, c0, _⟩ := hi' 0 (by omega)
      have hspot : spot = none := by simpa [Addr.add] using World.cell?_spot c0
      subst hspot
      have hbl : b < w.heap.size := by
        have := World.block_lt_of_cell? w _ c0
        rw [addr_add] at this
        exact this
      refine ⟨b, off, rfl, hbl, fun i hi2 => ?_⟩
      have h1 := (hlk (i / 4) (by omega)).2 (i % 4) (by omega)
      rw [addr_add, show i / 4 * 4 + i % 4 = i by omega] at h1
      rw [h1]
      have h2 := LNS_get ((List.range n0).map lk) (i / 4) (by simp; omega) (i % 4) (by omega)
      rw [show i / 4 * 4 + i % 4 = i by omega] at h2
      rw [h2]
      congr 2
      rw [lnAt_get _ _ (by simp; omega)]
      simp
    · intro y hy
      obtain ⟨i, hi2, rfl⟩ := List.mem_map.1 hy
      exact (hlk i (List.mem_range.1 hi2)).1.1
    · intro y hy
      obtain ⟨i, hi2, rfl⟩ := List.mem_map.1 hy
      exact (hlk i (List.mem_range.1 hi2)).1.2
end
section
variable {H : Type} {enc : TypeId × Value → H} {P : Program} {w : World} {base : Nat} {spare : Nat → Bool} {held : Bool}
theorem open_two {r : Reach} {b0 : Nat} {t e : TypeId} {v : Value} {d : DataW H} {p : List MemPlace} (hu : P.underlying t = some (.array 2 e)) (he : P.underlying e = some (.int .i64)) (hC : P.cellsOf t = 2) (hE : P.cellsOf e = 1)
    (hv : Value.okWide P w r b0 t v) (h : DataW.Trod enc P w base spare held t v d p) : ∃ x y : Int, v = .agg #[.int .i64 x, .int .i64 y] := by
  simp only [Value.okWide, hu] at hv
  obtain ⟨cs, rfl, h2, _⟩ := hv
  rw [hC] at h2
  obtain ⟨a, b, rfl⟩ : ∃ a b, cs = #[a, b] := by
    obtain ⟨l⟩ := cs
    match l, h2 with
    | [a, b], _ => exact ⟨a, b, rfl⟩
  obtain ⟨fuel, hf⟩ := h
  cases fuel with
  | zero => simp [DataW.trod] at hf
  | succ m =>
    rw [DataW.trod_step] at hf
    unfold DataW.trodStep at hf
    simp only [hu, Value.cells] at hf
    rw [if_pos (by rw [hC]; rfl)] at hf
    simp only [Option.map_eq_some_iff, hE] at hf
    obtain ⟨ys, hy, _⟩ := hf
    rw [show List.range 2 = [0, 1] from rfl, List.mapM_cons] at hy
    simp only [bind, Option.bind_eq_some_iff, pure, Option.some.injEq] at hy
    obtain ⟨y, hy1, ys', hys, rfl⟩ := hy
    rw [List.mapM_cons] at hys
    simp only [bind, Option.bind_eq_some_iff, pure, Option.some.injEq] at hys
    obtain ⟨y', hy2, _⟩ := hys
    obtain ⟨x, ex, _, _⟩ := DataW.trod_int he hy1
    obtain ⟨z, ez, _, _⟩ := DataW.trod_int he hy2
    simp at ex ez
    subst ex; subst ez
    exact ⟨x, z, rfl⟩
end
end CF
end Go.Proofs.YtecfkhgocjbocaaGreatDoor
namespace Go.Proofs.YtecfkhgocjbocaaGreatDoor
set_option linter.unusedVariables false
set_option linter.unusedSimpArgs false
open Go Go.RowKit

namespace CF
/-- what is sought, in its three boxes -/
def Sought (w : World) (g1 g2 g3 : Nat) (h : Int) (nm lf : List UInt8) : Prop :=
  w.heap[g1]? = some (.cells #[.int .i64 h] 3 (0, 0)) ∧ w.heap[g2]? = some (.cells #[.string (S8 nm)] 9 (0, 0)) ∧ w.heap[g3]? = some (.cells #[.string (S8 lf)] 9 (0, 0))
theorem Sought.below {w w' : World} {g1 g2 g3 : Nat} {h : Int} {nm lf : List UInt8} (hs : Sought w g1 g2 g3 h nm lf) (hb : Below w.heap.size w w') : Sought w' g1 g2 g3 h nm lf :=
  ⟨blk_below hs.1 hb (blk_lt hs.1), blk_below hs.2.1 hb (blk_lt hs.2.1), blk_below hs.2.2 hb (blk_lt hs.2.2)⟩
theorem Sought.lt {w : World} {g1 g2 g3 : Nat} {h : Int} {nm lf : List UInt8} (hs : Sought w g1 g2 g3 h nm lf) : g1 < w.heap.size ∧ g2 < w.heap.size ∧ g3 < w.heap.size := ⟨blk_lt hs.1, blk_lt hs.2.1, blk_lt hs.2.2⟩
theorem Sought.low {w w' : World} {B g1 g2 g3 : Nat} {h : Int} {nm lf : List UInt8} (hs : Sought w g1 g2 g3 h nm lf) (hb : Below B w w') (h1 : g1 < B ∧ g2 < B ∧ g3 < B) : Sought w' g1 g2 g3 h nm lf :=
  ⟨blk_below hs.1 hb h1.1, blk_below hs.2.1 hb h1.2.1, blk_below hs.2.2 hb h1.2.2⟩
abbrev FnD (g1 g2 g3 : Nat) : Value := .func (.func 59) #[] #[.pointer (some ⟨g1, 0, none⟩), .pointer (some ⟨g2, 0, none⟩), .pointer (some ⟨g3, 0, none⟩)]
theorem tl_eq (a b : List UInt8) : ((S8 a).toList == (S8 b).toList) = decide (a = b) := by rw [Bool.eq_iff_iff, s8_inj, decide_eq_true_iff]
theorem tl_emp (a : List UInt8) : (S8 a).toList.isEmpty = decide (a = []) := by
  rw [show (S8 a).toList = a from Lib.toList_data _]
  cases a <;> simp
theorem hits_and (h : Int) (nm lf : List UInt8) (x : Ln) : hits h nm lf x = (decide (x.head = h) && (decide (x.name = nm) && (decide (lf = []) || decide (x.leaf = lf)))) := rfl
set_option maxRecDepth 100000 in
set_option maxHeartbeats 1600000 in
theorem hit_any (x : Ln) (h : Int) (nm lf : List UInt8) (g1 g2 g3 : Nat) (w : World) (hs : Sought w g1 g2 g3 h nm lf) :
    Calls Tryz.prog 59 #[.agg (lnV x), .pointer (some ⟨g1, 0, none⟩), .pointer (some ⟨g2, 0, none⟩), .pointer (some ⟨g3, 0, none⟩)] w fun e w' => e = .returned (.bool (hits h nm lf x)) ∧ Below w.heap.size w w' := by
  obtain ⟨hb, hg, hl⟩ := box1 w (.cells (lnV x) 29)
  have hs1 := hs.below hb
  have HH := hid (hits_and h nm lf x)
  have e2 := tl_eq x.name nm
  have e3 := tl_emp lf
  have e4 := tl_eq x.leaf lf
  obtain ⟨head, name, leaf, value⟩ := x
  simp only at HH e2 e4
  go_enter Tryz.func59, Tryz.ntmps59
  go_upto_region 1 with fail
  generalize w.alloc (.cells (lnV ⟨head, name, leaf, value⟩) 29) = w1 at *
  have q0 : w1.cell? ⟨w.heap.size, 0, none⟩ = some (.int .i64 head) := by rw [blkCell hg 0]; rfl
  have q1 : w1.cell? ⟨w.heap.size, 1, none⟩ = some (.string (S8 name)) := by rw [blkCell hg 1]; rfl
  have q2 : w1.cell? ⟨w.heap.size, 2, none⟩ = some (.string (S8 leaf)) := by rw [blkCell hg 2]; rfl
  have p1 : w1.cell? ⟨g1, 0, none⟩ = some (.int .i64 h) := by rw [blkCell hs1.1 0]; rfl
  have p2 : w1.cell? ⟨g2, 0, none⟩ = some (.string (S8 nm)) := by rw [blkCell hs1.2.1 0]; rfl
  have p3 : w1.cell? ⟨g3, 0, none⟩ = some (.string (S8 lf)) := by rw [blkCell hs1.2.2 0]; rfl
  clear hg hs hs1 hl
  generalize decide (name = nm) = b2 at *
  generalize decide (lf = []) = b3 at *
  generalize decide (leaf = lf) = b4 at *
  generalize S8 name = t1 at *
  generalize S8 leaf = t2 at *
  generalize S8 nm = t3 at *
  generalize S8 lf = t4 at *
  by_cases e1 : head = h
  · subst e1
    have HR : Hid (hits head nm lf ⟨head, name, leaf, value⟩ = (b2 && (b3 || b4))) := by show _ = _; rw [HH.out]; simp
    clear HH
    cases b2 <;> cases b3 <;> cases b4
    all_goals
      go_wp2_with fail
      go_ret
      exact ⟨by rw [HR.out]; rfl, hb⟩
  · have HR : Hid (hits h nm lf ⟨head, name, leaf, value⟩ = false) := by show _ = _; rw [HH.out, decide_eq_false e1]; rfl
    clear HH
    have e1' : ((head : Int) == h) = false := by simpa using e1
    go_wp2_with fail
    go_ret
    exact ⟨by rw [HR.out]; rfl, hb⟩
/-- the first line that is taken, or none -/
def FirstHit (C : List Ln) (h : Int) (nm lf : List UInt8) (n : Nat) (r : Int) : Prop :=
  (∃ i : Nat, i < n ∧ r = (i : Int) ∧ (∀ j < i, hits h nm lf (lnAt C j) = false) ∧ hits h nm lf (lnAt C i) = true) ∨ (r = -1 ∧ ∀ j < n, hits h nm lf (lnAt C j) = false)
set_option maxRecDepth 100000 in
set_option maxHeartbeats 1600000 in
theorem index_any (C : List Ln) (h : Int) (nm lf : List UInt8) (g1 g2 g3 : Nat) (A : Option Addr) (n c : Nat) (w : World) (hsl : Sl w 4 (.slice A n c) (LNS C)) (hs : Sought w g1 g2 g3 h nm lf) :
    Calls Tryz.prog 90 #[.slice A n c, FnD g1 g2 g3] w fun e w' => (∃ r, e = .returned (.int .i64 r) ∧ FirstHit C h nm lf n r) ∧ Below w.heap.size w w' := by
  obtain ⟨hl1, hl2, hl3⟩ := sl_lns hsl
  have HSL := hid hsl
  have HSO := hid hs
  clear hsl hs
  go_enter Tryz.func90, Tryz.ntmps90
  go_wp2_with fail
  go_loopw [8] (fun i wr => ∃ k : Nat, k ≤ n ∧ i = .int .i64 k ∧ Hid (∀ j < k, hits h nm lf (lnAt C j) = false) ∧ Below w.heap.size w wr) (fun i _ => n - (intOf i).toNat)
  case atStart => exact ⟨0, Nat.zero_le _, rfl, hid (by simp), Below.refl _ _⟩
  case round =>
    obtain ⟨k, hk, rfl, HF, hbr⟩ := hrel
    by_cases hlt : k < n
    · obtain ⟨b, off, rfl, hbl, hcl⟩ := sl_ln (HSL.out.below hbr) hlt
      have HIT := hid (hit_any (lnAt C k) h nm lf g1 g2 g3 wr (HSO.out.below hbr))
      have HF1 : Hid (hits h nm lf (lnAt C k) = false → ∀ j < k + 1, hits h nm lf (lnAt C j) = false) := fun hh j hj => by
        by_cases e : j = k
        · rw [e]; exact hh
        · exact HF.out j (by omega)
      have HF2 : Hid (hits h nm lf (lnAt C k) = true → FirstHit C h nm lf n (k : Int)) := fun hh => .inl ⟨k, hlt, rfl, HF.out, hh⟩
      clear HF HSO
      generalize hits h nm lf (lnAt C k) = bh at *
      generalize lnAt C k = l at *
      go_wp2_with (refine wpList_load_mid rfl 29 (.tmp 14) rfl b (off + k * 4) rfl (lnC l) _ hcl Tryz.underlying29 rfl i4 ?_)
      refine HIT.out.mono ?_
      rintro e w1 ⟨rfl, hb1⟩
      have hbw := hbr.trans (hb1.mono hbr.size)
      clear hcl HIT hb1
      cases bh with
      | true =>
        have HP := hid (HF2.out rfl)
        clear HF1 HF2
        go_wp2_with fail
        go_ret
        exact ⟨⟨_, rfl, HP.out⟩, hbw⟩
      | false =>
        have HP := hid (HF1.out rfl)
        clear HF1 HF2
        go_wp2_with fail
        go_light
        exact ⟨⟨k + 1, by omega, by go_num, HP, hbw⟩, by simp [intOf]; omega⟩
    · obtain rfl : k = n := by omega
      have HP : Hid (FirstHit C h nm lf k (-1)) := .inr ⟨rfl, HF.out⟩
      clear HF
      go_wp2_with fail
      go_ret
      exact ⟨⟨_, rfl, HP.out⟩, hbr⟩
end CF
end Go.Proofs.YtecfkhgocjbocaaGreatDoor
namespace Go.Proofs.YtecfkhgocjbocaaGreatDoor
set_option linter.unusedVariables false
set_option linter.unusedSimpArgs false
open Go Go.RowKit

namespace CF
theorem ordL_self (x : Ln) : ordL x x = 0 := (ordL_zero x x).2 ⟨rfl, rfl, rfl⟩
theorem srt_uniq {C : List Ln} (h : Srt C) {x y : Ln} (hx : x ∈ C) (hy : y ∈ C) (he : ordL x y = 0) : x = y := by
  obtain ⟨i, hi, rfl⟩ := List.getElem_of_mem hx
  obtain ⟨j, hj, rfl⟩ := List.getElem_of_mem hy
  have e1 := lnAt_get C i hi
  have e2 := lnAt_get C j hj
  by_cases c1 : i < j
  · have := h i j c1 hj
    rw [e1, e2] at this
    omega
  · by_cases c2 : j < i
    · have := h j i c2 hi
      rw [e1, e2, ordL_neg] at this
      omega
    · have : i = j := by omega
      subst this
      rfl
theorem val_mem {D : List Ln} (h : RightC D = true) (x : Ln) (hx : x ∈ D) : valC D x.head x.name x.leaf = x.value := by
  have hs := ((RightC_iff D).1 h).2.1
  unfold valC
  rw [if_pos h]
  cases hf : D.find? (fun y => decide (ordL y ⟨x.head, x.name, x.leaf, []⟩ = 0)) with
  | none =>
    have := List.find?_eq_none.1 hf x hx
    have h0 : ordL x ⟨x.head, x.name, x.leaf, []⟩ = 0 := (ordL_zero _ _).2 ⟨rfl, rfl, rfl⟩
    simp [h0] at this
  | some y =>
    have h1 := List.find?_some hf
    have h2 := List.mem_of_find?_eq_some hf
    have h3 := (ordL_zero _ _).1 (of_decide_eq_true h1)
    have h4 : ordL y x = 0 := (ordL_zero _ _).2 h3
    rw [srt_uniq hs h2 hx h4]
theorem mem_ins (C : List Ln) (l : Ln) : l ∈ insC C l := by
  induction C with
  | nil => exact List.mem_singleton.2 rfl
  | cons x r ih =>
    unfold insC
    split
    · exact List.mem_cons_of_mem _ ih
    · split <;> exact List.mem_cons_self
theorem mem_ins_old (C : List Ln) (l x : Ln) (hx : x ∈ C) (hne : ordL x l ≠ 0) : x ∈ insC C l := by
  induction C with
  | nil => cases hx
  | cons y r ih =>
    unfold insC
    split
    · rcases List.mem_cons.1 hx with h | h
      · rw [h]; exact List.mem_cons_self
      · exact List.mem_cons_of_mem _ (ih h)
    · split
      · rename_i h0
        rcases List.mem_cons.1 hx with h | h
        · rw [h] at hne; exact absurd h0 hne
        · exact List.mem_cons_of_mem _ h
      · exact List.mem_cons_of_mem _ hx
theorem ins_again (C : List Ln) (l : Ln) : insC (insC C l) l = insC C l := by
  have h0 := ordL_self l
  induction C with
  | nil =>
    show insC [l] l = [l]
    unfold insC
    rw [if_neg (by omega), if_pos h0]
  | cons x r ih =>
    by_cases h1 : ordL x l < 0
    · have e : insC (x :: r) l = x :: insC r l := by rw [insC, if_pos h1]
      rw [e, insC, if_pos h1, ih]
    · by_cases h2 : ordL x l = 0
      · have e : insC (x :: r) l = l :: r := by rw [insC, if_neg h1, if_pos h2]
        rw [e, insC, if_neg (by omega), if_pos h0]
      · have e : insC (x :: r) l = l :: x :: r := by rw [insC, if_neg h1, if_neg h2]
        rw [e, insC, if_neg (by omega), if_pos h0]
theorem set_full (B : List Ln) (l : Ln) (h : setE B l = 5) : B.length = 64 := by
  unfold setE at h
  split at h
  · rename_i h1
    rw [Bool.and_eq_true] at h1
    have h2 := ((RightC_iff B).1 h1.1).2.2
    split at h
    · cases h
    · have := ins_len B l
      omega
  · cases h
theorem set_cases (B : List Ln) (l : Ln) (hB : RightC B = true) (hl : rightL l = true) (h : setE B l ≠ 5) : setE B l = 0 ∧ setC B l = insC B l ∧ RightC (insC B l) = true ∧ (insC B l).length ≤ 64 := by
  have h2 : (insC B l).length ≤ 64 := by
    by_cases c : (insC B l).length ≤ 64
    · exact c
    · exfalso; apply h; unfold setE; rw [hB, hl, if_pos (by rfl), if_neg c]
  have h1 : setE B l = 0 := by unfold setE; rw [hB, hl, if_pos (by rfl), if_pos h2]
  exact ⟨h1, by unfold setC; rw [if_pos h1], right_ins B l hB hl h2, h2⟩
theorem set_again (B : List Ln) (l : Ln) (hl : rightL l = true) (hD : RightC (insC B l) = true) : setE (insC B l) l = 0 ∧ setC (insC B l) l = insC B l := by
  have h3 := ((RightC_iff _).1 hD).2.2
  have h1 : setE (insC B l) l = 0 := by unfold setE; rw [hD, hl, if_pos (by rfl), ins_again, if_pos h3]
  exact ⟨h1, by unfold setC; rw [if_pos h1, ins_again]⟩
theorem leaf_ne (l : Ln) (h : rightL l = true) : l.leaf ≠ [] := by
  unfold rightL at h
  simp only [Bool.and_eq_true] at h
  obtain ⟨⟨h1, _⟩, _⟩ := h
  intro e
  rw [e] at h1
  unfold findR at h1
  split at h1
  · rename_i r hf
    have hr := List.find?_some hf
    unfold isR at hr
    simp only [Bool.and_eq_true, decide_eq_true_eq] at hr
    have : TAB.all (fun r => decide (r.name ≠ [])) = true := by kernel_rfl
    have h2 := of_decide_eq_true (List.all_eq_true.1 this r (List.mem_of_find?_eq_some hf))
    exact h2 hr.2
  · cases h1
theorem hits_ord (l x : Ln) (hl : l.leaf ≠ []) : hits l.head l.name l.leaf x = decide (ordL x l = 0) := by
  rw [Bool.eq_iff_iff, decide_eq_true_iff, ordL_zero]
  unfold hits
  simp [hl]
theorem srt_app (s t : List Ln) (l : Ln) (h : Srt (s ++ l :: t)) : (∀ x ∈ s, ordL x l < 0) ∧ (∀ x ∈ t, ordL l x < 0) ∧ Srt (s ++ t) := by
  induction s with
  | nil =>
    have := (srt_cons l t).1 h
    exact ⟨by simp, this.1, this.2⟩
  | cons y r ih =>
    have h1 := (srt_cons y (r ++ l :: t)).1 h
    obtain ⟨i1, i2, i3⟩ := ih h1.2
    refine ⟨fun x hx => ?_, i2, (srt_cons y (r ++ t)).2 ⟨fun z hz => ?_, i3⟩⟩
    · rcases List.mem_cons.1 hx with e | e
      · rw [e]; exact h1.1 l (by simp)
      · exact i1 x e
    · exact h1.1 z (by rcases List.mem_append.1 hz with e | e <;> simp [e])
/-- one line is taken out -/
theorem del_one (D : List Ln) (l : Ln) (hD : RightC D = true) (hl : l ∈ D) (hf : l.leaf ≠ []) :
    delE D l.head l.name l.leaf = 0 ∧ (delL D l.head l.name l.leaf).length + 1 = D.length ∧ RightC (delL D l.head l.name l.leaf) = true ∧ delE (delL D l.head l.name l.leaf) l.head l.name l.leaf = 6 := by
  obtain ⟨hr, hs, h64⟩ := (RightC_iff D).1 hD
  obtain ⟨s, t, rfl⟩ := List.append_of_mem hl
  obtain ⟨h1, h2, h3⟩ := srt_app s t l hs
  have e0 := ordL_self l
  have hd : delL (s ++ l :: t) l.head l.name l.leaf = s ++ t := by
    unfold delL
    rw [List.filter_append, List.filter_cons]
    have q1 : s.filter (fun x => !hits l.head l.name l.leaf x) = s := by
      rw [List.filter_eq_self]
      intro x hx
      rw [hits_ord l x hf]
      have := h1 x hx
      simp; omega
    have q2 : t.filter (fun x => !hits l.head l.name l.leaf x) = t := by
      rw [List.filter_eq_self]
      intro x hx
      rw [hits_ord l x hf]
      have := h2 x hx
      rw [ordL_neg] at this
      simp; omega
    rw [q1, q2, if_neg (by rw [hits_ord l l hf]; simp [e0])]
  have hlen : (s ++ t).length + 1 = (s ++ l :: t).length := by simp only [List.length_append, List.length_cons]; omega
  have hrt : RightC (s ++ t) = true := by
    rw [RightC_iff]
    refine ⟨fun x hx => hr x ?_, h3, by omega⟩
    rcases List.mem_append.1 hx with e | e <;> simp [e]
  rw [hd]
  refine ⟨?_, hlen, hrt, ?_⟩
  · unfold delE
    rw [if_pos hD, hd, if_neg (by omega)]
  · have hd2 : delL (s ++ t) l.head l.name l.leaf = s ++ t := by
      have : delL (delL (s ++ l :: t) l.head l.name l.leaf) l.head l.name l.leaf = delL (s ++ l :: t) l.head l.name l.leaf := by
        unfold delL
        rw [List.filter_filter]
        congr 1
        funext x
        simp
      rw [hd] at this
      exact this
    unfold delE
    rw [if_pos hrt, hd2, if_pos rfl]
end CF
end Go.Proofs.YtecfkhgocjbocaaGreatDoor
namespace Go.Proofs.YtecfkhgocjbocaaGreatDoor
set_option linter.unusedVariables false
set_option linter.unusedSimpArgs false
open Go Go.RowKit

namespace CF
theorem val_none {C : List Ln} (hr : RightC C = true) (h : Int) (nm lf : List UInt8) (hno : ∀ j < C.length, ¬ ((lnAt C j).head = h ∧ (lnAt C j).name = nm ∧ (lnAt C j).leaf = lf)) : valC C h nm lf = (findR h lf).1.dft := by
  unfold valC
  rw [if_pos hr]
  have : C.find? (fun x => decide (ordL x ⟨h, nm, lf, []⟩ = 0)) = none := by
    rw [List.find?_eq_none]
    intro x hx
    obtain ⟨j, hj, rfl⟩ := List.getElem_of_mem hx
    have := hno j hj
    rw [lnAt_get C j hj] at this
    rw [decide_eq_true_iff, ordL_zero]
    exact this
  rw [this]
set_option maxRecDepth 100000 in
set_option maxHeartbeats 1600000 in
theorem refValue_any (C : List Ln) (h : Int) (nm lf : List UInt8) (A : Option Addr) (n c : Nat) (w : World) (hsl : Sl w 4 (.slice A n c) (LNS C)) (hC : ∀ l ∈ C, LnOk l) (hen : Env w) :
    Calls Tryz.prog 28 #[.slice A n c, .int .i64 h, .string (S8 nm), .string (S8 lf)] w fun e w' => e = .returned (.string (S8 (valC C h nm lf))) ∧ Below w.heap.size w w' := by
  have hl1 := (sl_lns hsl).1
  have HRC := hid (refRight_all C A n c w hsl hC hen)
  have HSL := hid hsl
  have HV0 : Hid (RightC C = false → valC C h nm lf = []) := fun h => by unfold valC; rw [h]; rfl
  have HV1 : Hid (RightC C = true → ∀ k < n, (lnAt C k).head = h → (lnAt C k).name = nm → (lnAt C k).leaf = lf → valC C h nm lf = (lnAt C k).value) := fun hr k hk e1 e2 e3 => by
    have hm : lnAt C k ∈ C := by rw [lnAt_get C k (by omega)]; exact List.getElem_mem _
    have := val_mem hr _ hm
    rwa [e1, e2, e3] at this
  have HV2 : Hid (RightC C = true → (∀ j < n, ¬ ((lnAt C j).head = h ∧ (lnAt C j).name = nm ∧ (lnAt C j).leaf = lf)) → valC C h nm lf = (findR h lf).1.dft) := fun hr hno => val_none hr h nm lf (fun j hj => hno j (by omega))
  have HF : Hid (∀ w', Calls Tryz.prog 60 #[.int .i64 h, .string (S8 lf)] w' fun e w'' => ∃ A, e = .returned (.tuple #[.agg (rwV (findR h lf).1 A), .bool (findR h lf).2]) ∧ Below w'.heap.size w' w'') :=
    fun w' => (refFind_new h (S8 lf) w').mono fun e w'' ⟨A, h1, h2, h3, _⟩ => ⟨A, h1, h2⟩
  have HN : Hid (RightC C = true → n ≤ 64) := fun hr => by have := ((RightC_iff C).1 hr).2.2; omega
  clear hsl hC hen hl1
  generalize valC C h nm lf = V at *
  generalize findR h lf = FR at *
  go_enter Tryz.func28, Tryz.ntmps28
  go_wp2_with fail
  refine HRC.out.mono ?_
  rintro e w1 ⟨rfl, hb1⟩
  clear HRC
  cases b1 : RightC C with
  | false =>
    have HE := hid (HV0.out b1)
    clear HV0 HV1 HV2 b1
    go_wp2_with fail
    go_ret
    exact ⟨by rw [HE.out]; rfl, hb1⟩
  | true =>
    have hn64 := HN.out b1
    clear HN
    have HW1 := hid (HV1.out b1)
    have HW2 := hid (HV2.out b1)
    clear HV0 HV1 HV2 b1
    go_wp2_with fail
    go_loopw [9] (fun i wr => ∃ k : Nat, k ≤ n ∧ i = .int .i64 k ∧ Hid (∀ j < k, ¬ ((lnAt C j).head = h ∧ (lnAt C j).name = nm ∧ (lnAt C j).leaf = lf)) ∧ Below w.heap.size w wr) (fun i _ => n - (intOf i).toNat)
    case atStart => exact ⟨0, Nat.zero_le _, rfl, hid (by simp), hb1⟩
    case round =>
      clear hb1
      obtain ⟨k, hk, rfl, HJ, hbr⟩ := hrel
      by_cases hlt : k < n
      · obtain ⟨b, off, rfl, hbl, hcl⟩ := sl_ln (HSL.out.below hbr) hlt
        have HV1 := hid (HW1.out k hlt)
        have HNO : Hid (¬ ((lnAt C k).head = h ∧ (lnAt C k).name = nm ∧ (lnAt C k).leaf = lf) → ∀ j < k + 1, ¬ ((lnAt C j).head = h ∧ (lnAt C j).name = nm ∧ (lnAt C j).leaf = lf)) := fun hh j hj => by
          by_cases e : j = k
          · rw [e]; exact hh
          · exact HJ.out j (by omega)
        have hx0 : wr.cell? ⟨b, off + k * 4, none⟩ = some (.int .i64 (lnAt C k).head) := hcl 0 _ rfl
        have hx1 : wr.cell? ⟨b, off + k * 4 + 1, none⟩ = some (.string (S8 (lnAt C k).name)) := hcl 1 _ rfl
        have hx2 : wr.cell? ⟨b, off + k * 4 + 2, none⟩ = some (.string (S8 (lnAt C k).leaf)) := hcl 2 _ rfl
        have hx3 : wr.cell? ⟨b, off + k * 4 + 3, none⟩ = some (.string (S8 (lnAt C k).value)) := hcl 3 _ rfl
        have t1 := tl_eq (lnAt C k).name nm
        have t3 := tl_eq (lnAt C k).leaf lf
        clear HJ HW1 HW2 hcl HF
        obtain ⟨l, hll⟩ : ∃ l, l = lnAt C k := ⟨_, rfl⟩
        rw [← hll] at HV1 HNO hx0 hx1 hx2 hx3 t1 t3
        clear hll
        by_cases q0 : l.head = h
        · have e0 : (l.head == h) = true := by simpa using q0
          by_cases q1 : l.name = nm
          · rw [decide_eq_true q1] at t1
            by_cases q2 : l.leaf = lf
            · rw [decide_eq_true q2] at t3
              have HE := hid (HV1.out q0 q1 q2)
              clear HV1 HNO q1 q2
              as_aux_lemma =>
                go_wp2_with fail
                go_ret
                exact ⟨by rw [HE.out]; rfl, hbr⟩
            · rw [decide_eq_false q2] at t3
              have HNE : Hid (¬ (l.head = h ∧ l.name = nm ∧ l.leaf = lf)) := fun hh => q2 hh.2.2
              clear q1 q2
              as_aux_lemma =>
                have HN1 := hid (HNO.out HNE.out)
                clear HNO HNE HV1
                go_wp2_with fail
                go_light
                exact ⟨⟨k + 1, by omega, by go_num, HN1, hbr⟩, by simp [intOf]; omega⟩
          · rw [decide_eq_false q1] at t1
            have HNE : Hid (¬ (l.head = h ∧ l.name = nm ∧ l.leaf = lf)) := fun hh => q1 hh.2.1
            clear q1
            as_aux_lemma =>
              have HN1 := hid (HNO.out HNE.out)
              clear HNO HNE HV1
              go_wp2_with fail
              go_light
              exact ⟨⟨k + 1, by omega, by go_num, HN1, hbr⟩, by simp [intOf]; omega⟩
        · have e0 : (l.head == h) = false := by simpa using q0
          have HNE : Hid (¬ (l.head = h ∧ l.name = nm ∧ l.leaf = lf)) := fun hh => q0 hh.1
          as_aux_lemma =>
            have HN1 := hid (HNO.out HNE.out)
            clear HNO HNE HV1
            go_wp2_with fail
            go_light
            exact ⟨⟨k + 1, by omega, by go_num, HN1, hbr⟩, by simp [intOf]; omega⟩
      · obtain rfl : k = n := by omega
        have HV := hid (HW2.out HJ.out)
        clear HW1 HW2 HJ
        obtain ⟨r, ok⟩ := FR
        simp only at HV HF
        go_wp2_with fail
        refine (HF.out wr).mono ?_
        rintro e w3 ⟨A3, rfl, hb3⟩
        have hbw3 := hbr.trans (hb3.mono hbr.size)
        obtain ⟨hb4, hg4, hl4⟩ := box1 w3 (.cells (rwV r A3) 102)
        go_upto_region 9 with (refine wpList_store_last rfl 102 (.tmp 10) (.tmp 55) rfl (rwV r A3) rfl rfl k8 rfl (rwV_one _ _) ?_)
        generalize w3.alloc (.cells (rwV r A3) 102) = w4 at *
        have hbw4 := hbw3.trans (hb4.mono hbw3.size)
        have q6 : w4.cell? ⟨w3.heap.size, 6, none⟩ = some (.string (S8 r.dft)) := by rw [blkCell hg4 6]; rfl
        clear hg4 hb4 hb3 HF
        have HD : Hid (S8 V = S8 r.dft) := by show _ = _; rw [HV.out]
        clear HV
        generalize S8 r.dft = d at *
        go_wp2_with fail
        go_ret
        exact ⟨by rw [HD.out]; rfl, hbw4⟩
end CF
end Go.Proofs.YtecfkhgocjbocaaGreatDoor
namespace Go.Proofs.YtecfkhgocjbocaaGreatDoor
set_option linter.unusedVariables false
set_option linter.unusedSimpArgs false
open Go

namespace CF
def compN (zs : List (List UInt8)) : List (List UInt8) := zs.foldl stepN []
theorem stepN_cons (a o : List UInt8) (out : List (List UInt8)) (z : List UInt8) : stepN (a :: o :: out) z = a :: stepN (o :: out) z := by
  have h1 : (a :: o :: out).getLastD [] = (o :: out).getLastD [] := rfl
  unfold stepN
  rw [h1]
  by_cases e : (o :: out).getLastD [] = z
  · rw [if_neg (fun h => h.elim (by simp) (fun k => k e)), if_neg (fun h => h.elim (by simp) (fun k => k e))]
  · rw [if_pos (.inr e), if_pos (.inr e)]; rfl
theorem foldN_cons (zs : List (List UInt8)) (a o : List UInt8) (out : List (List UInt8)) : zs.foldl stepN (a :: o :: out) = a :: zs.foldl stepN (o :: out) := by
  induction zs generalizing o out with
  | nil => rfl
  | cons z zs ih =>
    rw [List.foldl_cons, List.foldl_cons, stepN_cons]
    have : ∃ p q, stepN (o :: out) z = p :: q := by
      unfold stepN
      split
      · exact ⟨_, _, rfl⟩
      · exact ⟨_, _, rfl⟩
    obtain ⟨p, q, e⟩ := this
    rw [e]
    exact ih p q
theorem compN_one (x : List UInt8) : compN [x] = [x] := rfl
theorem compN_cons (x y : List UInt8) (zs : List (List UInt8)) : compN (x :: y :: zs) = if x = y then compN (y :: zs) else x :: compN (y :: zs) := by
  have e1 : ∀ (a : List UInt8) zs, compN (a :: zs) = zs.foldl stepN [a] := fun a zs => by
    unfold compN
    rw [List.foldl_cons, stepN_new _ _ (.inl rfl)]
    rfl
  rw [e1, List.foldl_cons]
  by_cases e : x = y
  · subst e
    rw [if_pos rfl, show stepN [x] x = [x] from stepN_old [x] x (by simp) rfl, e1]
  · rw [if_neg e, show stepN [x] y = [x, y] from stepN_new [x] y (.inr e), e1]
    exact foldN_cons zs x y []
theorem compN_mem (zs : List (List UInt8)) (x : List UInt8) (h : x ∈ compN zs) : x ∈ zs := by
  induction zs with
  | nil => cases h
  | cons y zs ih =>
    cases zs with
    | nil => exact h
    | cons z zs =>
      rw [compN_cons] at h
      split at h
      · exact List.mem_cons_of_mem _ (ih h)
      · rcases List.mem_cons.1 h with h | h
        · rw [h]; exact List.mem_cons_self
        · exact List.mem_cons_of_mem _ (ih h)
theorem compN_ex (y : List UInt8) (zs : List (List UInt8)) : ∃ R, compN (y :: zs) = y :: R := by
  induction zs with
  | nil => exact ⟨[], rfl⟩
  | cons z zs ih =>
    rw [compN_cons]
    by_cases e : y = z
    · subst e
      rw [if_pos rfl]
      obtain ⟨R, hR⟩ := ih
      cases zs with
      | nil => exact ⟨[], rfl⟩
      | cons t zs =>
        rw [compN_cons] at hR ⊢
        split at hR
        · rename_i e2
          rw [if_pos e2]
          exact ⟨R, hR⟩
        · rename_i e2
          rw [if_neg e2]
          exact ⟨_, rfl⟩
    · rw [if_neg e]
      exact ⟨_, rfl⟩
def leT (a b : List UInt8) : Prop := cmpT a b < 0 ∨ a = b
theorem compN_lt (zs : List (List UInt8)) (h : zs.Pairwise leT) : (compN zs).Pairwise fun a b => cmpT a b < 0 := by
  induction zs with
  | nil => exact List.Pairwise.nil
  | cons y zs ih =>
    cases zs with
    | nil => exact List.pairwise_singleton _ _
    | cons z zs =>
      rw [List.pairwise_cons] at h
      rw [compN_cons]
      split
      · exact ih h.2
      · rename_i e
        rw [List.pairwise_cons]
        refine ⟨fun x hx => ?_, ih h.2⟩
        have hx := compN_mem _ _ hx
        have h1 : cmpT y z < 0 := (h.1 z List.mem_cons_self).resolve_right e
        rcases List.mem_cons.1 hx with hx | hx
        · rw [hx]; exact h1
        · rw [List.pairwise_cons] at h
          rcases h.2.1 x hx with h2 | h2
          · exact cmpT_trans _ _ _ h1 h2
          · rw [← h2]; exact h1
        done
theorem raw_cons (l : Ln) (r : List Ln) (h : Int) : namRaw (l :: r) h = (if l.head = h then [l.name] else []) ++ namRaw r h := by
  unfold namRaw
  by_cases e : l.head = h
  · rw [if_pos e, List.filter_cons_of_pos (by simpa using e)]; rfl
  · rw [if_neg e, List.filter_cons_of_neg (by simpa using e)]; rfl
theorem raw_mem (C : List Ln) (h : Int) (x : List UInt8) : x ∈ namRaw C h ↔ ∃ l ∈ C, l.head = h ∧ l.name = x := by
  unfold namRaw
  simp only [List.mem_map, List.mem_filter, decide_eq_true_eq]
  constructor
  · rintro ⟨l, ⟨h1, h2⟩, h3⟩; exact ⟨l, h1, h2, h3⟩
  · rintro ⟨l, h1, h2, h3⟩; exact ⟨l, ⟨h1, h2⟩, h3⟩
theorem raw_srt (C : List Ln) (h : Int) (hs : Srt C) : (namRaw C h).Pairwise leT := by
  induction C with
  | nil => exact List.Pairwise.nil
  | cons l r ih =>
    rw [srt_cons] at hs
    rw [raw_cons]
    split
    · rename_i e
      rw [List.singleton_append, List.pairwise_cons]
      refine ⟨fun x hx => ?_, ih hs.2⟩
      obtain ⟨y, hy, e2, e3⟩ := (raw_mem _ _ _).1 hx
      have := hs.1 y hy
      rw [ordL_lt] at this
      rcases this with h1 | ⟨_, h1 | ⟨h1, _⟩⟩
      · omega
      · rw [← e3]; exact .inl h1
      · rw [← e3]; exact .inr h1
    · exact ih hs.2
/-- the blocks of a head -/
def flT (C : List Ln) (h : Int) : List UInt8 := (compN (namRaw C h)).flatMap (blockT C h)
def TT (C : List Ln) : List UInt8 := topT C ++ (flT C 1 ++ flT C 2)
theorem textC_TT (C : List Ln) (hr : RightC C = true) : textC C = TT C := by
  unfold textC TT flT compN
  rw [if_pos hr]
  unfold namC
  rw [if_pos ⟨hr, by decide⟩, if_pos ⟨hr, by decide⟩, fold_raw, fold_raw]
theorem body_cons (l : Ln) (r : List Ln) (h : Int) (nm : List UInt8) : bodyB (l :: r) h nm = (if l.head = h ∧ l.name = nm then lineB l else []) ++ bodyB r h nm := by
  unfold bodyB
  rw [List.flatMap_cons]
theorem body_none (r : List Ln) (h : Int) (nm : List UInt8) (hn : ∀ y ∈ r, ¬ (y.head = h ∧ y.name = nm)) : bodyB r h nm = [] := by
  induction r with
  | nil => rfl
  | cons l r ih =>
    rw [body_cons, if_neg (hn l List.mem_cons_self), ih fun y hy => hn y (List.mem_cons_of_mem _ hy)]
    rfl
theorem flat_eq {α β : Type} (C : List β) (f g : β → List α) (h : ∀ x ∈ C, f x = g x) : C.flatMap f = C.flatMap g := by
  induction C with
  | nil => rfl
  | cons x r ih => rw [List.flatMap_cons, List.flatMap_cons, h x List.mem_cons_self, ih fun y hy => h y (List.mem_cons_of_mem _ hy)]
theorem block_off (l : Ln) (r : List Ln) (h : Int) (nm : List UInt8) (hn : ¬ (l.head = h ∧ l.name = nm)) : blockT (l :: r) h nm = blockT r h nm := by
  unfold blockT
  rw [body_cons, if_neg hn]
  rfl
theorem fl_off (l : Ln) (r : List Ln) (h : Int) (hn : l.head ≠ h) : flT (l :: r) h = flT r h := by
  unfold flT
  rw [raw_cons, if_neg hn]
  exact flat_eq _ _ _ fun x _ => block_off l r h x (fun k => hn k.1)
theorem fl_new (l : Ln) (r : List Ln) (h : Int) (e : l.head = h) (hn : ∀ y ∈ r, ¬ (y.head = h ∧ y.name = l.name)) : flT (l :: r) h = headB h l.name ++ lineB l ++ [125, 10] ++ flT r h := by
  have h1 : compN (l.name :: namRaw r h) = l.name :: compN (namRaw r h) := by
    cases hz : namRaw r h with
    | nil => rfl
    | cons z zs =>
      rw [compN_cons, if_neg]
      intro e2
      obtain ⟨y, hy, e3, e4⟩ := (raw_mem r h z).1 (by rw [hz]; exact List.mem_cons_self)
      exact hn y hy ⟨e3, by rw [e4, e2]⟩
  unfold flT
  rw [raw_cons, if_pos e, List.singleton_append, h1, List.flatMap_cons]
  congr 1
  · unfold blockT
    rw [body_cons, if_pos ⟨e, rfl⟩, body_none r h l.name hn, List.append_nil]
  · refine flat_eq _ _ _ fun x hx => block_off l r h x fun k => ?_
    obtain ⟨y, hy, e3, e4⟩ := (raw_mem r h x).1 (compN_mem _ _ hx)
    exact hn y hy ⟨e3, by rw [e4, k.2]⟩
theorem fl_more (l y : Ln) (s : List Ln) (h : Int) (e : l.head = h) (e2 : y.head = h) (e3 : y.name = l.name) (hs : Srt (y :: s)) :
    ∃ Y, flT (y :: s) h = headB h l.name ++ Y ∧ flT (l :: y :: s) h = headB h l.name ++ (lineB l ++ Y) := by
  have hr : namRaw (y :: s) h = l.name :: namRaw s h := by rw [raw_cons, if_pos e2, e3]; rfl
  have hl : namRaw (l :: y :: s) h = l.name :: l.name :: namRaw s h := by rw [raw_cons, if_pos e, hr]; rfl
  obtain ⟨R, hR⟩ := compN_ex l.name (namRaw s h)
  have hp := compN_lt _ (raw_srt (y :: s) h hs)
  rw [hr, hR, List.pairwise_cons] at hp
  unfold flT
  rw [hl, hr, compN_cons, if_pos rfl, hR, List.flatMap_cons, List.flatMap_cons]
  have hf : R.flatMap (blockT (l :: y :: s) h) = R.flatMap (blockT (y :: s) h) := flat_eq _ _ _ fun x hx => block_off _ _ _ _ fun k => by
    have := hp.1 x hx
    rw [k.2, (cmpT_zero x x).2 rfl] at this
    omega
  rw [hf]
  refine ⟨bodyB (y :: s) h l.name ++ [125, 10] ++ R.flatMap (blockT (y :: s) h), ?_, ?_⟩
  · unfold blockT
    simp only [List.append_assoc]
  · unfold blockT
    rw [body_cons l, if_pos ⟨e, rfl⟩]
    simp only [List.append_assoc]
theorem top_none (r : List Ln) (h : ∀ y ∈ r, y.head ≠ 0) : topT r = [] := by
  induction r with
  | nil => rfl
  | cons l r ih =>
    unfold topT at *
    rw [List.flatMap_cons, if_neg (h l List.mem_cons_self), ih fun y hy => h y (List.mem_cons_of_mem _ hy)]
    rfl
theorem fl_none (r : List Ln) (h : Int) (hn : ∀ y ∈ r, y.head ≠ h) : flT r h = [] := by
  unfold flT
  have : namRaw r h = [] := by
    cases hz : namRaw r h with
    | nil => rfl
    | cons z zs =>
      obtain ⟨y, hy, e3, e4⟩ := (raw_mem r h z).1 (by rw [hz]; exact List.mem_cons_self)
      exact absurd e3 (hn y hy)
  rw [this]
  rfl
/-- do two stand in one block? -/
def sameH (a b : Ln) : Bool := decide (a.head = b.head) && decide (a.name = b.name)
def refG : Bool → List Ln → List UInt8
  | _, [] => []
  | o, l :: r => if l.head = 0 then lineX l ++ refG true r else
    (if o = true then headB l.head l.name else []) ++ (lineB l ++ (match r with
      | [] => [125, 10]
      | y :: _ => if sameH l y = true then [] else [125, 10])) ++ refG (match r with
      | [] => true
      | y :: _ => !sameH l y) r
theorem srt_head {l : Ln} {r : List Ln} (h : Srt (l :: r)) : ∀ y ∈ r, l.head ≤ y.head := fun y hy => by
  have := (srt_cons l r).1 h |>.1 y hy
  rw [ordL_lt] at this
  omega
theorem srt_apart {l y : Ln} {s : List Ln} (h : Srt (l :: y :: s)) (hn : sameH l y = false) : ∀ x ∈ y :: s, ¬ (x.head = l.head ∧ x.name = l.name) := by
  have h1 := (srt_cons l _).1 h
  have h2 := (srt_cons y _).1 h1.2
  have h3 := h1.1 y List.mem_cons_self
  unfold sameH at hn
  rw [Bool.and_eq_false_iff, decide_eq_false_iff_not, decide_eq_false_iff_not] at hn
  rintro x hx ⟨e1, e2⟩
  rcases List.mem_cons.1 hx with hx | hx
  · rw [hx] at e1 e2
    exact hn.elim (fun k => k e1.symm) (fun k => k e2.symm)
  · have h4 := h2.1 x hx
    rw [ordL_lt] at h3 h4
    rcases h3 with h3 | ⟨f1, h3⟩
    · rcases h4 with h4 | ⟨g1, h4⟩ <;> omega
    · rcases h4 with h4 | ⟨g1, h4⟩
      · omega
      · rcases h3 with h3 | ⟨f2, h3⟩
        · rcases h4 with h4 | ⟨g2, h4⟩
          · have := cmpT_trans _ _ _ h3 h4
            rw [e2, (cmpT_zero _ _).2 rfl] at this
            omega
          · rw [g2, e2, (cmpT_zero _ _).2 rfl] at h3
            omega
        · exact hn.elim (fun k => k f1) (fun k => k f2)
theorem refG_TT (C : List Ln) (hs : Srt C) (hh : ∀ l ∈ C, l.head = 0 ∨ l.head = 1 ∨ l.head = 2) : refG true C = TT C := by
  induction C with
  | nil => rfl
  | cons l r ih =>
    have ih := ih ((srt_cons l r).1 hs).2 (fun y hy => hh y (List.mem_cons_of_mem _ hy))
    have hle := srt_head hs
    rcases hh l List.mem_cons_self with e | e
    · have h1 : TT (l :: r) = lineX l ++ TT r := by
        unfold TT
        rw [fl_off l r 1 (by omega), fl_off l r 2 (by omega)]
        unfold topT
        rw [List.flatMap_cons, if_pos e, List.append_assoc]
      rw [h1]
      show (if l.head = 0 then lineX l ++ refG true r else _) = _
      rw [if_pos e, ih]
    · have e0 : l.head ≠ 0 := by omega
      have ht1 : topT (l :: r) = [] := top_none _ fun y hy => by
        rcases List.mem_cons.1 hy with h | h
        · rw [h]; exact e0
        · have := hle y h; omega
      have ht2 : topT r = [] := top_none _ fun y hy => by have := hle y hy; omega
      have key : ∀ X Y : List UInt8, flT (l :: r) l.head = X → flT r l.head = Y → ∃ Z, TT (l :: r) = X ++ Z ∧ TT r = Y ++ Z := by
        intro X Y hX hY
        rcases e with e | e
        · refine ⟨flT r 2, ?_, ?_⟩
          · unfold TT
            rw [ht1, fl_off l r 2 (by omega), ← hX, e]; rfl
          · unfold TT
            rw [ht2, ← hY, e]; rfl
        · have hn1 : flT r 1 = [] := fl_none r 1 fun y hy => by have := hle y hy; omega
          refine ⟨[], ?_, ?_⟩
          · unfold TT
            rw [ht1, fl_off l r 1 (by omega), hn1, ← hX, e, List.append_nil]; rfl
          · unfold TT
            rw [ht2, hn1, ← hY, e, List.append_nil]; rfl
      have hnew : (∀ y ∈ r, ¬ (y.head = l.head ∧ y.name = l.name)) → TT (l :: r) = headB l.head l.name ++ lineB l ++ [125, 10] ++ TT r := fun hn => by
        obtain ⟨Z, h1, h2⟩ := key _ _ (fl_new l r l.head rfl hn) rfl
        rw [h1, h2]
        simp only [List.append_assoc]
      show (if l.head = 0 then _ else _) = _
      rw [if_neg e0]
      cases r with
      | nil =>
        rw [hnew (by simp)]
        show _ = _ ++ []
        simp only [if_true, List.append_assoc]
        rfl
      | cons y s =>
        simp only [if_true]
        by_cases hsm : sameH l y = true
        · rw [if_pos hsm, hsm]
          have h2 := hsm
          unfold sameH at h2
          rw [Bool.and_eq_true, decide_eq_true_iff, decide_eq_true_iff] at h2
          obtain ⟨Y, f1, f2⟩ := fl_more l y s l.head rfl h2.1.symm h2.2.symm ((srt_cons l _).1 hs).2
          obtain ⟨Z, g1, g2⟩ := key _ _ f2 f1
          have e1 : refG true (y :: s) = headB y.head y.name ++ refG false (y :: s) := by
            have ey : y.head ≠ 0 := by omega
            show (if y.head = 0 then _ else _) = _ ++ (if y.head = 0 then _ else _)
            rw [if_neg ey, if_neg ey]
            simp only [if_true, Bool.false_eq_true, if_false, List.nil_append, List.append_assoc]
          rw [e1, ← h2.1, ← h2.2, g2, List.append_assoc] at ih
          have ih := List.append_cancel_left ih
          rw [g1]
          show _ ++ (_ ++ []) ++ refG false (y :: s) = _
          rw [ih]
          simp only [List.append_assoc, List.append_nil]
        · have hsm : sameH l y = false := by simpa using hsm
          rw [if_neg (by rw [hsm]; decide), hsm, hnew (srt_apart hs hsm)]
          show _ ++ _ ++ refG true (y :: s) = _
          rw [ih]
          simp only [List.append_assoc]
/-- is the line at k the first of its block, the last one? -/
def opT (C : List Ln) (k : Nat) : Bool := decide (k = 0) || !sameH (lnAt C (k - 1)) (lnAt C k)
def clT (C : List Ln) (k : Nat) : Bool := decide (k + 1 = C.length) || !sameH (lnAt C k) (lnAt C (k + 1))
def pieceT (C : List Ln) (k : Nat) : List UInt8 := if (lnAt C k).head = 0 then lineX (lnAt C k) else
  (if opT C k = true then headB (lnAt C k).head (lnAt C k).name else []) ++ (lineB (lnAt C k) ++ (if clT C k = true then [125, 10] else []))
def rtT (C : List Ln) (k : Nat) : List UInt8 := (List.range k).flatMap (pieceT C)
theorem rtT_succ (C : List Ln) (k : Nat) : rtT C (k + 1) = rtT C k ++ pieceT C k := by
  unfold rtT
  rw [List.range_succ, List.flatMap_append]
  simp
theorem sameH_top {a b : Ln} (h : a.head = 0) (h2 : b.head ≠ 0) : sameH a b = false := by
  unfold sameH
  rw [decide_eq_false (by omega)]
  rfl
theorem tail_refG (C : List Ln) (m k : Nat) (hm : m + k = C.length) : (List.range' k m).flatMap (pieceT C) = refG (opT C k) (C.drop k) := by
  induction m generalizing k with
  | zero => rw [List.drop_of_length_le (by omega)]; rfl
  | succ m ih =>
    have hk : k < C.length := by omega
    have ih := ih (k + 1) (by omega)
    rw [List.range'_succ, List.flatMap_cons, ih, List.drop_eq_getElem_cons hk, ← lnAt_get C k hk]
    have hop : opT C (k + 1) = !sameH (lnAt C k) (lnAt C (k + 1)) := by unfold opT; simp
    show pieceT C k ++ _ = if (lnAt C k).head = 0 then _ else _
    unfold pieceT
    by_cases e : (lnAt C k).head = 0
    · rw [if_pos e, if_pos e]
      congr 1
      cases hd : C.drop (k + 1) with
      | nil => rfl
      | cons y s =>
        have hk1 : k + 1 < C.length := by
          have := congrArg List.length hd
          rw [List.length_drop, List.length_cons] at this
          omega
        have hy : lnAt C (k + 1) = y := by
          rw [List.drop_eq_getElem_cons hk1] at hd
          rw [lnAt_get C _ hk1]
          exact (List.cons.inj hd).1
        by_cases ey : y.head = 0
        · show (if y.head = 0 then _ else _) = if y.head = 0 then _ else _
          rw [if_pos ey, if_pos ey]
        · rw [hop, hy, sameH_top e ey]
          rfl
    · rw [if_neg e, if_neg e]
      have hcl : (if clT C k = true then ([125, 10] : List UInt8) else []) = (match C.drop (k + 1) with
          | [] => [125, 10]
          | y :: _ => if sameH (lnAt C k) y = true then [] else [125, 10]) := by
        cases hd : C.drop (k + 1) with
        | nil =>
          have := congrArg List.length hd
          rw [List.length_drop, List.length_nil] at this
          unfold clT
          rw [decide_eq_true (by omega)]
          rfl
        | cons y s =>
          have hk1 : k + 1 < C.length := by
            have := congrArg List.length hd
            rw [List.length_drop, List.length_cons] at this
            omega
          have hy : lnAt C (k + 1) = y := by
            rw [List.drop_eq_getElem_cons hk1] at hd
            rw [lnAt_get C _ hk1]
            exact (List.cons.inj hd).1
          unfold clT
          rw [decide_eq_false (by omega), hy]
          show _ = (if sameH (lnAt C k) y = true then ([] : List UInt8) else [125, 10])
          cases sameH (lnAt C k) y <;> rfl
      rw [hcl]
      congr 1
      cases hd : C.drop (k + 1) with
      | nil => rfl
      | cons y s =>
        have hk1 : k + 1 < C.length := by
          have := congrArg List.length hd
          rw [List.length_drop, List.length_cons] at this
          omega
        have hy : lnAt C (k + 1) = y := by
          rw [List.drop_eq_getElem_cons hk1] at hd
          rw [lnAt_get C _ hk1]
          exact (List.cons.inj hd).1
        rw [hop, hy]
theorem rtT_all (C : List Ln) (hr : RightC C = true) (hh : ∀ l ∈ C, l.head = 0 ∨ l.head = 1 ∨ l.head = 2) : rtT C C.length = textC C := by
  have h1 := tail_refG C C.length 0 (by omega)
  rw [← List.range_eq_range', List.drop_zero, show opT C 0 = true from rfl, refG_TT C (right_srt hr) hh, ← textC_TT C hr] at h1
  exact h1
end CF
end Go.Proofs.YtecfkhgocjbocaaGreatDoor
namespace Go.Proofs.YtecfkhgocjbocaaGreatDoor
set_option linter.unusedVariables false
set_option linter.unusedSimpArgs false
namespace RS
variable {α : Type}
/-- a strict total order -/
structure Tot (lt : α → α → Bool) : Prop where
  irr : ∀ a, lt a a = false
  tr : ∀ a b c, lt a b = true → lt b c = true → lt a c = true
  conn : ∀ a b, lt a b = false → lt b a = false → a = b
theorem Tot.le_trans {lt : α → α → Bool} (h : Tot lt) {a b c : α} (h1 : lt b a = false) (h2 : lt c b = false) : lt c a = false := by
  cases hc : lt c a with
  | false => rfl
  | true =>
    cases hab : lt a b with
    | true => rw [h.tr c a b hc hab] at h2; exact h2
    | false => rw [h.conn a b hab h1] at hc; rw [hc] at h2; exact h2
theorem Tot.asym {lt : α → α → Bool} (h : Tot lt) {a b : α} (h1 : lt a b = true) : lt b a = false := by
  cases hc : lt b a with
  | false => rfl
  | true => have := h.tr a b a h1 hc; rw [h.irr] at this; exact absurd this (by simp)
def Sd (lt : α → α → Bool) (l : List α) : Prop := l.Pairwise (fun a b => lt b a = false)
def sortL (lt : α → α → Bool) (l : List α) : List α := l.mergeSort (fun a b => !lt b a)
theorem sortL_perm (lt : α → α → Bool) (l : List α) : (sortL lt l).Perm l := List.mergeSort_perm l _
theorem sortL_len (lt : α → α → Bool) (l : List α) : (sortL lt l).length = l.length := (sortL_perm lt l).length_eq
theorem sortL_sd {lt : α → α → Bool} (h : Tot lt) (l : List α) : Sd lt (sortL lt l) := by
  have := List.pairwise_mergeSort (le := fun a b => !lt b a) (fun a b c h1 h2 => by
    simp only [Bool.not_eq_true'] at *
    exact h.le_trans h1 h2) (fun a b => by
      cases e : lt a b with
      | false => simp
      | true => simp [h.asym e]) l
  exact this.imp (fun {a b} e => by simpa using e)
theorem sort_eq {lt : α → α → Bool} (h : Tot lt) {l1 l2 : List α} (h1 : Sd lt l1) (hp : l1.Perm l2) : l1 = sortL lt l2 :=
  List.Perm.eq_of_pairwise (fun a b _ _ e1 e2 => h.conn a b e2 e1) h1 (sortL_sd h l2) (hp.trans (sortL_perm lt l2).symm)
theorem sortL_congr {lt : α → α → Bool} (h : Tot lt) {l1 l2 : List α} (hp : l1.Perm l2) : sortL lt l1 = sortL lt l2 :=
  sort_eq h (sortL_sd h l1) ((sortL_perm lt l1).trans hp)
theorem set_at (P S : List α) (x y : α) (i : Nat) (h : i = P.length) : (P ++ x :: S).set i y = P ++ y :: S := by
  subst h
  rw [List.set_append_right _ _ (Nat.le_refl _), Nat.sub_self, List.set_cons_zero]
theorem sortL_nil {lt : α → α → Bool} : sortL lt ([] : List α) = [] := by unfold sortL; simp
theorem sd_app_l {lt : α → α → Bool} {a b : List α} (h : Sd lt (a ++ b)) : Sd lt a := (List.pairwise_append.1 h).1
theorem sd_app_r {lt : α → α → Bool} {a b : List α} (h : Sd lt (a ++ b)) : Sd lt b := (List.pairwise_append.1 h).2.1
/-- swapRange, i of its steps done -/
def swS (P U Q V S : List α) (i : Nat) : List α := P ++ (V.take i ++ (U.drop i ++ (Q ++ (U.take i ++ (V.drop i ++ S)))))
theorem swS_zero (P U Q V S : List α) : swS P U Q V S 0 = P ++ (U ++ (Q ++ (V ++ S))) := by unfold swS; simp
theorem swS_end (P U Q V S : List α) (n : Nat) (hu : U.length = n) (hv : V.length = n) : swS P U Q V S n = P ++ (V ++ (Q ++ (U ++ S))) := by
  unfold swS
  rw [List.take_of_length_le (by omega), List.take_of_length_le (by omega), List.drop_of_length_le (by omega), List.drop_of_length_le (by omega)]; simp
theorem swS_len (P U Q V S : List α) (n i : Nat) (hu : U.length = n) (hv : V.length = n) (hi : i ≤ n) : (swS P U Q V S i).length = P.length + n + Q.length + n + S.length := by
  unfold swS; simp; omega
theorem sortL_one {lt : α → α → Bool} (h : Tot lt) (x : α) : sortL lt [x] = [x] := (sort_eq h (List.pairwise_singleton _ _) (List.Perm.refl _)).symm
theorem sortL_snoc {lt : α → α → Bool} (h : Tot lt) (l : List α) (x : α) : sortL lt (sortL lt l ++ [x]) = sortL lt (l ++ [x]) :=
  sortL_congr h (List.Perm.append_right _ (sortL_perm lt l))
/-- the halves of a merge -/
theorem halves {lt : α → α → Bool} (h : Tot lt) (L1 L2 R1 R2 : List α) (hL : Sd lt (L1 ++ L2)) (hR : Sd lt (R1 ++ R2)) (h1 : ∀ x ∈ L1, ∀ y ∈ R2, lt y x = false) (h2 : ∀ x ∈ R1, ∀ y ∈ L2, lt y x = false) :
    sortL lt (L1 ++ R1) ++ sortL lt (L2 ++ R2) = sortL lt ((L1 ++ L2) ++ (R1 ++ R2)) := by
  unfold Sd at hL hR
  rw [List.pairwise_append] at hL hR
  refine sort_eq h ?_ ?_
  · unfold Sd
    rw [List.pairwise_append]
    refine ⟨sortL_sd h _, sortL_sd h _, fun a ha b hb => ?_⟩
    have ha := (sortL_perm lt _).mem_iff.1 ha
    have hb := (sortL_perm lt _).mem_iff.1 hb
    rcases List.mem_append.1 ha with e1 | e1 <;> rcases List.mem_append.1 hb with e2 | e2
    · exact hL.2.2 a e1 b e2
    · exact h1 a e1 b e2
    · exact h2 a e1 b e2
    · exact hR.2.2 a e1 b e2
  · refine ((sortL_perm lt _).append (sortL_perm lt _)).trans ?_
    rw [List.append_assoc, List.append_assoc]
    refine List.Perm.append_left L1 ?_
    rw [← List.append_assoc, ← List.append_assoc]
    exact List.Perm.append_right R2 List.perm_append_comm
variable [Inhabited α]
def nth (l : List α) (i : Nat) : α := l.getD i default
theorem nth_get {l : List α} {i : Nat} (h : i < l.length) : nth l i = l[i] := by unfold nth; simp [h]
theorem nth_app_l (l r : List α) (i : Nat) (h : i < l.length) : nth (l ++ r) i = nth l i := by
  unfold nth; simp [List.getElem?_append, h]
theorem nth_app_r (l r : List α) (i : Nat) (h : l.length ≤ i) : nth (l ++ r) i = nth r (i - l.length) := by
  unfold nth; simp [List.getElem?_append, Nat.not_lt.2 h]
theorem nth_mem {l : List α} {i : Nat} (h : i < l.length) : nth l i ∈ l := by rw [nth_get h]; exact List.getElem_mem h
theorem mem_nth {l : List α} {x : α} (h : x ∈ l) : ∃ i, i < l.length ∧ x = nth l i := by
  obtain ⟨i, hi, rfl⟩ := List.getElem_of_mem h
  exact ⟨i, hi, (nth_get hi).symm⟩
theorem nth_take (l : List α) (k i : Nat) (h : i < k) : nth (l.take k) i = nth l i := by
  unfold nth; simp [h]
theorem nth_drop (l : List α) (k i : Nat) : nth (l.drop k) i = nth l (k + i) := by
  unfold nth; simp
theorem sd_nth {lt : α → α → Bool} (ht : Tot lt) {l : List α} (h : Sd lt l) {i j : Nat} (hij : i ≤ j) (hj : j < l.length) : lt (nth l j) (nth l i) = false := by
  rcases Nat.lt_or_eq_of_le hij with e | e
  · rw [nth_get hj, nth_get (by omega)]
    exact List.pairwise_iff_getElem.1 h i j (by omega) hj e
  · rw [e]; exact ht.irr _
/-- two places change -/
def swp (l : List α) (i j : Nat) : List α := (l.set i (nth l j)).set j (nth l i)
theorem swp_len (l : List α) (i j : Nat) : (swp l i j).length = l.length := by unfold swp; simp
theorem nth_at (P S : List α) (x : α) (i : Nat) (h : i = P.length) : nth (P ++ x :: S) i = x := by
  subst h
  rw [nth_app_r _ _ _ (Nat.le_refl _), Nat.sub_self]; rfl
theorem swp_at (P Q S : List α) (x y : α) (i j : Nat) (hi : i = P.length) (hj : j = P.length + 1 + Q.length) :
    swp (P ++ x :: (Q ++ y :: S)) i j = P ++ y :: (Q ++ x :: S) := by
  unfold swp
  have e1 : nth (P ++ x :: (Q ++ y :: S)) j = y := by
    rw [show P ++ x :: (Q ++ y :: S) = (P ++ x :: Q) ++ y :: S by simp]
    exact nth_at _ _ _ _ (by simp; omega)
  rw [e1, nth_at P _ x i hi, set_at P _ x y i hi, show P ++ y :: (Q ++ y :: S) = (P ++ y :: Q) ++ y :: S by simp, set_at (P ++ y :: Q) S y x j (by simp; omega)]
  simp
theorem swp_at' (P Q S : List α) (x y : α) (i j : Nat) (hi : i = P.length) (hj : j = P.length + 1 + Q.length) :
    swp (P ++ x :: (Q ++ y :: S)) j i = P ++ y :: (Q ++ x :: S) := by
  unfold swp
  have e1 : nth (P ++ x :: (Q ++ y :: S)) j = y := by
    rw [show P ++ x :: (Q ++ y :: S) = (P ++ x :: Q) ++ y :: S by simp]
    exact nth_at _ _ _ _ (by simp; omega)
  rw [e1, nth_at P _ x i hi, show P ++ x :: (Q ++ y :: S) = (P ++ x :: Q) ++ y :: S by simp, set_at (P ++ x :: Q) S y x j (by simp; omega), show (P ++ x :: Q) ++ x :: S = P ++ x :: (Q ++ x :: S) by simp, set_at P _ x y i hi]
theorem swS_succ (P U Q V S : List α) (n i a b : Nat) (hu : U.length = n) (hv : V.length = n) (hi : i < n) (ha : a = P.length + i) (hb : b = P.length + n + Q.length + i) :
    swp (swS P U Q V S i) a b = swS P U Q V S (i + 1) := by
  unfold swS
  rw [List.drop_eq_getElem_cons (l := U) (by omega), List.drop_eq_getElem_cons (l := V) (by omega), List.take_succ_eq_append_getElem (by omega), List.take_succ_eq_append_getElem (by omega)]
  have := swp_at (P ++ V.take i) (U.drop (i + 1) ++ (Q ++ U.take i)) (V.drop (i + 1) ++ S) U[i] V[i] a b (by simp; omega) (by simp; omega)
  simp only [List.append_assoc, List.cons_append, List.nil_append] at this ⊢
  exact this
/-- insertion: an element that has come to its place -/
theorem ins_done {lt : α → α → Bool} (h : Tot lt) (A B : List α) (x : α) (hs : Sd lt (A ++ B)) (hB : ∀ b ∈ B, lt x b = true) (hA : A = [] ∨ lt x (nth A (A.length - 1)) = false) :
    A ++ x :: B = sortL lt ((A ++ B) ++ [x]) := by
  refine sort_eq h ?_ ?_
  · unfold Sd at hs ⊢
    rw [List.pairwise_append] at hs ⊢
    refine ⟨hs.1, List.pairwise_cons.2 ⟨fun b hb => h.asym (hB b hb), hs.2.1⟩, fun a ha b hb => ?_⟩
    rcases List.mem_cons.1 hb with e | e
    · subst e
      rcases hA with e | e
      · rw [e] at ha; cases ha
      · obtain ⟨i, hi, rfl⟩ := mem_nth ha
        exact h.le_trans (sd_nth h hs.1 (show i ≤ A.length - 1 by omega) (by omega)) e
    · exact hs.2.2 a ha b e
  · have : (x :: B).Perm (B ++ [x]) := (List.perm_append_singleton x B).symm
    rw [List.append_assoc]
    exact List.Perm.append_left A this
/-- one on the left, and one on the right, at its place -/
theorem one_left {lt : α → α → Bool} (h : Tot lt) (R : List α) (x : α) (k : Nat) (hR : Sd lt R) (hk : k ≤ R.length) (h1 : k = 0 ∨ lt (nth R (k - 1)) x = true) (h2 : k = R.length ∨ lt (nth R k) x = false) :
    R.take k ++ x :: R.drop k = sortL lt (x :: R) := by
  refine sort_eq h ?_ ?_
  · unfold Sd
    have hR' := hR
    rw [← List.take_append_drop k R] at hR'
    unfold Sd at hR'
    rw [List.pairwise_append] at hR' ⊢
    refine ⟨hR'.1, List.pairwise_cons.2 ⟨fun b hb => ?_, hR'.2.1⟩, fun a ha b hb => ?_⟩
    · obtain ⟨i, hi, rfl⟩ := mem_nth hb
      rw [nth_drop]
      simp only [List.length_drop] at hi
      exact h.le_trans (h2.resolve_left (by omega)) (sd_nth h hR (show k ≤ k + i by omega) (by omega))
    · rcases List.mem_cons.1 hb with e | e
      · subst e
        obtain ⟨i, hi, rfl⟩ := mem_nth ha
        simp only [List.length_take] at hi
        rw [nth_take _ _ _ (by omega)]
        exact h.le_trans (sd_nth h hR (show i ≤ k - 1 by omega) (by omega)) (h.asym (h1.resolve_left (by omega)))
      · exact hR'.2.2 a ha b e
  · have := List.perm_middle (a := x) (l₁ := R.take k) (l₂ := R.drop k)
    rw [List.take_append_drop] at this
    exact this
theorem one_right {lt : α → α → Bool} (h : Tot lt) (L : List α) (y : α) (k : Nat) (hL : Sd lt L) (hk : k ≤ L.length) (h1 : k = 0 ∨ lt y (nth L (k - 1)) = false) (h2 : k = L.length ∨ lt y (nth L k) = true) :
    L.take k ++ y :: L.drop k = sortL lt (L ++ [y]) := by
  refine sort_eq h ?_ ?_
  · unfold Sd
    have hR' := hL
    rw [← List.take_append_drop k L] at hR'
    unfold Sd at hR'
    rw [List.pairwise_append] at hR' ⊢
    refine ⟨hR'.1, List.pairwise_cons.2 ⟨fun b hb => ?_, hR'.2.1⟩, fun a ha b hb => ?_⟩
    · obtain ⟨i, hi, rfl⟩ := mem_nth hb
      rw [nth_drop]
      simp only [List.length_drop] at hi
      exact h.le_trans (h.asym (h2.resolve_left (by omega))) (sd_nth h hL (show k ≤ k + i by omega) (by omega))
    · rcases List.mem_cons.1 hb with e | e
      · subst e
        obtain ⟨i, hi, rfl⟩ := mem_nth ha
        simp only [List.length_take] at hi
        rw [nth_take _ _ _ (by omega)]
        exact h.le_trans (sd_nth h hL (show i ≤ k - 1 by omega) (by omega)) (h1.resolve_left (by omega))
      · exact hR'.2.2 a ha b e
  · have := List.perm_middle (a := y) (l₁ := L.take k) (l₂ := L.drop k)
    rw [List.take_append_drop] at this
    exact this.trans (List.perm_append_singleton y L).symm
/-- where the search ends: the cut's place -/
theorem cut_at {lt : α → α → Bool} (h : Tot lt) (L R : List α) (lo hi s e n : Nat) (hL : Sd lt L) (hR : Sd lt R)
    (hs : s ≤ L.length) (he : e ≤ R.length) (hn : s + e = n) (hlo : lo ≤ s) (hhi : s ≤ hi) (hloc : lo = 0 ∨ n - lo = R.length) (hhic : hi = L.length ∨ hi = n)
    (h1 : lo < s → lt (nth R (n - s)) (nth L (s - 1)) = false) (h2 : s < hi → lt (nth R (n - s - 1)) (nth L s) = true) :
    (∀ x ∈ L.take s, ∀ y ∈ R.drop e, lt y x = false) ∧ (∀ x ∈ R.take e, ∀ y ∈ L.drop s, lt y x = false) := by
  constructor
  · intro x hx y hy
    obtain ⟨i, hi', rfl⟩ := mem_nth hx
    obtain ⟨j, hj, rfl⟩ := mem_nth hy
    simp only [List.length_take, List.length_drop] at hi' hj
    rw [nth_take _ _ _ (by omega), nth_drop]
    have := h1 (by omega)
    rw [show n - s = e by omega] at this
    exact h.le_trans (h.le_trans (sd_nth h hL (show i ≤ s - 1 by omega) (by omega)) this) (sd_nth h hR (show e ≤ e + j by omega) (by omega))
  · intro x hx y hy
    obtain ⟨i, hi', rfl⟩ := mem_nth hx
    obtain ⟨j, hj, rfl⟩ := mem_nth hy
    simp only [List.length_take, List.length_drop] at hi' hj
    rw [nth_take _ _ _ (by omega), nth_drop]
    have := h2 (by omega)
    rw [show n - s - 1 = e - 1 by omega] at this
    exact h.le_trans (h.le_trans (sd_nth h hR (show i ≤ e - 1 by omega) (by omega)) (h.asym this)) (sd_nth h hL (show s ≤ s + j by omega) (by omega))
end RS
end Go.Proofs.YtecfkhgocjbocaaGreatDoor
namespace Go.Proofs.YtecfkhgocjbocaaGreatDoor
set_option linter.unusedVariables false
set_option linter.unusedSimpArgs false
namespace RS
variable {α : Type}
/-- a piece of a row is another one -/
def put (F : List α) (a : Nat) (M : List α) : List α := F.take a ++ (M ++ F.drop (a + M.length))
theorem put_len (F : List α) (a : Nat) (M : List α) (h : a + M.length ≤ F.length) : (put F a M).length = F.length := by
  unfold put; simp; omega
/-- the piece from x to y -/
def mid (F : List α) (x y : Nat) : List α := (F.drop x).take (y - x)
theorem mid_len (F : List α) (x y : Nat) (h : y ≤ F.length) : (mid F x y).length = y - x := by unfold mid; simp; omega
theorem mid_split (F : List α) (x y : Nat) (h : x ≤ y) (hy : y ≤ F.length) : F = F.take x ++ (mid F x y ++ F.drop y) := by
  unfold mid
  have e : F.drop y = (F.drop x).drop (y - x) := by rw [List.drop_drop]; congr 1; omega
  rw [e, List.take_append_drop, List.take_append_drop]
theorem mid_join (F : List α) (x y z : Nat) (h : x ≤ y) (hz : y ≤ z) : mid F x y ++ mid F y z = mid F x z := by
  unfold mid
  have e : F.drop y = (F.drop x).drop (y - x) := by rw [List.drop_drop]; congr 1; omega
  rw [e, show z - x = (y - x) + (z - y) by omega, List.take_add]
theorem mid_two (F : List α) (x y z : Nat) (h : x ≤ y) (hz : y ≤ z) (hl : z ≤ F.length) : F = F.take x ++ (mid F x y ++ (mid F y z ++ F.drop z)) := by
  have e1 := mid_split F x y h (by omega)
  have e2 : F.drop y = mid F y z ++ F.drop z := by
    unfold mid
    have e : F.drop z = (F.drop y).drop (z - y) := by rw [List.drop_drop]; congr 1; omega
    rw [e, List.take_append_drop]
  rw [← e2]; exact e1
theorem put_perm (F M : List α) (x y : Nat) (h : x ≤ y) (hy : y ≤ F.length) (hp : M.Perm (mid F x y)) : (put F x M).Perm F := by
  have hl := hp.length_eq
  rw [mid_len _ _ _ hy] at hl
  have e := mid_split F x y h hy
  unfold put
  rw [show x + M.length = y by omega]
  conv => rhs; rw [e]
  exact List.Perm.append_left _ (hp.append_right _)
variable [Inhabited α]
theorem nth_put_out (F : List α) (a : Nat) (M : List α) (h : a + M.length ≤ F.length) (i : Nat) (hi : i < a ∨ a + M.length ≤ i) : nth (put F a M) i = nth F i := by
  unfold put
  have hl : (F.take a).length = a := by simp; omega
  rcases hi with e | e
  · rw [nth_app_l _ _ _ (by omega), nth_take _ _ _ e]
  · rw [nth_app_r _ _ _ (by omega), nth_app_r _ _ _ (by omega), nth_drop, hl]
    congr 1; omega
theorem nth_put_in (F : List α) (a : Nat) (M : List α) (h : a + M.length ≤ F.length) (i : Nat) (h1 : a ≤ i) (h2 : i < a + M.length) : nth (put F a M) i = nth M (i - a) := by
  unfold put
  have hl : (F.take a).length = a := by simp; omega
  rw [nth_app_r _ _ _ (by omega), hl, nth_app_l _ _ _ (by omega)]
theorem nth_mid (F : List α) (x y i : Nat) (h : i < y - x) : nth (mid F x y) i = nth F (x + i) := by
  unfold mid; rw [nth_take _ _ _ h, nth_drop]
/-- sorted between two places -/
def SR (lt : α → α → Bool) (F : List α) (x y : Nat) : Prop := ∀ i j, x ≤ i → i ≤ j → j < y → j < F.length → lt (nth F j) (nth F i) = false
theorem SR.sd {lt : α → α → Bool} {F : List α} {x y : Nat} (h : SR lt F x y) (hy : y ≤ F.length) : Sd lt (mid F x y) := by
  unfold Sd
  rw [List.pairwise_iff_getElem]
  intro i j hi hj hij
  rw [mid_len _ _ _ hy] at hi hj
  rw [← nth_get, ← nth_get, nth_mid _ _ _ _ hi, nth_mid _ _ _ _ hj]
  exact h _ _ (by omega) (by omega) (by omega) (by omega)
theorem SR.out {lt : α → α → Bool} {F M : List α} {x y a : Nat} (h : SR lt F x y) (hl : a + M.length ≤ F.length) (hd : y ≤ a ∨ a + M.length ≤ x) : SR lt (put F a M) x y := by
  intro i j h1 h2 h3 h4
  rw [put_len _ _ _ hl] at h4
  rw [nth_put_out _ _ _ hl _ (by omega), nth_put_out _ _ _ hl _ (by omega)]
  exact h i j h1 h2 h3 h4
theorem sr_in {lt : α → α → Bool} (ht : Tot lt) {F M : List α} {x y a : Nat} (hs : Sd lt M) (hl : a + M.length ≤ F.length) (hx : a ≤ x) (hy : y ≤ a + M.length ∨ F.length ≤ a + M.length) : SR lt (put F a M) x y := by
  intro i j h1 h2 h3 h4
  rw [put_len _ _ _ hl] at h4
  rw [nth_put_in _ _ _ hl _ (by omega) (by omega), nth_put_in _ _ _ hl _ (by omega) (by omega)]
  exact sd_nth ht hs (by omega) (by omega)
theorem SR.all {lt : α → α → Bool} (ht : Tot lt) {F F0 : List α} {y : Nat} (h : SR lt F 0 y) (hy : F.length ≤ y) (hp : F.Perm F0) : F = sortL lt F0 := by
  refine sort_eq ht ?_ hp
  have : SR lt F 0 F.length := fun i j h1 h2 h3 h4 => h i j h1 h2 (by omega) h4
  have := this.sd (Nat.le_refl _)
  unfold mid at this
  rwa [List.drop_zero, Nat.sub_zero, List.take_length] at this
theorem sr_beyond {lt : α → α → Bool} {F : List α} {x y : Nat} (h : F.length ≤ x) : SR lt F x y := fun i j h1 h2 h3 h4 => by omega
/-- all blocks of a size are sorted, from the first to the t-th -/
def Bks (lt : α → α → Bool) (F : List α) (s t : Nat) : Prop := ∀ k, k < t → SR lt F (s * k) (s * k + s)
/-- all blocks of a size are sorted, from the t-th on -/
def Bkf (lt : α → α → Bool) (F : List α) (s t : Nat) : Prop := ∀ k, t ≤ k → SR lt F (s * k) (s * k + s)
theorem bks_zero {lt : α → α → Bool} (F : List α) (s : Nat) : Bks lt F s 0 := fun k hk => by omega
theorem Bks.step {lt : α → α → Bool} (ht : Tot lt) {F M : List α} {s t a : Nat} (h : Bks lt F s t) (ha : a = s * t) (hm : M.length = s) (hl : a + M.length ≤ F.length) (hs : Sd lt M) : Bks lt (put F a M) s (t + 1) := by
  intro k hk
  by_cases e : k = t
  · subst e
    exact sr_in ht hs hl (by omega) (by omega)
  · have := Nat.mul_le_mul_left s (show k + 1 ≤ t by omega)
    rw [Nat.mul_succ] at this
    exact (h k (by omega)).out hl (by omega)
theorem Bks.last {lt : α → α → Bool} (ht : Tot lt) {F M : List α} {s t a : Nat} (h : Bks lt F s t) (ha : a = s * t) (hl : a + M.length = F.length) (hm : M.length ≤ s) (hs : Sd lt M) : Bkf lt (put F a M) s 0 := by
  intro k _
  by_cases e : k < t
  · have := Nat.mul_le_mul_left s (show k + 1 ≤ t by omega)
    rw [Nat.mul_succ] at this
    exact (h k e).out (by omega) (by omega)
  · have := Nat.mul_le_mul_left s (show t ≤ k by omega)
    exact sr_in ht hs (by omega) (by omega) (by omega)
theorem Bks.end {lt : α → α → Bool} {F : List α} {s t : Nat} (h : Bks lt F s t) (hl : F.length ≤ s * t) : Bkf lt F s 0 := by
  intro k _
  by_cases e : k < t
  · exact h k e
  · have := Nat.mul_le_mul_left s (show t ≤ k by omega)
    exact sr_beyond (by omega)
/-- two blocks, merged, are one of twice the size -/
theorem Bkf.step {lt : α → α → Bool} {F M : List α} {s t a : Nat} (h : Bkf lt F s (2 * t)) (ha : a = 2 * s * t) (hm : M.length ≤ 2 * s) (hl : a + M.length ≤ F.length) : Bkf lt (put F a M) s (2 * (t + 1)) := by
  intro k hk
  have := Nat.mul_le_mul_left s hk
  rw [show s * (2 * (t + 1)) = 2 * s * t + 2 * s by rw [show 2 * (t + 1) = 2 * t + 2 by omega, Nat.mul_add, ← Nat.mul_assoc, Nat.mul_comm s 2]] at this
  exact (h k (by omega)).out hl (by omega)
theorem Bkf.left {lt : α → α → Bool} {F : List α} {s t a : Nat} (h : Bkf lt F s (2 * t)) (ha : a = 2 * s * t) : SR lt F a (a + s) := by
  have := h (2 * t) (by omega)
  rwa [show s * (2 * t) = a by rw [ha, ← Nat.mul_assoc, Nat.mul_comm s 2]] at this
theorem Bkf.right {lt : α → α → Bool} {F : List α} {s t a : Nat} (h : Bkf lt F s (2 * t)) (ha : a = 2 * s * t) : SR lt F (a + s) (a + s + s) := by
  have := h (2 * t + 1) (by omega)
  rwa [show s * (2 * t + 1) = a + s by rw [ha, Nat.mul_succ, ← Nat.mul_assoc, Nat.mul_comm s 2]] at this
theorem SR.less {lt : α → α → Bool} {F : List α} {x y z : Nat} (h : SR lt F x y) (hz : z ≤ y) : SR lt F x z := fun i j h1 h2 h3 h4 => h i j h1 h2 (by omega) h4
/-- the last block, which is alone, and at most as great as one -/
theorem Bks.alone {lt : α → α → Bool} {F : List α} {s t a : Nat} (h : Bks lt F (2 * s) t) (hf : Bkf lt F s (2 * t)) (ha : a = 2 * s * t) (hl : F.length ≤ a + s) : Bkf lt F (2 * s) 0 := by
  intro k _
  by_cases e : k < t
  · exact h k e
  · by_cases e2 : k = t
    · subst e2
      have := hf.left ha
      intro i j h1 h2 h3 h4
      exact this i j (by omega) h2 (by omega) h4
    · have := Nat.mul_le_mul_left (2 * s) (show t + 1 ≤ k by omega)
      rw [Nat.mul_succ] at this
      exact sr_beyond (by omega)
theorem Bkf.done {lt : α → α → Bool} (ht : Tot lt) {F F0 : List α} {s : Nat} (h : Bkf lt F s 0) (hl : F.length ≤ s) (hp : F.Perm F0) : F = sortL lt F0 := by
  have := h 0 (Nat.zero_le _)
  rw [Nat.mul_zero, Nat.zero_add] at this
  exact this.all ht hl hp
end RS
end Go.Proofs.YtecfkhgocjbocaaGreatDoor
namespace Go.Proofs.YtecfkhgocjbocaaGreatDoor
set_option linter.unusedVariables false
set_option linter.unusedSimpArgs false
open Go Go.RowKit

namespace RL
open CF
/-- a fault -/
structure Ft where
  kind : Int
  name : List UInt8
  deriving DecidableEq
instance : Inhabited Ft := ⟨⟨0, []⟩⟩
def ftV (f : Ft) : Array Value := #[.int .i64 f.kind, .string (S8 f.name)]
def ftC (f : Ft) : List Value := [.int .i64 f.kind, .string (S8 f.name)]
/-- faults as cells -/
def FTS (C : List Ft) : List Value := C.flatMap ftC
theorem FTS_length (C : List Ft) : (FTS C).length = C.length * 2 := by
  induction C with
  | nil => rfl
  | cons x r ih =>
    show (ftC x ++ FTS r).length = _
    rw [List.length_append, ih]
    simp [ftC]; omega
theorem FTS_append (C D : List Ft) : FTS (C ++ D) = FTS C ++ FTS D := by simp [FTS]
theorem ftC_one (f : Ft) : ∀ u ∈ ftC f, u.oneCell' = true := by
  intro u hu
  simp [ftC] at hu
  rcases hu with rfl | rfl <;> rfl
theorem FTS_one (C : List Ft) : ∀ u ∈ FTS C, u.oneCell' = true := by
  intro u hu
  obtain ⟨l, _, h⟩ := List.mem_flatMap.1 hu
  exact ftC_one l u h
theorem FTS_get (C : List Ft) (k : Nat) (hk : k < C.length) (j : Nat) (hj : j < 2) : (FTS C)[k * 2 + j]? = (ftC (RS.nth C k))[j]? := by
  induction C generalizing k with
  | nil => simp at hk
  | cons x r ih =>
    show (ftC x ++ FTS r)[k * 2 + j]? = _
    have hx : (ftC x).length = 2 := rfl
    cases k with
    | zero =>
      rw [Nat.zero_mul, Nat.zero_add, List.getElem?_append_left (by omega)]
      rfl
    | succ k =>
      rw [List.getElem?_append_right (by omega), show (k + 1) * 2 + j - (ftC x).length = k * 2 + j by omega, ih k (by simpa using hk)]
      rfl
theorem sl_fts {w : World} {A : Option Addr} {n c : Nat} {C : List Ft} (h : Sl w 2 (.slice A n c) (FTS C)) : C.length = n ∧ n ≤ c ∧ c ≤ 9223372036854775807 := by
  obtain ⟨A', n', c', he, hl, h2, h3, hr⟩ := h
  injection he with h4 h5 h6
  subst h4; subst h5; subst h6
  rw [FTS_length] at hl
  exact ⟨by omega, h2, by simpa [maxLen] using h3⟩
theorem sl_ft {w : World} {A : Option Addr} {n c : Nat} {C : List Ft} (h : Sl w 2 (.slice A n c) (FTS C)) {k : Nat} (hk : k < n) :
    ∃ b off, A = some ⟨b, off, none⟩ ∧ b < w.heap.size ∧ w.rangeAt b (off + k * 2) (ftC (RS.nth C k)) := by
  have hl := (sl_fts h).1
  obtain ⟨A', n', c', he, _, h2, h3, hr⟩ := h
  injection he with h4 h5 h6
  subst h4; subst h5; subst h6
  obtain ⟨b, off, rfl, hb, hc⟩ := hr (by omega)
  refine ⟨b, off, rfl, hb, fun j v hj => ?_⟩
  have hj4 : j < 2 := (List.getElem?_eq_some_iff.1 hj).1
  rw [Nat.add_assoc, hc (k * 2 + j) (by omega), FTS_get C k (by omega) j hj4]
  exact hj
theorem own_setft {w : World} {T : TypeId} {B g n c i : Nat} {C : List Ft} (l : Ft) (hown : w.ownsRow B T 2 (.slice (some ⟨g, 0, none⟩) n c) n (FTS C)) (hC : C.length = n) (hi : i < n) :
    (w.setCells g (i * 2) (ftC l)).ownsRow B T 2 (.slice (some ⟨g, 0, none⟩) n c) n (FTS (C.set i l)) := by
  have h1 := (hown.stored (i * 2) (.int .i64 l.kind)).1
  have h4 := (h1.stored (i * 2 + 1) (.string (S8 l.name))).1
  have e : (((FTS C).set (i * 2) (.int .i64 l.kind)).set (i * 2 + 1) (.string (S8 l.name))) = FTS (C.set i l) := by
    have hxl : (FTS C).length = n * 2 := by rw [FTS_length, hC]
    apply List.ext_getElem?
    intro j
    by_cases hj : j < n * 2
    · have e1 : (FTS (C.set i l))[j]? = (ftC (RS.nth (C.set i l) (j / 2)))[j % 2]? := by
        have := FTS_get (C.set i l) (j / 2) (by rw [List.length_set]; omega) (j % 2) (by omega)
        rwa [show j / 2 * 2 + j % 2 = j by omega] at this
      have e2 : (FTS C)[j]? = (ftC (RS.nth C (j / 2)))[j % 2]? := by
        have := FTS_get C (j / 2) (by omega) (j % 2) (by omega)
        rwa [show j / 2 * 2 + j % 2 = j by omega] at this
      rw [e1]
      simp only [List.getElem?_set, List.length_set, hxl]
      by_cases hq : j / 2 = i
      · have e4 : RS.nth (C.set i l) (j / 2) = l := by rw [hq, RS.nth_get (by rw [List.length_set]; omega)]; simp
        rw [e4]
        have hm : j % 2 = 0 ∨ j % 2 = 1 := by omega
        rcases hm with hm | hm
        · obtain rfl : j = i * 2 := by omega
          rw [hm, if_neg (by omega), if_pos rfl, if_pos hj]; rfl
        · obtain rfl : j = i * 2 + 1 := by omega
          rw [hm, if_pos rfl, if_pos hj]; rfl
      · have e4 : RS.nth (C.set i l) (j / 2) = RS.nth C (j / 2) := by
          rw [RS.nth_get (by rw [List.length_set]; omega), RS.nth_get (by omega), List.getElem_set_ne (fun h => hq h.symm)]
        rw [if_neg (by omega), if_neg (by omega), e2, e4]
    · rw [List.getElem?_eq_none (by simp only [List.length_set]; omega), List.getElem?_eq_none (by rw [FTS_length, List.length_set]; omega)]
  rw [e] at h4
  exact h4
/-- which fault is ahead -/
def cmpF (a b : Ft) : Int := if cmpZ a.kind b.kind ≠ 0 then cmpZ a.kind b.kind else cmpT a.name b.name
def ltF (a b : Ft) : Bool := decide (cmpF a b < 0)
theorem cmpF_zero (a b : Ft) : cmpF a b = 0 ↔ a = b := by
  unfold cmpF
  have h1 := cmpZ_zero a.kind b.kind
  have h2 := cmpT_zero a.name b.name
  constructor
  · intro h
    by_cases e : cmpZ a.kind b.kind = 0
    · rw [if_neg (by omega)] at h
      obtain ⟨k, n⟩ := a; obtain ⟨k', n'⟩ := b
      simp only at *
      rw [h1.1 e, h2.1 h]
    · rw [if_pos e] at h; omega
  · rintro rfl
    rw [if_neg (by rw [h1.2 rfl]; simp)]
    exact h2.2 rfl
theorem cmpF_neg (a b : Ft) : cmpF b a = - cmpF a b := by
  unfold cmpF
  have h1 := cmpZ_neg a.kind b.kind
  have h2 := cmpT_neg a.name b.name
  by_cases e : cmpZ a.kind b.kind = 0
  · rw [if_neg (by omega), if_neg (by omega)]; exact h2
  · rw [if_pos (by omega), if_pos e]; exact h1
theorem tot_ltF : RS.Tot ltF := by
  refine ⟨fun a => ?_, fun a b c h1 h2 => ?_, fun a b h1 h2 => ?_⟩
  · unfold ltF; rw [(cmpF_zero a a).2 rfl]; rfl
  · unfold ltF at *
    simp only [decide_eq_true_eq] at *
    unfold cmpF at *
    have z1 := cmpZ_lt a.kind b.kind
    have z2 := cmpZ_lt b.kind c.kind
    have z3 := cmpZ_lt a.kind c.kind
    have y1 := cmpZ_zero a.kind b.kind
    have y2 := cmpZ_zero b.kind c.kind
    have y3 := cmpZ_zero a.kind c.kind
    by_cases e1 : a.kind = b.kind
    · by_cases e2 : b.kind = c.kind
      · rw [if_neg (by omega)] at h1 h2 ⊢
        exact cmpT_trans _ _ _ h1 h2
      · rw [if_pos (by omega)] at h2 ⊢
        exact z3.2 (by have := z2.1 h2; omega)
    · rw [if_pos (by omega)] at h1
      have := z1.1 h1
      by_cases e2 : b.kind = c.kind
      · rw [if_pos (by omega)]
        exact z3.2 (by omega)
      · rw [if_pos (by omega)] at h2
        have := z2.1 h2
        rw [if_pos (by omega)]
        exact z3.2 (by omega)
  · unfold ltF at *
    simp only [decide_eq_false_iff_not] at *
    have := cmpF_neg a b
    exact (cmpF_zero a b).1 (by omega)
end RL
end Go.Proofs.YtecfkhgocjbocaaGreatDoor
namespace Go.Proofs.YtecfkhgocjbocaaGreatDoor
set_option linter.unusedVariables false
set_option linter.unusedSimpArgs false
open Go Go.RowKit

namespace RL
open CF
/-- the faults' order, as a value -/
def CB : Value := .func (.func 71) #[] #[]
/-- faults that are one's own -/
def Own (B g N c : Nat) (F : List Ft) (w : World) : Prop := w.ownsRow B 75 2 (.slice (some ⟨g, 0, none⟩) N c) N (FTS F)
theorem own_row2 {w : World} {B g n c : Nat} {e : TypeId} {xs : List Value} (h : w.ownsRow B e 2 (.slice (some ⟨g, 0, none⟩) n c) n xs) :
    B ≤ g ∧ g < w.heap.size ∧ n ≤ c ∧ c ≤ maxLen ∧ xs.length = n * 2 ∧ (∀ j < c * 2, (w.cell? ⟨g, j, none⟩).isSome = true) ∧ (∀ j, w.frozen? ⟨g, j, none⟩ = false) ∧ (∀ j < n * 2, w.cell? ⟨g, j, none⟩ = xs[j]?) ∧ w.shape? g = some (e, c * 2) := by
  obtain ⟨hl, h1 | ⟨g', cap, cur, hv, hb, hg, hnc, hm, hsz, ht⟩⟩ := h
  · obtain ⟨h1, _⟩ := h1
    cases h1
  · injection hv with e1 e2 e3
    injection e1 with e1
    injection e1 with e1
    subst e1; subst e3
    refine ⟨hb, blk_lt hg, hnc, hm, hl, fun j hj => ?_, fun j => frozen_of_row w _ j cur e hg, fun j hj => ?_, by simp [World.shape?, hg, hsz]⟩
    · rw [cell_of_row w _ j cur e (0, 0) hg, Array.getElem?_eq_getElem (by omega)]; rfl
    · rw [cell_of_row w _ j cur e (0, 0) hg, ← ht, List.getElem?_take, if_pos (by omega)]
      simp
theorem own_nth {B g N c : Nat} {F : List Ft} {w : World} (h : Own B g N c F w) : F.length = N := (sl_fts (own_sl h)).1
theorem own_cells {B g N c : Nat} {F : List Ft} {w : World} (h : Own B g N c F w) {i : Nat} (hi : i < N) :
    w.cell? ⟨g, i * 2, none⟩ = some (.int .i64 (RS.nth F i).kind) ∧ w.cell? ⟨g, i * 2 + 1, none⟩ = some (.string (S8 (RS.nth F i).name)) ∧ w.frozen? ⟨g, i * 2, none⟩ = false ∧ w.frozen? ⟨g, i * 2 + 1, none⟩ = false := by
  have hl := own_nth h
  obtain ⟨_, _, _, _, _, _, hfz, hcell, _⟩ := own_row2 h
  have e1 := hcell (i * 2 + 0) (by omega)
  have e2 := hcell (i * 2 + 1) (by omega)
  rw [FTS_get F i (by omega) 0 (by omega)] at e1
  rw [FTS_get F i (by omega) 1 (by omega)] at e2
  exact ⟨e1, e2, hfz _, hfz _⟩
theorem own_swp {B g N c : Nat} {F : List Ft} {w : World} (h : Own B g N c F w) {i j : Nat} (hi : i < N) (hj : j < N) :
    Own B g N c (RS.swp F i j) ((w.setCells g (i * 2) (ftC (RS.nth F j))).setCells g (j * 2) (ftC (RS.nth F i))) := by
  have hl := own_nth h
  have h1 : Own B g N c (F.set i (RS.nth F j)) _ := own_setft (RS.nth F j) h hl hi
  exact own_setft (RS.nth F i) h1 (by rw [List.length_set]; exact hl) hj
theorem swp_below {B g : Nat} {w w0 : World} (hg : B ≤ g) (hb : Below B w0 w) (i j : Nat) (x y : List Value) : Below B w0 ((w.setCells g i x).setCells g j y) :=
  below_setCells hg _ _ _ (below_setCells hg _ _ _ hb)
/-- behind an exchange -/
theorem exch {B g N c : Nat} {F : List Ft} {w : World} (h : Own B g N c F w) {i j : Nat} (hi : i < N) (hj : j < N) {xk yk : Int} {xn yn : ByteArray} (e1 : (RS.nth F i).kind = xk) (e2 : S8 (RS.nth F i).name = xn) (e3 : (RS.nth F j).kind = yk) (e4 : S8 (RS.nth F j).name = yn) :
    Own B g N c (RS.swp F i j) ((((w.setCell ⟨g, i * 2, none⟩ (.int .i64 yk)).setCell ⟨g, i * 2 + 1, none⟩ (.string yn)).setCell ⟨g, j * 2, none⟩ (.int .i64 xk)).setCell ⟨g, j * 2 + 1, none⟩ (.string xn)).drew ∧
    (∀ w0, Below B w0 w → Below B w0 ((((w.setCell ⟨g, i * 2, none⟩ (.int .i64 yk)).setCell ⟨g, i * 2 + 1, none⟩ (.string yn)).setCell ⟨g, j * 2, none⟩ (.int .i64 xk)).setCell ⟨g, j * 2 + 1, none⟩ (.string xn)).drew) := by
  subst e1 e2 e3 e4
  exact ⟨own_drew (own_swp h hi hj), fun w0 hb => (swp_below (own_row2 h).1 hb (i * 2) (j * 2) (ftC (RS.nth F j)) (ftC (RS.nth F i))).drew⟩
set_option maxRecDepth 100000 in
set_option maxHeartbeats 1600000 in
theorem swapRange_any (P U Q V S : List Ft) (B g N c a b n : Nat) (w : World) (h : Own B g N c (P ++ (U ++ (Q ++ (V ++ S)))) w) (hu : U.length = n) (hv : V.length = n) (ha : a = P.length) (hb : b = P.length + n + Q.length) (hB : B ≤ w.heap.size) (hN : N ≤ 1000) :
    Calls Tryz.prog 157 #[.slice (some ⟨g, 0, none⟩) N c, .int .i64 a, .int .i64 b, .int .i64 n, CB] w fun e w' => e = .returned (.tuple #[]) ∧ Own B g N c (P ++ (V ++ (Q ++ (U ++ S)))) w' ∧ Below B w w' := by
  have hlen := own_nth h
  simp only [List.length_append] at hlen
  have hgB : B ≤ g := (own_row2 h).1
  have HO := hid h
  have HE := hid (And.intro hu hv)
  have hab : a + n ≤ b := by omega
  have hbn : b + n ≤ N := by omega
  have HS : Hid (∀ k, k < n → RS.swp (RS.swS P U Q V S k) (a + k) (b + k) = RS.swS P U Q V S (k + 1)) := fun k hk => RS.swS_succ P U Q V S n k (a + k) (b + k) hu hv hk (by omega) (by omega)
  clear h hlen ha hb hu hv
  unfold CB
  go_enter Tryz.func157, Tryz.ntmps157
  go_wp2_with fail
  go_loopw [10] (fun i wr => ∃ k : Nat, k ≤ n ∧ i = .int .i64 k ∧ Own B g N c (RS.swS P U Q V S k) wr ∧ Below B w wr) (fun i _ => n - (intOf i).toNat)
  case atStart => exact ⟨0, Nat.zero_le _, rfl, by rw [RS.swS_zero]; exact HO.out, Below.refl _ _⟩
  case round =>
    obtain ⟨k, hk, rfl, ho, hbr⟩ := hrel
    by_cases hlt : k < n
    · have HS1 := hid (HS.out k hlt)
      generalize RS.swS P U Q V S k = F at *
      obtain ⟨nx, hnx⟩ : ∃ z, z = a + k := ⟨_, rfl⟩
      obtain ⟨ny, hny⟩ : ∃ z, z = b + k := ⟨_, rfl⟩
      have hnxN : nx < N := by omega
      have hnyN : ny < N := by omega
      have hne : nx < ny := by omega
      rw [← hnx, ← hny] at HS1
      have ex1 : (a : Int) + (k : Int) = (nx : Int) := by omega
      have ex2 : (b : Int) + (k : Int) = (ny : Int) := by omega
      clear hnx hny
      obtain ⟨c1, c2, f1, f2⟩ := own_cells ho hnxN
      obtain ⟨d1, d2, g1, g2⟩ := own_cells ho hnyN
      have HQ := hid (exch ho hnxN hnyN rfl rfl rfl rfl)
      have HB := hid hbr
      generalize RS.nth F nx = x at *
      generalize RS.nth F ny = y at *
      generalize S8 x.name = xn at *
      generalize S8 y.name = yn at *
      generalize x.kind = xk at *
      generalize y.kind = yk at *
      have hc1 : wr.drew.cell? ⟨g, nx * 2, none⟩ = some (.int .i64 xk) := c1
      have hc2 : wr.drew.cell? ⟨g, nx * 2 + 1, none⟩ = some (.string xn) := c2
      have hd1 : wr.drew.cell? ⟨g, ny * 2, none⟩ = some (.int .i64 yk) := d1
      have hd2 : wr.drew.cell? ⟨g, ny * 2 + 1, none⟩ = some (.string yn) := d2
      have hf1 : wr.drew.frozen? ⟨g, nx * 2, none⟩ = false := f1
      have hf2 : wr.drew.frozen? ⟨g, nx * 2 + 1, none⟩ = false := f2
      have hg1 : wr.drew.frozen? ⟨g, ny * 2, none⟩ = false := g1
      have hg2 : wr.drew.frozen? ⟨g, ny * 2 + 1, none⟩ = false := g2
      clear ho hbr
      go_wp2_with fail
      go_big_region
      clear hc1 hc2 hd1 hd2 hf1 hf2 hg1 hg2 c1 c2 d1 d2 f1 f2 g1 g2
      go_wp2_with fail
      go_light
      exact ⟨⟨k + 1, by omega, by go_num, by rw [← HS1.out]; exact HQ.out.1, HQ.out.2 w HB.out⟩, by simp [intOf]; omega⟩
    · obtain rfl : k = n := by omega
      go_wp2_with fail
      go_end0
      exact ⟨rfl, by rw [← RS.swS_end P U Q V S k HE.out.1 HE.out.2]; exact ho, hbr⟩
end RL
end Go.Proofs.YtecfkhgocjbocaaGreatDoor
namespace Go.Proofs.YtecfkhgocjbocaaGreatDoor
set_option linter.unusedVariables false
set_option linter.unusedSimpArgs false
open Go Go.RowKit

namespace RL
open CF
set_option maxRecDepth 100000 in
set_option maxHeartbeats 1600000 in
theorem or2_any (A : Option Addr) (c : Nat) (x y : Int) (w : World) (h : Sl w 1 (.slice A 2 c) [.int .i64 x, .int .i64 y]) :
    Calls Tryz.prog 72 #[.slice A 2 c] w fun e w' => e = .returned (.int .i64 (if x = 0 then y else x)) ∧ Below w.heap.size w w' := by
  obtain ⟨A', n', c', he, hl, _, _, h⟩ := h
  injection he with e1 e2 e3
  subst e1; subst e2; subst e3
  obtain ⟨b, off, rfl, hb, h⟩ := h (by omega)
  have h0 : w.cell? ⟨b, off, none⟩ = some (.int .i64 x) := h 0 (by omega)
  have h1 : w.cell? ⟨b, off + 1, none⟩ = some (.int .i64 y) := h 1 (by omega)
  clear h hl
  go_enter Tryz.func72, Tryz.ntmps72
  go_wp2_with fail
  go_loop [8] (fun i => i = .int .i64 0 ∨ (i = .int .i64 1 ∧ x = 0) ∨ (i = .int .i64 2 ∧ x = 0 ∧ y = 0)) (fun i => 2 - (intOf i).toNat)
  case atStart => exact .inl rfl
  case round =>
    rcases hrel with rfl | ⟨rfl, hx⟩ | ⟨rfl, hx, hy⟩
    · by_cases hx : x = 0
      · subst hx
        go_wp2_with fail
        exact ⟨by first | exact .inr (.inl ⟨rfl, rfl⟩) | simp, by first | decide | simp [intOf]⟩
      ·
        go_wp2_with fail
        go_ret
        exact ⟨by simp [*], by (repeat (first | with_reducible exact Below.refl _ _ | with_reducible assumption | with_reducible refine Below.drew ?_ | with_reducible refine below_drewN ?_ _ | (with_reducible refine Below.alloc ?_ ?_ _; rotate_left; · (first | (simp; done) | omega | (simp at *; omega))) | (with_reducible refine Below.setCell ?_ ?_ _; rotate_left; · (first | (simp only []; omega) | (simp; done) | (simp; omega))) | with_reducible refine Below.trans ?_ (by with_reducible assumption)))⟩
    · subst hx
      by_cases hy : y = 0
      · subst hy
        go_wp2_with fail
        exact ⟨by first | exact .inr (.inr ⟨rfl, rfl, rfl⟩) | simp, by first | decide | simp [intOf]⟩
      ·
        go_wp2_with fail
        go_ret
        exact ⟨by simp [*], by (repeat (first | with_reducible exact Below.refl _ _ | with_reducible assumption | with_reducible refine Below.drew ?_ | with_reducible refine below_drewN ?_ _ | (with_reducible refine Below.alloc ?_ ?_ _; rotate_left; · (first | (simp; done) | omega | (simp at *; omega))) | (with_reducible refine Below.setCell ?_ ?_ _; rotate_left; · (first | (simp only []; omega) | (simp; done) | (simp; omega))) | with_reducible refine Below.trans ?_ (by with_reducible assumption)))⟩
    · subst hx; subst hy
      go_wp2_with fail
      go_ret
      exact ⟨by simp [*], by (repeat (first | with_reducible exact Below.refl _ _ | with_reducible assumption | with_reducible refine Below.drew ?_ | with_reducible refine below_drewN ?_ _ | (with_reducible refine Below.alloc ?_ ?_ _; rotate_left; · (first | (simp; done) | omega | (simp at *; omega))) | (with_reducible refine Below.setCell ?_ ?_ _; rotate_left; · (first | (simp only []; omega) | (simp; done) | (simp; omega))) | with_reducible refine Below.trans ?_ (by with_reducible assumption)))⟩
set_option maxRecDepth 100000 in
set_option maxHeartbeats 1600000 in
theorem cmpFt_any (a b : Ft) (w : World) :
    Calls Tryz.prog 71 #[.agg (ftV a), .agg (ftV b)] w fun e w' => e = .returned (.int .i64 (cmpF a b)) ∧ Below w.heap.size w w' := by
  obtain ⟨h1, n1⟩ := a
  obtain ⟨h2, n2⟩ := b
  show Calls _ _ #[.agg #[.int .i64 h1, .string (S8 n1)], .agg #[.int .i64 h2, .string (S8 n2)]] _ _
  have hX := fun w => cmpInt_any h1 h2 w
  have hY := fun w => strCmp_any n1 n2 w
  have hO : cmpF ⟨h1, n1⟩ ⟨h2, n2⟩ = if cmpZ h1 h2 = 0 then cmpT n1 n2 else cmpZ h1 h2 := by
    unfold cmpF
    by_cases e : cmpZ h1 h2 = 0
    · rw [if_pos e, if_neg (by simp [e])]
    · rw [if_neg e, if_pos e]
  rw [hO]
  clear hO
  generalize cmpZ h1 h2 = x at *
  generalize cmpT n1 n2 = y at *
  have hOr : ∀ A c w, Sl w 1 (.slice A 2 c) [.int .i64 x, .int .i64 y] → Calls Tryz.prog 72 #[.slice A 2 c] w fun e w' => e = .returned (.int .i64 (if x = 0 then y else x)) ∧ Below w.heap.size w w' := fun A c w h => or2_any A c x y w h
  generalize (if x = 0 then y else x) = o at *
  have HO := hid hOr
  clear hOr
  have HX := hid hX
  have HY := hid hY
  clear hX hY
  generalize S8 n1 = t1 at *
  generalize S8 n2 = t2 at *
  obtain ⟨hb0, hx0, hl0⟩ := box1 w (.cells #[.int .i64 h1, .string t1] 75)
  obtain ⟨hb1, hx1, hl1⟩ := box1 (w.alloc (.cells #[.int .i64 h1, .string t1] 75)) (.cells #[.int .i64 h2, .string t2] 75)
  have hp1 := blk_below hx0 hb1 hl0
  have hbw := hb0.trans (hb1.mono hb0.size)
  have hsz : (w.alloc (.cells #[.int .i64 h1, .string t1] 75)).heap.size = w.heap.size + 1 := by simp
  rw [hsz] at hx1
  have HW := hid (And.intro hx1 (And.intro hp1 hbw))
  clear hx1 hp1 hbw hb0 hx0 hl0 hb1 hl1 hsz
  go_enter Tryz.func71, Tryz.ntmps71
  go_upto_region 1 with fail
  generalize (w.alloc (.cells #[.int .i64 h1, .string t1] 75)).alloc (.cells #[.int .i64 h2, .string t2] 75) = w1 at *
  obtain ⟨hba, hbb, hbw⟩ := HW.out
  clear HW
  have la := blk_lt hba
  have lb := blk_lt hbb
  have za := fun (z : WK (fun _ => False) w1) i => (wat_cell (p := ⟨w.heap.size, i, none⟩) lb (by simp) z).trans (blkCell hbb i)
  have zb := fun (z : WK (fun _ => False) w1) i => (wat_cell (p := ⟨w.heap.size + 1, i, none⟩) la (by simp) z).trans (blkCell hba i)
  have za0 := fun z => za z 0
  have za1 := fun z => za z 1
  have zb0 := fun z => zb z 0
  have zb1 := fun z => zb z 1
  clear za zb
  simp only [List.getElem?_toArray, List.getElem?_cons_zero, List.getElem?_cons_succ] at za0 za1 zb0 zb1
  refine wp_region_loud (fun _ => False)
      [(4, plainL [] (.int .i64 x)), (9, plainL [] (.int .i64 y)), (10, rowL [] w1.heap.size 3 1 2 [.int .i64 x, .int .i64 y]),
       (11, plainL [10] (.int .i64 o))]
      (fun _ => Fact.none) (by kernel_rfl) (by kernel_rfl)
      (.cons (plainL_ok _ _) (.cons (plainL_ok _ _) (.cons (rowL_ok _ _ _ _ _ _) (.cons (plainL_ok _ _) .nil)))) good_nothing sat_none (WX.out ?_)
  repeat (first | (refine wx_quietU (by rfl) (by rfl) (by rfl) (fun K hK => ?_); go_big_quiet_op; refine hK _ ?_; clear hK K) | (refine wx_quietG (by rfl) (by rfl) (by rfl) (by rfl) (by rfl) (fun K hK => ?_); go_big_quiet_op; refine hK _ ?_; clear hK K) | (refine wx_skipG (by rfl) (by rfl) (by rfl) (fun K hK => ?_); go_simp; refine hK _ ?_; clear hK K) | (refine wx_skipN (by rfl) (by rfl) (by rfl) (fun K hK => ?_); go_simp; refine hK _ ?_; clear hK K))
  refine wx_loudU (us := []) (by rfl) (by rfl) (fun S wS hC hS hU => runs_enter (f := 73) (by go_simp <;> rfl) ?_) (fun v hv K hK => ?_)
  · refine (HX.out wS).mono ?_
    rintro e w' ⟨rfl, rfl⟩
    exact ⟨_, rfl, rfl, Kept.refl _ _, trivial⟩
  obtain rfl := hv; (go_simp; refine hK _ ?_; clear hK K)
  repeat (first | (refine wx_quietU (by rfl) (by rfl) (by rfl) (fun K hK => ?_); go_big_quiet_op; refine hK _ ?_; clear hK K) | (refine wx_quietG (by rfl) (by rfl) (by rfl) (by rfl) (by rfl) (fun K hK => ?_); go_big_quiet_op; refine hK _ ?_; clear hK K) | (refine wx_skipG (by rfl) (by rfl) (by rfl) (fun K hK => ?_); go_simp; refine hK _ ?_; clear hK K) | (refine wx_skipN (by rfl) (by rfl) (by rfl) (fun K hK => ?_); go_simp; refine hK _ ?_; clear hK K))
  refine wx_loudU (us := []) (by rfl) (by rfl) (fun S wS hC hS hU => runs_enter (f := 74) (by go_simp <;> rfl) ?_) (fun v hv K hK => ?_)
  · refine (HY.out wS).mono ?_
    rintro e w' ⟨rfl, rfl⟩
    exact ⟨_, rfl, rfl, Kept.refl _ _, trivial⟩
  obtain rfl := hv; (go_simp; refine hK _ ?_; clear hK K)
  repeat (first | (refine wx_quietU (by rfl) (by rfl) (by rfl) (fun K hK => ?_); go_big_quiet_op; refine hK _ ?_; clear hK K) | (refine wx_quietG (by rfl) (by rfl) (by rfl) (by rfl) (by rfl) (fun K hK => ?_); go_big_quiet_op; refine hK _ ?_; clear hK K) | (refine wx_skipG (by rfl) (by rfl) (by rfl) (fun K hK => ?_); go_simp; refine hK _ ?_; clear hK K) | (refine wx_skipN (by rfl) (by rfl) (by rfl) (fun K hK => ?_); go_simp; refine hK _ ?_; clear hK K))
  refine wx_loudU (us := []) (by rfl) (by rfl) (fun S wS hC hS hU => ?_) (fun v hv K hK => ?_)
  · refine runs_value (by go_simp <;> rfl) (made_x rfl hC.size ?_ (by simp) (by omega) (by omega))
    simp
  obtain ⟨A9, c9, rfl⟩ := hv; (go_simp; refine hK _ ?_; clear hK K)
  repeat (first | (refine wx_quietU (by rfl) (by rfl) (by rfl) (fun K hK => ?_); go_big_quiet_op; refine hK _ ?_; clear hK K) | (refine wx_quietG (by rfl) (by rfl) (by rfl) (by rfl) (by rfl) (fun K hK => ?_); go_big_quiet_op; refine hK _ ?_; clear hK K) | (refine wx_skipG (by rfl) (by rfl) (by rfl) (fun K hK => ?_); go_simp; refine hK _ ?_; clear hK K) | (refine wx_skipN (by rfl) (by rfl) (by rfl) (fun K hK => ?_); go_simp; refine hK _ ?_; clear hK K))
  refine wx_loudU (us := [10]) (by rfl) (by rfl) (fun S wS hC hS hU => runs_enter (f := 72) (by go_simp <;> rfl) ?_) (fun v hv K hK => ?_)
  · have k15 : OwnF w1.heap.size 3 1 2 [.int .i64 x, .int .i64 y] (.slice A9 2 c9) S wS := hU 10 (by simp)
    refine (HO.out A9 c9 wS (own_sl k15.2)).mono ?_
    rintro e w' ⟨rfl, hb⟩
    exact ⟨_, rfl, rfl, Kept.of_below hb, trivial⟩
  obtain rfl := hv; (go_simp; refine hK _ ?_; clear hK K)
  repeat (first | (refine wx_quietU (by rfl) (by rfl) (by rfl) (fun K hK => ?_); go_big_quiet_op; refine hK _ ?_; clear hK K) | (refine wx_quietG (by rfl) (by rfl) (by rfl) (by rfl) (by rfl) (fun K hK => ?_); go_big_quiet_op; refine hK _ ?_; clear hK K) | (refine wx_skipG (by rfl) (by rfl) (by rfl) (fun K hK => ?_); go_simp; refine hK _ ?_; clear hK K) | (refine wx_skipN (by rfl) (by rfl) (by rfl) (fun K hK => ?_); go_simp; refine hK _ ?_; clear hK K))
  refine wx_nil fun w2 hsat => ?_
  have hb2 := sat_below hsat
  have hbw2 := hbw.trans (hb2.mono hbw.size)
  clear hsat za0 za1 zb0 zb1
  go_wp2_with fail
  go_ret
  exact ⟨rfl, hbw2⟩
end RL
end Go.Proofs.YtecfkhgocjbocaaGreatDoor
namespace Go.Proofs.YtecfkhgocjbocaaGreatDoor
set_option linter.unusedVariables false
set_option linter.unusedSimpArgs false
open Go Go.RowKit

namespace RL
open CF
set_option maxRecDepth 100000 in
set_option maxHeartbeats 1600000 in
theorem rotate_any (P X Y S : List Ft) (B g N c a m b : Nat) (w : World) (h : Own B g N c (P ++ (X ++ (Y ++ S))) w) (ha : a = P.length) (hm : m = a + X.length) (hb : b = m + Y.length) (hx : 0 < X.length) (hy : 0 < Y.length) (hB : B ≤ w.heap.size) (hN : N ≤ 1000) :
    Calls Tryz.prog 143 #[.slice (some ⟨g, 0, none⟩) N c, .int .i64 a, .int .i64 m, .int .i64 b, CB] w fun e w' => e = .returned (.tuple #[]) ∧ Own B g N c (P ++ (Y ++ (X ++ S))) w' ∧ Below B w w' := by
  have hlen := own_nth h
  simp only [List.length_append] at hlen
  have HO := hid h
  have hbN : b ≤ N := by omega
  have HAM := hid (And.intro ha (And.intro hm hb))
  have hx2 : m - a = X.length := by omega
  have hy2 : b - m = Y.length := by omega
  have ham : a ≤ m := by omega
  have hmb : m ≤ b := by omega
  have HSW : Hid (∀ (P U Q V S : List Ft) (a b n : Nat) (w' : World), Own B g N c (P ++ (U ++ (Q ++ (V ++ S)))) w' → U.length = n → V.length = n → a = P.length → b = P.length + n + Q.length → B ≤ w'.heap.size →
      Calls Tryz.prog 157 #[.slice (some ⟨g, 0, none⟩) N c, .int .i64 a, .int .i64 b, .int .i64 n, CB] w' fun e w'' => e = .returned (.tuple #[]) ∧ Own B g N c (P ++ (V ++ (Q ++ (U ++ S)))) w'' ∧ Below B w' w'') :=
    fun P U Q V S a b n w' h1 h2 h3 h4 h5 h6 => swapRange_any P U Q V S B g N c a b n w' h1 h2 h3 h4 h5 h6 hN
  have HXY : Hid (m - a = X.length ∧ b - m = Y.length ∧ a = P.length) := ⟨hx2, hy2, ha⟩
  clear h hlen ha hm hb
  rw [← hx2] at hx
  rw [← hy2] at hy
  clear hx2 hy2
  unfold CB at HSW ⊢
  go_enter Tryz.func143, Tryz.ntmps143
  go_wp2_with fail
  go_loopw [10, 11] (fun i j wr => ∃ (p q : Nat) (D1 U V D2 : List Ft), i = .int .i64 p ∧ j = .int .i64 q ∧ 0 < p ∧ 0 < q ∧ p ≤ m ∧ m + q ≤ N ∧ Hid (U.length = p ∧ V.length = q ∧ P.length + D1.length + p = m) ∧ Hid (D1 ++ (V ++ (U ++ D2)) = Y ++ X) ∧ Own B g N c (P ++ (D1 ++ (U ++ (V ++ (D2 ++ S))))) wr ∧ Below B w wr) (fun i j _ => (intOf i).toNat + (intOf j).toNat)
  case atStart => exact ⟨m - a, b - m, [], X, Y, [], by go_num, by go_num, hx, hy, by omega, by omega, ⟨HXY.out.1.symm, HXY.out.2.1.symm, by have := HXY.out; rw [List.length_nil]; omega⟩, by show _ = _; simp, by simpa using HO.out, Below.refl _ _⟩
  case round =>
    obtain ⟨p, q, D1, U, V, D2, rfl, rfl, hp, hq, hpm, hqN, HUV, HD, ho, hbr⟩ := hrel
    have hBr : B ≤ wr.heap.size := Nat.le_trans hB hbr.size
    by_cases hpq : p = q
    · subst hpq
      have HC := hid (HSW.out (P ++ D1) U [] V (D2 ++ S) (m - p) m p wr (by simpa only [List.append_assoc, List.nil_append] using ho) HUV.out.1 HUV.out.2.1 (by have := HUV.out.2.2; rw [List.length_append]; omega) (by have := HUV.out.2.2; rw [List.length_append, List.length_nil]; omega) hBr)
      rw [show ((m - p : Nat) : Int) = (m : Int) - (p : Int) by omega] at HC
      have HB := hid hbr
      clear HSW HO ho hbr
      go_wp2_with fail
      refine HC.out.mono ?_
      rintro e w2 ⟨rfl, ho2, hb2⟩
      have hbw := HB.out.trans hb2
      have HO2 : Hid (Own B g N c (P ++ (Y ++ (X ++ S))) w2) := by
        have e := HD.out
        have : P ++ (Y ++ (X ++ S)) = (P ++ D1) ++ (V ++ ([] ++ (U ++ (D2 ++ S)))) := by
          rw [show Y ++ (X ++ S) = (Y ++ X) ++ S by simp, ← e]; simp
        show Own _ _ _ _ _ _
        rw [this]; exact ho2
      clear HC HB ho2 hb2
      go_wp2_with fail
      go_end0
      exact ⟨rfl, HO2.out, hbw⟩
    · by_cases hgt : q < p
      · obtain ⟨U1, U2, rfl, hU1⟩ : ∃ U1 U2, U = U1 ++ U2 ∧ U1.length = q := ⟨U.take q, U.drop q, (List.take_append_drop q U).symm, by rw [List.length_take]; have := HUV.out.1; omega⟩
        have hU2 : U2.length = p - q := by have := HUV.out.1; rw [List.length_append] at this; omega
        have HU2 := hid (And.intro hU1 hU2)
        have HC := hid (HSW.out (P ++ D1) U1 U2 V (D2 ++ S) (m - p) m q wr (by simpa only [List.append_assoc] using ho) hU1 HUV.out.2.1 (by have := HUV.out.2.2; rw [List.length_append]; omega) (by have := HUV.out.2.2; rw [List.length_append]; omega) hBr)
        rw [show ((m - p : Nat) : Int) = (m : Int) - (p : Int) by omega] at HC
        have HB := hid hbr
        clear ho hbr hU1 hU2
        go_wp2_with fail
        refine HC.out.mono ?_
        rintro e w2 ⟨rfl, ho2, hb2⟩
        have HBW := hid (HB.out.trans hb2)
        have HO2 := hid ho2
        clear HC HB ho2 hb2
        go_wp2_with fail
        go_light
        refine ⟨⟨p - q, q, D1 ++ V, U2, U1, D2, by go_num, rfl, by omega, hq, by omega, by omega, ⟨HU2.out.2, HU2.out.1, ?_⟩, ?_, ?_, HBW.out⟩, by simp [intOf]; omega⟩
        · have h1 := HUV.out.2.2; have h2 := HUV.out.2.1; rw [List.length_append]; omega
        · show _ = _; rw [← HD.out]; simp
        · have := HO2.out; simpa only [List.append_assoc] using this
      · obtain ⟨V1, V2, rfl, hV2⟩ : ∃ V1 V2, V = V1 ++ V2 ∧ V2.length = p := ⟨V.take (q - p), V.drop (q - p), (List.take_append_drop _ V).symm, by rw [List.length_drop]; have := HUV.out.2.1; omega⟩
        have hV1 : V1.length = q - p := by have := HUV.out.2.1; rw [List.length_append] at this; omega
        have HV2 := hid (And.intro hV1 hV2)
        have HC := hid (HSW.out (P ++ D1) U V1 V2 (D2 ++ S) (m - p) (m + q - p) p wr (by simpa only [List.append_assoc] using ho) HUV.out.1 hV2 (by have := HUV.out.2.2; rw [List.length_append]; omega) (by have := HUV.out.2.2; rw [List.length_append]; omega) hBr)
        rw [show ((m - p : Nat) : Int) = (m : Int) - (p : Int) by omega, show ((m + q - p : Nat) : Int) = (m : Int) + (q : Int) - (p : Int) by omega] at HC
        have HB := hid hbr
        clear ho hbr hV1 hV2
        go_wp2_with fail
        refine HC.out.mono ?_
        rintro e w2 ⟨rfl, ho2, hb2⟩
        have HBW := hid (HB.out.trans hb2)
        have HO2 := hid ho2
        clear HC HB ho2 hb2
        go_wp2_with fail
        go_light
        refine ⟨⟨p, q - p, D1, V2, V1, U ++ D2, rfl, by go_num, hp, by omega, hpm, by omega, ⟨HV2.out.2, HV2.out.1, HUV.out.2.2⟩, ?_, ?_, HBW.out⟩, by simp [intOf]; omega⟩
        · show _ = _; rw [← HD.out]; simp
        · have := HO2.out; simpa only [List.append_assoc] using this
end RL
end Go.Proofs.YtecfkhgocjbocaaGreatDoor
namespace Go.Proofs.YtecfkhgocjbocaaGreatDoor
set_option linter.unusedVariables false
set_option linter.unusedSimpArgs false
open Go Go.RowKit

namespace RL
open CF
theorem take1 (M : List Ft) : RS.sortL ltF (M.take 1) = M.take 1 := by
  cases M with
  | nil => exact RS.sortL_nil
  | cons x r => exact RS.sortL_one tot_ltF x
set_option maxRecDepth 100000 in
set_option maxHeartbeats 1600000 in
theorem insertion_any (P M S : List Ft) (B g N c a b : Nat) (w : World) (h : Own B g N c (P ++ (M ++ S)) w) (ha : a = P.length) (hb : b = a + M.length) (hB : B ≤ w.heap.size) (hN : N ≤ 1000) :
    Calls Tryz.prog 125 #[.slice (some ⟨g, 0, none⟩) N c, .int .i64 a, .int .i64 b, CB] w fun e w' => e = .returned (.tuple #[]) ∧ Own B g N c (P ++ (RS.sortL ltF M ++ S)) w' ∧ Below B w w' := by
  have hlen := own_nth h
  simp only [List.length_append] at hlen
  have hbN : b ≤ N := by omega
  have hab : a ≤ b := by omega
  have haN : a ≤ N := by omega
  have HO : Hid (Own B g N c (P ++ (RS.sortL ltF (M.take 1) ++ (M.drop 1 ++ S))) w) := by
    show Own _ _ _ _ _ _
    rw [take1, ← List.append_assoc (M.take 1), List.take_append_drop]; exact h
  have HA := hid (And.intro ha hb)
  clear h hlen ha hb
  unfold CB
  go_enter Tryz.func125, Tryz.ntmps125
  go_wp2_with fail
  go_loopw [8] (fun i wr => ∃ i0 : Nat, a + 1 ≤ i0 ∧ (i0 ≤ b ∨ i0 = a + 1) ∧ i = .int .i64 i0 ∧ Own B g N c (P ++ (RS.sortL ltF (M.take (i0 - a)) ++ (M.drop (i0 - a) ++ S))) wr ∧ Below B w wr) (fun i _ => b - (intOf i).toNat)
  case atStart => exact ⟨a + 1, by omega, .inr rfl, by go_num, by rw [show a + 1 - a = 1 by omega]; exact HO.out, Below.refl _ _⟩
  case round =>
    obtain ⟨i0, hk1, hk, rfl, ho, hbr⟩ := hrel
    obtain ⟨k, hk0⟩ : ∃ k, k = i0 - a := ⟨_, rfl⟩
    have HK : Hid (i0 = a + k) := by show _ = _; omega
    rw [← hk0] at ho
    clear hk0
    by_cases hlt : i0 < b
    · have hkM : k < M.length := by have := HA.out; have := HK.out; omega
      have HSP : Hid (RS.sortL ltF (M.take (k + 1)) = RS.sortL ltF (RS.sortL ltF (M.take k) ++ [RS.nth M k])) := by
        show _ = _
        rw [RS.sortL_snoc tot_ltF, List.take_succ_eq_append_getElem hkM, RS.nth_get hkM]
      have HSL : Hid ((RS.sortL ltF (M.take k)).length = k ∧ RS.Sd ltF (RS.sortL ltF (M.take k))) := ⟨by rw [RS.sortL_len, List.length_take]; omega, RS.sortL_sd tot_ltF _⟩
      rw [show M.drop k = RS.nth M k :: M.drop (k + 1) by rw [RS.nth_get hkM]; exact List.drop_eq_getElem_cons hkM] at ho
      generalize RS.sortL ltF (M.take k) = L at *
      generalize RS.nth M k = x0 at *
      have HO2 := hid ho
      have HB2 := hid hbr
      clear ho hbr
      go_wp2_with fail
      go_loopw [9] (fun j wr2 => ∃ (n : Nat) (A D : List Ft), j = .int .i64 n ∧ a ≤ n ∧ n ≤ i0 ∧ Hid (P.length + A.length = n) ∧ Hid (A ++ D = L) ∧ Hid (∀ z ∈ D, ltF x0 z = true) ∧ Own B g N c (P ++ (A ++ (x0 :: (D ++ (M.drop (k + 1) ++ S))))) wr2 ∧ Below B w wr2) (fun j _ => (intOf j).toNat)
      case atStart => exact ⟨i0, L, [], by go_num, by omega, by omega, by show _ = _; rw [HSL.out.1, HK.out, HA.out.1], by show _ = _; simp, by show ∀ z ∈ ([] : List Ft), _; simp, HO2.out, HB2.out⟩
      case round =>
        obtain ⟨n, A, D, rfl, hn1, hn2, HPA, HAD, HD, ho, hbr⟩ := hrel
        by_cases hja : n = a
        · subst hja
          have hA : A = [] := List.length_eq_zero_iff.1 (by have := HPA.out; have := HA.out.1; omega)
          subst hA
          have HL2 : Hid (x0 :: D = RS.sortL ltF (M.take (k + 1))) := by
            show _ = _
            rw [HSP.out, ← HAD.out]
            exact RS.ins_done tot_ltF [] D x0 (by rw [HAD.out]; exact HSL.out.2) HD.out (.inl rfl)
          have HO3 : Hid (Own B g N c (P ++ (RS.sortL ltF (M.take (k + 1)) ++ (M.drop (k + 1) ++ S))) wr) := by
            show Own _ _ _ _ _ _
            rw [← HL2.out]; exact ho
          have hg : decide ((n : Int) > (n : Int)) = false := by simp
          clear ho HO2 HB2
          have HBR := hid hbr
          clear hbr
          go_wp2_with fail
          go_big_region
          go_wp2_with fail
          go_light
          exact ⟨⟨i0 + 1, by omega, .inl (by omega), by go_num, by rw [show i0 + 1 - n = k + 1 by have := HK.out; omega]; exact own_drew HO3.out, HBR.out.drew⟩, by simp [intOf]; omega⟩
        · obtain ⟨m, rfl⟩ : ∃ m, n = m + 1 := ⟨n - 1, by omega⟩
          obtain ⟨A', y0, rfl⟩ : ∃ A' y0, A = A' ++ [y0] := by
            have : A ≠ [] := by intro e; have h1 := HPA.out; have h2 := HA.out.1; rw [e, List.length_nil] at h1; omega
            exact ⟨A.dropLast, A.getLast this, (List.dropLast_concat_getLast this).symm⟩
          have HPA2 : Hid (P.length + A'.length = m) := by show _ = _; have := HPA.out; rw [List.length_append] at this; simp only [List.length_cons, List.length_nil] at this; omega
          obtain ⟨F, hF⟩ : ∃ F, F = P ++ ((A' ++ [y0]) ++ (x0 :: (D ++ (M.drop (k + 1) ++ S)))) := ⟨_, rfl⟩
          rw [← hF] at ho
          have HF1 : Hid (RS.swp F (m + 1) m = P ++ (A' ++ (x0 :: ((y0 :: D) ++ (M.drop (k + 1) ++ S))))) := by
            show _ = _
            have := RS.swp_at' (P ++ A') [] (D ++ (M.drop (k + 1) ++ S)) y0 x0 m (m + 1) (by rw [List.length_append]; exact HPA2.out.symm) (by rw [List.length_append, List.length_nil]; have := HPA2.out; omega)
            rw [hF]
            simpa only [List.append_assoc, List.cons_append, List.nil_append] using this
          have HXY : Hid (ltF (RS.nth F (m + 1)) (RS.nth F m) = ltF x0 y0) := by
            show _ = _
            congr 1
            · rw [hF, show P ++ ((A' ++ [y0]) ++ (x0 :: (D ++ (M.drop (k + 1) ++ S)))) = (P ++ (A' ++ [y0])) ++ x0 :: (D ++ (M.drop (k + 1) ++ S)) by simp]
              exact RS.nth_at _ _ _ _ (by simp only [List.length_append, List.length_cons, List.length_nil]; have := HPA2.out; omega)
            · rw [hF, show P ++ ((A' ++ [y0]) ++ (x0 :: (D ++ (M.drop (k + 1) ++ S)))) = (P ++ A') ++ y0 :: (x0 :: (D ++ (M.drop (k + 1) ++ S))) by simp]
              exact RS.nth_at _ _ _ _ (by simp only [List.length_append]; have := HPA2.out; omega)
          have HFF := hid hF
          clear hF HO2 HB2
          obtain ⟨nx, hnx⟩ : ∃ z, z = m + 1 := ⟨_, rfl⟩
          have hnxN : nx < N := by omega
          have hnyN : m < N := by omega
          have ex1 : (m : Int) + 1 = (nx : Int) := by omega
          have ex2 : (nx : Int) - 1 = (m : Int) := by omega
          have hgt : decide (a < nx) = true := by rw [decide_eq_true_iff]; omega
          have hne : m < nx := by omega
          have hany : a ≤ m := by omega
          have HNX := hid hnx
          rw [← hnx] at HF1 HXY HPA hn2 ⊢
          clear hnx hja hn1
          obtain ⟨ny, hny⟩ : ∃ z, z = m := ⟨_, rfl⟩
          subst hny
          obtain ⟨c1, c2, f1, f2⟩ := own_cells ho hnxN
          obtain ⟨d1, d2, g1, g2⟩ := own_cells ho hnyN
          have hgl : g < wr.heap.size := (own_row2 ho).2.1
          have HCM := hid (fun w' => cmpFt_any (RS.nth F nx) (RS.nth F ny) w')
          have HLT : Hid (ltF (RS.nth F nx) (RS.nth F ny) = decide (cmpF (RS.nth F nx) (RS.nth F ny) < 0)) := rfl
          unfold ftV at HCM
          generalize cmpF (RS.nth F nx) (RS.nth F ny) = cv at *
          generalize RS.nth F nx = x at *
          generalize RS.nth F ny = y at *
          generalize S8 x.name = xn at *
          generalize S8 y.name = yn at *
          generalize x.kind = xk at *
          generalize y.kind = yk at *
          have za1 := fun (z : WK (fun _ => False) wr) => (wat_cell (p := ⟨g, nx * 2, none⟩) hgl (by simp) z).trans c1
          have za2 := fun (z : WK (fun _ => False) wr) => (wat_cell (p := ⟨g, nx * 2 + 1, none⟩) hgl (by simp) z).trans c2
          have zb1 := fun (z : WK (fun _ => False) wr) => (wat_cell (p := ⟨g, ny * 2, none⟩) hgl (by simp) z).trans d1
          have zb2 := fun (z : WK (fun _ => False) wr) => (wat_cell (p := ⟨g, ny * 2 + 1, none⟩) hgl (by simp) z).trans d2
          clear c1 c2 d1 d2 f1 f2 g1 g2
          go_upto_region 4 with fail
          refine wp_region_loud (fun _ => False) [(14, plainL [] (.int .i64 cv))] (fun _ => Fact.none) (by kernel_rfl) (by kernel_rfl) (.cons (plainL_ok _ _) .nil) good_nothing sat_none (WX.out ?_)
          repeat (first | (refine wx_quietU (by rfl) (by rfl) (by rfl) (fun K hK => ?_); go_big_quiet_op; refine hK _ ?_; clear hK K) | (refine wx_quietG (by rfl) (by rfl) (by rfl) (by rfl) (by rfl) (fun K hK => ?_); go_big_quiet_op; refine hK _ ?_; clear hK K) | (refine wx_skipG (by rfl) (by rfl) (by rfl) (fun K hK => ?_); go_simp; refine hK _ ?_; clear hK K) | (refine wx_skipN (by rfl) (by rfl) (by rfl) (fun K hK => ?_); go_simp; refine hK _ ?_; clear hK K))
          refine wx_loudG (us := []) (by rfl) (by rfl) (by rfl) (by rfl) (fun S wS hC hS hU => runs_enter (f := 71) (by go_simp <;> rfl) ?_) (fun v hv K hK => ?_)
          · refine (HCM.out wS).mono ?_
            rintro e w' ⟨rfl, hb⟩
            exact ⟨_, rfl, rfl, Kept.of_below hb, trivial⟩
          obtain rfl := hv; (go_simp; refine hK _ ?_; clear hK K)
          repeat (first | (refine wx_quietU (by rfl) (by rfl) (by rfl) (fun K hK => ?_); go_big_quiet_op; refine hK _ ?_; clear hK K) | (refine wx_quietG (by rfl) (by rfl) (by rfl) (by rfl) (by rfl) (fun K hK => ?_); go_big_quiet_op; refine hK _ ?_; clear hK K) | (refine wx_skipG (by rfl) (by rfl) (by rfl) (fun K hK => ?_); go_simp; refine hK _ ?_; clear hK K) | (refine wx_skipN (by rfl) (by rfl) (by rfl) (fun K hK => ?_); go_simp; refine hK _ ?_; clear hK K))
          refine wx_nil fun w2 hsat => ?_
          have hb2 := sat_below hsat
          have hbw2 := hbr.trans (hb2.mono (Nat.le_trans hB hbr.size))
          have ho2 : Own B g N c F w2 := own_below ho hb2
          clear hsat za1 za2 zb1 zb2 ho hbr hb2 HCM hgl
          by_cases hcv : cv < 0
          · have HX0 : Hid (ltF x0 y0 = true) := by show _ = _; rw [← HXY.out, HLT.out]; exact decide_eq_true hcv
            clear HXY HLT hgt
            have ho := ho2
            have hbr := hbw2
            clear ho2 hbw2
            rename_i wr0
            generalize w2 = wr at *
            obtain ⟨c1, c2, f1, f2⟩ := own_cells ho hnxN
            obtain ⟨d1, d2, g1, g2⟩ := own_cells ho hnyN
            have HQ := hid (exch ho hnxN hnyN rfl rfl rfl rfl)
            have HB := hid hbr
            generalize RS.nth F nx = x at *
            generalize RS.nth F ny = y at *
            generalize S8 x.name = xn at *
            generalize S8 y.name = yn at *
            generalize x.kind = xk at *
            generalize y.kind = yk at *
            have hc1 : wr.drew.cell? ⟨g, nx * 2, none⟩ = some (.int .i64 xk) := c1
            have hc2 : wr.drew.cell? ⟨g, nx * 2 + 1, none⟩ = some (.string xn) := c2
            have hd1 : wr.drew.cell? ⟨g, ny * 2, none⟩ = some (.int .i64 yk) := d1
            have hd2 : wr.drew.cell? ⟨g, ny * 2 + 1, none⟩ = some (.string yn) := d2
            have hf1 : wr.drew.frozen? ⟨g, nx * 2, none⟩ = false := f1
            have hf2 : wr.drew.frozen? ⟨g, nx * 2 + 1, none⟩ = false := f2
            have hg1 : wr.drew.frozen? ⟨g, ny * 2, none⟩ = false := g1
            have hg2 : wr.drew.frozen? ⟨g, ny * 2 + 1, none⟩ = false := g2
            clear ho hbr
            go_wp2_with fail
            go_big_region
            clear hc1 hc2 hd1 hd2 hf1 hf2 hg1 hg2 c1 c2 d1 d2 f1 f2 g1 g2
            go_wp2_with fail
            go_light
            refine ⟨⟨ny, A', y0 :: D, by go_num, by omega, by omega, HPA2, by show _ = _; rw [← HAD.out]; simp, ?_, by rw [← HF1.out]; exact HQ.out.1, HQ.out.2 w HB.out⟩, by simp [intOf]; omega⟩
            show ∀ z ∈ y0 :: D, _
            intro z hz
            rcases List.mem_cons.1 hz with rfl | hz
            · exact HX0.out
            · exact HD.out z hz
          · have HX0 : Hid (ltF x0 y0 = false) := by show _ = _; rw [← HXY.out, HLT.out]; exact decide_eq_false hcv
            have HL2 : Hid ((A' ++ [y0]) ++ x0 :: D = RS.sortL ltF (M.take (k + 1))) := by
              show _ = _
              rw [HSP.out, ← HAD.out]
              refine RS.ins_done tot_ltF (A' ++ [y0]) D x0 (by rw [HAD.out]; exact HSL.out.2) HD.out (.inr ?_)
              rw [RS.nth_at A' [] y0 _ (by simp)]
              exact HX0.out
            have HO3 : Hid (Own B g N c (P ++ (RS.sortL ltF (M.take (k + 1)) ++ (M.drop (k + 1) ++ S))) w2) := by
              show Own _ _ _ _ _ _
              rw [← HL2.out]
              have := HFF.out
              rw [this] at ho2
              simpa only [List.append_assoc, List.cons_append] using ho2
            have HBR := hid hbw2
            clear ho2 hbw2 HXY HLT ex1 ex2 hne hgt
            go_wp2_with fail
            go_light
            exact ⟨⟨i0 + 1, by omega, .inl (by omega), by go_num, by rw [show i0 + 1 - a = k + 1 by have := HK.out; omega]; exact HO3.out, HBR.out⟩, by simp [intOf]; omega⟩
    · have HE : Hid (RS.sortL ltF (M.take k) = RS.sortL ltF M ∧ M.drop k = []) := by
        have := HA.out
        have := HK.out
        exact ⟨by rw [List.take_of_length_le (by omega)], List.drop_of_length_le (by omega)⟩
      have HO3 : Hid (Own B g N c (P ++ (RS.sortL ltF M ++ S)) wr) := by
        show Own _ _ _ _ _ _
        rw [HE.out.1, HE.out.2, List.nil_append] at ho
        exact ho
      clear ho HO
      go_wp2_with fail
      go_end0
      exact ⟨rfl, HO3.out, hbr⟩
end RL
end Go.Proofs.YtecfkhgocjbocaaGreatDoor
namespace Go.Proofs.YtecfkhgocjbocaaGreatDoor
set_option linter.unusedVariables false
set_option linter.unusedSimpArgs false
open Go Go.RowKit

namespace RL
open CF
theorem nthL (P L X : List Ft) (a i : Nat) (ha : a = P.length) (hi : i < L.length) : RS.nth (P ++ (L ++ X)) (a + i) = RS.nth L i := by
  rw [RS.nth_app_r _ _ _ (by omega), RS.nth_app_l _ _ _ (by omega)]
  congr 1; omega
theorem nthR (P L R S : List Ft) (m i : Nat) (hm : m = P.length + L.length) (hi : i < R.length) : RS.nth (P ++ (L ++ (R ++ S))) (m + i) = RS.nth R i := by
  rw [RS.nth_app_r _ _ _ (by omega), RS.nth_app_r _ _ _ (by omega), RS.nth_app_l _ _ _ (by omega)]
  congr 1; omega
set_option maxRecDepth 100000 in
set_option maxHeartbeats 1600000 in
theorem symL_any (x0 : Ft) (P R S : List Ft) (B g N c a m b : Nat) (w : World) (h : Own B g N c (P ++ ([x0] ++ (R ++ S))) w) (hR : RS.Sd ltF R) (hr : 0 < R.length) (ha : a = P.length) (hm : m = a + 1) (hb : b = m + R.length) (hB : B ≤ w.heap.size) (hN : N ≤ 1000) :
    Calls Tryz.prog 126 #[.slice (some ⟨g, 0, none⟩) N c, .int .i64 a, .int .i64 m, .int .i64 b, CB] w fun e w' => e = .returned (.tuple #[]) ∧ Own B g N c (P ++ (RS.sortL ltF ([x0] ++ R) ++ S)) w' ∧ Below B w w' := by
  have hlen := own_nth h
  simp only [List.length_append, List.length_cons, List.length_nil] at hlen
  have hbN : b ≤ N := by omega
  have haN : a < N := by omega
  have ham : a < m := by omega
  have hmb : m < b := by omega
  have em : (m : Int) - (a : Int) = 1 := by omega
  have HAB : Hid (a = P.length ∧ m = a + 1 ∧ b = m + R.length) := ⟨ha, hm, hb⟩
  have HXA : Hid (RS.nth (P ++ ([x0] ++ (R ++ S))) a = x0) := RS.nth_at P (R ++ S) x0 a ha
  have HXR : Hid (∀ i, i < R.length → RS.nth (P ++ ([x0] ++ (R ++ S))) (m + i) = RS.nth R i) := fun i hi => nthR P [x0] R S m i (by simp; omega) hi
  obtain ⟨F, hF⟩ : ∃ F, F = P ++ ([x0] ++ (R ++ S)) := ⟨_, rfl⟩
  rw [← hF] at h HXA HXR
  have HFF := hid hF
  have HO := hid h
  clear h hlen ha hm hb hF
  unfold CB
  go_enter Tryz.func126, Tryz.ntmps126
  go_wp2_with fail
  go_loopw [10, 11] (fun i j wr => ∃ p q : Nat, m ≤ p ∧ p ≤ q ∧ q ≤ b ∧ i = .int .i64 p ∧ j = .int .i64 q ∧ Hid (p = m ∨ ltF (RS.nth R (p - 1 - m)) x0 = true) ∧ Hid (q = b ∨ ltF (RS.nth R (q - m)) x0 = false) ∧ Own B g N c F wr ∧ Below B w wr) (fun i j _ => (intOf j).toNat - (intOf i).toNat)
  case atStart => exact ⟨m, b, by omega, by omega, by omega, rfl, rfl, .inl rfl, .inl rfl, HO.out, Below.refl _ _⟩
  case round =>
    obtain ⟨p, q, hmp, hpq, hqb, rfl, rfl, H1, H2, ho, hbr⟩ := hrel
    by_cases hlt : p < q
    · obtain ⟨nx, hv, hv1, hv2⟩ : ∃ v : Nat, ((p : Int) + (q : Int)) / 2 = (v : Int) ∧ p ≤ v ∧ v < q := ⟨(p + q) / 2, by omega, by omega, by omega⟩
      have HV := hid hv
      have HXY : Hid (ltF (RS.nth F nx) (RS.nth F a) = ltF (RS.nth R (nx - m)) x0) := by
        show _ = _
        rw [HXA.out]
        congr 1
        have := HXR.out (nx - m) (by have := HAB.out; omega)
        rwa [show m + (nx - m) = nx by omega] at this
      clear hv
      have hnxN : nx < N := by omega
      have hnyN : a < N := haN
      obtain ⟨ny, hny⟩ : ∃ z, z = a := ⟨_, rfl⟩
      subst hny
      obtain ⟨c1, c2, f1, f2⟩ := own_cells ho hnxN
      obtain ⟨d1, d2, g1, g2⟩ := own_cells ho hnyN
      have hgl : g < wr.heap.size := (own_row2 ho).2.1
      have HCM := hid (fun w' => cmpFt_any (RS.nth F nx) (RS.nth F ny) w')
      have HLT : Hid (ltF (RS.nth F nx) (RS.nth F ny) = decide (cmpF (RS.nth F nx) (RS.nth F ny) < 0)) := rfl
      unfold ftV at HCM
      generalize cmpF (RS.nth F nx) (RS.nth F ny) = cv at *
      generalize RS.nth F nx = x at *
      generalize RS.nth F ny = y at *
      generalize S8 x.name = xn at *
      generalize S8 y.name = yn at *
      generalize x.kind = xk at *
      generalize y.kind = yk at *
      have za1 := fun (z : WK (fun _ => False) wr) => (wat_cell (p := ⟨g, nx * 2, none⟩) hgl (by simp) z).trans c1
      have za2 := fun (z : WK (fun _ => False) wr) => (wat_cell (p := ⟨g, nx * 2 + 1, none⟩) hgl (by simp) z).trans c2
      have zb1 := fun (z : WK (fun _ => False) wr) => (wat_cell (p := ⟨g, ny * 2, none⟩) hgl (by simp) z).trans d1
      have zb2 := fun (z : WK (fun _ => False) wr) => (wat_cell (p := ⟨g, ny * 2 + 1, none⟩) hgl (by simp) z).trans d2
      clear c1 c2 d1 d2 f1 f2 g1 g2
      go_upto_region 5 with fail
      rw [HV.out]
      refine wp_region_loud (fun _ => False) [(9, plainL [] (.int .i64 cv))] (fun _ => Fact.none) (by kernel_rfl) (by kernel_rfl) (.cons (plainL_ok _ _) .nil) good_nothing sat_none (WX.out ?_)
      repeat (first | (refine wx_quietU (by rfl) (by rfl) (by rfl) (fun K hK => ?_); go_big_quiet_op; refine hK _ ?_; clear hK K) | (refine wx_quietG (by rfl) (by rfl) (by rfl) (by rfl) (by rfl) (fun K hK => ?_); go_big_quiet_op; refine hK _ ?_; clear hK K) | (refine wx_skipG (by rfl) (by rfl) (by rfl) (fun K hK => ?_); go_simp; refine hK _ ?_; clear hK K) | (refine wx_skipN (by rfl) (by rfl) (by rfl) (fun K hK => ?_); go_simp; refine hK _ ?_; clear hK K))
      refine wx_loudU (us := []) (by rfl) (by rfl) (fun S wS hC hS hU => runs_enter (f := 71) (by go_simp <;> rfl) ?_) (fun v hv K hK => ?_)
      · refine (HCM.out wS).mono ?_
        rintro e w' ⟨rfl, hb⟩
        exact ⟨_, rfl, rfl, Kept.of_below hb, trivial⟩
      obtain rfl := hv; (go_simp; refine hK _ ?_; clear hK K)
      repeat (first | (refine wx_quietU (by rfl) (by rfl) (by rfl) (fun K hK => ?_); go_big_quiet_op; refine hK _ ?_; clear hK K) | (refine wx_quietG (by rfl) (by rfl) (by rfl) (by rfl) (by rfl) (fun K hK => ?_); go_big_quiet_op; refine hK _ ?_; clear hK K) | (refine wx_skipG (by rfl) (by rfl) (by rfl) (fun K hK => ?_); go_simp; refine hK _ ?_; clear hK K) | (refine wx_skipN (by rfl) (by rfl) (by rfl) (fun K hK => ?_); go_simp; refine hK _ ?_; clear hK K))
      refine wx_nil fun w2 hsat => ?_
      have hb2 := sat_below hsat
      have HBW := hid (hbr.trans (hb2.mono (Nat.le_trans hB hbr.size)))
      have HO2 : Hid (Own B g N c F w2) := own_below ho hb2
      clear hsat za1 za2 zb1 zb2 ho hbr hb2 HCM hgl
      by_cases hcv : cv < 0
      · have HX0 : Hid (ltF (RS.nth R (nx - m)) x0 = true) := by show _ = _; rw [← HXY.out, HLT.out]; exact decide_eq_true hcv
        clear HXY HLT
        go_wp2_with fail
        go_light
        exact ⟨⟨nx + 1, q, by omega, by omega, hqb, by go_num, rfl, .inr (by rw [show nx + 1 - 1 - m = nx - m by omega]; exact HX0.out), H2, HO2.out, HBW.out⟩, by simp [intOf]; omega⟩
      · have HX0 : Hid (ltF (RS.nth R (nx - m)) x0 = false) := by show _ = _; rw [← HXY.out, HLT.out]; exact decide_eq_false hcv
        clear HXY HLT
        go_wp2_with fail
        go_light
        exact ⟨⟨p, nx, hmp, by omega, by omega, rfl, rfl, H1, .inr HX0.out, HO2.out, HBW.out⟩, by simp [intOf]; omega⟩
    · obtain rfl : p = q := by omega
      have HE : Hid (R.take (p - m) ++ x0 :: R.drop (p - m) = RS.sortL ltF ([x0] ++ R)) := by
        have h3 := HAB.out
        refine RS.one_left tot_ltF R x0 (p - m) hR (by omega) ?_ ?_
        · rcases H1.out with e | e
          · exact .inl (by omega)
          · rw [show p - 1 - m = p - m - 1 by omega] at e; exact .inr e
        · rcases H2.out with e | e
          · exact .inl (by omega)
          · exact .inr e
      have HO0 : Hid (Own B g N c (P ++ (R.take 0 ++ (x0 :: (R.drop 0 ++ S)))) wr) := by
        show Own _ _ _ _ _ _
        rw [HFF.out] at ho
        simpa using ho
      have HBR := hid hbr
      clear H1 H2 ho hbr HO
      go_wp2_with fail
      go_loopw [13] (fun i wr => ∃ k : Nat, a ≤ k ∧ k + 1 ≤ p ∧ i = .int .i64 k ∧ Own B g N c (P ++ (R.take (k - a) ++ (x0 :: (R.drop (k - a) ++ S)))) wr ∧ Below B w wr) (fun i _ => b - (intOf i).toNat)
      case atStart => exact ⟨a, by omega, by omega, rfl, by rw [Nat.sub_self]; exact HO0.out, HBR.out⟩
      case round =>
        obtain ⟨k, hak, hkp, rfl, ho, hbr⟩ := hrel
        by_cases hlt2 : k + 1 < p
        · have hkR : k - a < R.length := by have := HAB.out; omega
          obtain ⟨F, hF⟩ : ∃ F, F = P ++ (R.take (k - a) ++ (x0 :: (R.drop (k - a) ++ S))) := ⟨_, rfl⟩
          rw [← hF] at ho
          obtain ⟨ny, hny⟩ : ∃ z, z = k + 1 := ⟨_, rfl⟩
          have HSW : Hid (RS.swp F k ny = P ++ (R.take (k + 1 - a) ++ (x0 :: (R.drop (k + 1 - a) ++ S)))) := by
            show _ = _
            have h3 := HAB.out
            rw [hF, show k + 1 - a = (k - a) + 1 by omega, List.take_succ_eq_append_getElem hkR, List.drop_eq_getElem_cons hkR]
            have := RS.swp_at (P ++ R.take (k - a)) [] (R.drop (k - a + 1) ++ S) x0 R[k - a] k ny (by simp; omega) (by simp; omega)
            simpa only [List.append_assoc, List.cons_append, List.nil_append] using this
          obtain ⟨nx, hnx⟩ : ∃ z, z = k := ⟨_, rfl⟩
          subst hnx
          have hnxN : nx < N := by omega
          have hnyN : ny < N := by omega
          have hne : nx < ny := by omega
          have ex1 : (nx : Int) + 1 = (ny : Int) := by omega
          have HNY := hid hny
          have hlt3 : (nx : Int) < (p : Int) - 1 := by omega
          clear hF hny
          obtain ⟨c1, c2, f1, f2⟩ := own_cells ho hnxN
          obtain ⟨d1, d2, g1, g2⟩ := own_cells ho hnyN
          have HQ := hid (exch ho hnxN hnyN rfl rfl rfl rfl)
          have HB := hid hbr
          generalize RS.nth F nx = x at *
          generalize RS.nth F ny = y at *
          generalize S8 x.name = xn at *
          generalize S8 y.name = yn at *
          generalize x.kind = xk at *
          generalize y.kind = yk at *
          have hc1 : wr.drew.cell? ⟨g, nx * 2, none⟩ = some (.int .i64 xk) := c1
          have hc2 : wr.drew.cell? ⟨g, nx * 2 + 1, none⟩ = some (.string xn) := c2
          have hd1 : wr.drew.cell? ⟨g, ny * 2, none⟩ = some (.int .i64 yk) := d1
          have hd2 : wr.drew.cell? ⟨g, ny * 2 + 1, none⟩ = some (.string yn) := d2
          have hf1 : wr.drew.frozen? ⟨g, nx * 2, none⟩ = false := f1
          have hf2 : wr.drew.frozen? ⟨g, nx * 2 + 1, none⟩ = false := f2
          have hg1 : wr.drew.frozen? ⟨g, ny * 2, none⟩ = false := g1
          have hg2 : wr.drew.frozen? ⟨g, ny * 2 + 1, none⟩ = false := g2
          clear ho hbr
          go_wp2_with fail
          go_big_region
          clear hc1 hc2 hd1 hd2 hf1 hf2 hg1 hg2 c1 c2 d1 d2 f1 f2 g1 g2
          go_wp2_with fail
          go_light
          exact ⟨⟨nx + 1, by omega, by omega, by go_num, by rw [← HSW.out]; exact HQ.out.1, HQ.out.2 w HB.out⟩, by simp [intOf]; omega⟩
        · obtain ⟨k1, hk1⟩ : ∃ z, z = p - m := ⟨_, rfl⟩
          have h3 := HAB.out
          rw [show k - a = p - m by omega] at ho
          have HO3 : Hid (Own B g N c (P ++ (RS.sortL ltF ([x0] ++ R) ++ S)) wr) := by
            show Own _ _ _ _ _ _
            rw [← HE.out]; simpa only [List.append_assoc, List.cons_append] using ho
          have hge : ¬ (k : Int) < (p : Int) - 1 := by omega
          clear ho HO0 h3 hk1
          go_wp2_with fail
          refine bodyPost_ret (results_none rfl _ _ _) rfl ?_
          exact ⟨rfl, HO3.out, hbr⟩
set_option maxRecDepth 100000 in
set_option maxHeartbeats 1600000 in
theorem symR_any (y0 : Ft) (P L S : List Ft) (B g N c a m b : Nat) (w : World) (h : Own B g N c (P ++ (L ++ ([y0] ++ S))) w) (hL : RS.Sd ltF L) (hr : 2 ≤ L.length) (ha : a = P.length) (hm : m = a + L.length) (hb : b = m + 1) (hB : B ≤ w.heap.size) (hN : N ≤ 1000) :
    Calls Tryz.prog 126 #[.slice (some ⟨g, 0, none⟩) N c, .int .i64 a, .int .i64 m, .int .i64 b, CB] w fun e w' => e = .returned (.tuple #[]) ∧ Own B g N c (P ++ (RS.sortL ltF (L ++ [y0]) ++ S)) w' ∧ Below B w w' := by
  have hlen := own_nth h
  simp only [List.length_append, List.length_cons, List.length_nil] at hlen
  have hbN : b ≤ N := by omega
  have hmN : m < N := by omega
  have ham : a + 1 < m := by omega
  have hmb : m < b := by omega
  have em : (((m : Int) - (a : Int)) == 1) = false := by rw [beq_eq_false_iff_ne]; omega
  have eb : (b : Int) - (m : Int) = 1 := by omega
  have HAB : Hid (a = P.length ∧ m = a + L.length ∧ b = m + 1) := ⟨ha, hm, hb⟩
  have HXA : Hid (RS.nth (P ++ (L ++ ([y0] ++ S))) m = y0) := by
    show _ = _
    have := nthR P L [y0] S m 0 (by omega) (by simp)
    rw [Nat.add_zero] at this
    exact this
  have HXR : Hid (∀ i, i < L.length → RS.nth (P ++ (L ++ ([y0] ++ S))) (a + i) = RS.nth L i) := fun i hi => nthL P L ([y0] ++ S) a i ha hi
  obtain ⟨F, hF⟩ : ∃ F, F = P ++ (L ++ ([y0] ++ S)) := ⟨_, rfl⟩
  rw [← hF] at h HXA HXR
  have HFF := hid hF
  have HO := hid h
  clear h hlen ha hm hb hF
  unfold CB
  go_enter Tryz.func126, Tryz.ntmps126
  go_wp2_with fail
  go_loopw [14, 15] (fun i j wr => ∃ p q : Nat, a ≤ p ∧ p ≤ q ∧ q ≤ m ∧ i = .int .i64 p ∧ j = .int .i64 q ∧ Hid (p = a ∨ ltF y0 (RS.nth L (p - 1 - a)) = false) ∧ Hid (q = m ∨ ltF y0 (RS.nth L (q - a)) = true) ∧ Own B g N c F wr ∧ Below B w wr) (fun i j _ => (intOf j).toNat - (intOf i).toNat)
  case atStart => exact ⟨a, m, by omega, by omega, by omega, rfl, rfl, .inl rfl, .inl rfl, HO.out, Below.refl _ _⟩
  case round =>
    obtain ⟨p, q, hmp, hpq, hqb, rfl, rfl, H1, H2, ho, hbr⟩ := hrel
    by_cases hlt : p < q
    · obtain ⟨ny, hv, hv1, hv2⟩ : ∃ v : Nat, ((p : Int) + (q : Int)) / 2 = (v : Int) ∧ p ≤ v ∧ v < q := ⟨(p + q) / 2, by omega, by omega, by omega⟩
      have HV := hid hv
      have HXY : Hid (ltF (RS.nth F m) (RS.nth F ny) = ltF y0 (RS.nth L (ny - a))) := by
        show _ = _
        rw [HXA.out]
        congr 1
        have := HXR.out (ny - a) (by have := HAB.out; omega)
        rwa [show a + (ny - a) = ny by omega] at this
      clear hv
      have hnxN : m < N := hmN
      have hnyN : ny < N := by omega
      obtain ⟨nx, hnx⟩ : ∃ z, z = m := ⟨_, rfl⟩
      subst hnx
      obtain ⟨c1, c2, f1, f2⟩ := own_cells ho hnxN
      obtain ⟨d1, d2, g1, g2⟩ := own_cells ho hnyN
      have hgl : g < wr.heap.size := (own_row2 ho).2.1
      have HCM := hid (fun w' => cmpFt_any (RS.nth F nx) (RS.nth F ny) w')
      have HLT : Hid (ltF (RS.nth F nx) (RS.nth F ny) = decide (cmpF (RS.nth F nx) (RS.nth F ny) < 0)) := rfl
      unfold ftV at HCM
      generalize cmpF (RS.nth F nx) (RS.nth F ny) = cv at *
      generalize RS.nth F nx = x at *
      generalize RS.nth F ny = y at *
      generalize S8 x.name = xn at *
      generalize S8 y.name = yn at *
      generalize x.kind = xk at *
      generalize y.kind = yk at *
      have za1 := fun (z : WK (fun _ => False) wr) => (wat_cell (p := ⟨g, nx * 2, none⟩) hgl (by simp) z).trans c1
      have za2 := fun (z : WK (fun _ => False) wr) => (wat_cell (p := ⟨g, nx * 2 + 1, none⟩) hgl (by simp) z).trans c2
      have zb1 := fun (z : WK (fun _ => False) wr) => (wat_cell (p := ⟨g, ny * 2, none⟩) hgl (by simp) z).trans d1
      have zb2 := fun (z : WK (fun _ => False) wr) => (wat_cell (p := ⟨g, ny * 2 + 1, none⟩) hgl (by simp) z).trans d2
      clear c1 c2 d1 d2 f1 f2 g1 g2
      go_upto_region 17 with fail
      rw [HV.out]
      refine wp_region_loud (fun _ => False) [(9, plainL [] (.int .i64 cv))] (fun _ => Fact.none) (by kernel_rfl) (by kernel_rfl) (.cons (plainL_ok _ _) .nil) good_nothing sat_none (WX.out ?_)
      repeat (first | (refine wx_quietU (by rfl) (by rfl) (by rfl) (fun K hK => ?_); go_big_quiet_op; refine hK _ ?_; clear hK K) | (refine wx_quietG (by rfl) (by rfl) (by rfl) (by rfl) (by rfl) (fun K hK => ?_); go_big_quiet_op; refine hK _ ?_; clear hK K) | (refine wx_skipG (by rfl) (by rfl) (by rfl) (fun K hK => ?_); go_simp; refine hK _ ?_; clear hK K) | (refine wx_skipN (by rfl) (by rfl) (by rfl) (fun K hK => ?_); go_simp; refine hK _ ?_; clear hK K))
      refine wx_loudU (us := []) (by rfl) (by rfl) (fun S wS hC hS hU => runs_enter (f := 71) (by go_simp <;> rfl) ?_) (fun v hv K hK => ?_)
      · refine (HCM.out wS).mono ?_
        rintro e w' ⟨rfl, hb⟩
        exact ⟨_, rfl, rfl, Kept.of_below hb, trivial⟩
      obtain rfl := hv; (go_simp; refine hK _ ?_; clear hK K)
      repeat (first | (refine wx_quietU (by rfl) (by rfl) (by rfl) (fun K hK => ?_); go_big_quiet_op; refine hK _ ?_; clear hK K) | (refine wx_quietG (by rfl) (by rfl) (by rfl) (by rfl) (by rfl) (fun K hK => ?_); go_big_quiet_op; refine hK _ ?_; clear hK K) | (refine wx_skipG (by rfl) (by rfl) (by rfl) (fun K hK => ?_); go_simp; refine hK _ ?_; clear hK K) | (refine wx_skipN (by rfl) (by rfl) (by rfl) (fun K hK => ?_); go_simp; refine hK _ ?_; clear hK K))
      refine wx_nil fun w2 hsat => ?_
      have hb2 := sat_below hsat
      have HBW := hid (hbr.trans (hb2.mono (Nat.le_trans hB hbr.size)))
      have HO2 : Hid (Own B g N c F w2) := own_below ho hb2
      clear hsat za1 za2 zb1 zb2 ho hbr hb2 HCM hgl
      generalize decide (cv < 0) = bv at HLT ⊢
      cases bv with
      | true =>
        have HX0 : Hid (ltF y0 (RS.nth L (ny - a)) = true) := by show _ = _; rw [← HXY.out, HLT.out]
        clear HXY HLT
        go_wp2_with fail
        go_light
        exact ⟨⟨p, ny, hmp, by omega, by omega, rfl, rfl, H1, .inr HX0.out, HO2.out, HBW.out⟩, by simp [intOf]; omega⟩
      | false =>
        have HX0 : Hid (ltF y0 (RS.nth L (ny - a)) = false) := by show _ = _; rw [← HXY.out, HLT.out]
        clear HXY HLT
        go_wp2_with fail
        go_light
        exact ⟨⟨ny + 1, q, by omega, by omega, hqb, by go_num, rfl, .inr (by rw [show ny + 1 - 1 - a = ny - a by omega]; exact HX0.out), H2, HO2.out, HBW.out⟩, by simp [intOf]; omega⟩
    · obtain rfl : p = q := by omega
      have HE : Hid (L.take (p - a) ++ y0 :: L.drop (p - a) = RS.sortL ltF (L ++ [y0])) := by
        have h3 := HAB.out
        refine RS.one_right tot_ltF L y0 (p - a) hL (by omega) ?_ ?_
        · rcases H1.out with e | e
          · exact .inl (by omega)
          · rw [show p - 1 - a = p - a - 1 by omega] at e; exact .inr e
        · rcases H2.out with e | e
          · exact .inl (by omega)
          · exact .inr e
      have HO0 : Hid (Own B g N c (P ++ (L.take (m - a) ++ (y0 :: (L.drop (m - a) ++ S)))) wr) := by
        show Own _ _ _ _ _ _
        have h3 := HAB.out
        rw [HFF.out] at ho
        rw [List.take_of_length_le (by omega), List.drop_of_length_le (by omega)]
        simpa using ho
      have HBR := hid hbr
      clear H1 H2 ho hbr HO
      go_wp2_with fail
      go_loopw [17] (fun i wr => ∃ k : Nat, p ≤ k ∧ k ≤ m ∧ i = .int .i64 k ∧ Own B g N c (P ++ (L.take (k - a) ++ (y0 :: (L.drop (k - a) ++ S)))) wr ∧ Below B w wr) (fun i _ => (intOf i).toNat)
      case atStart => exact ⟨m, by omega, by omega, rfl, HO0.out, HBR.out⟩
      case round =>
        obtain ⟨k, hpk, hkm, rfl, ho, hbr⟩ := hrel
        by_cases hlt2 : p < k
        · obtain ⟨j, rfl⟩ : ∃ j, k = j + 1 := ⟨k - 1, by omega⟩
          have hkR : j - a < L.length := by have := HAB.out; omega
          obtain ⟨F, hF⟩ : ∃ F, F = P ++ (L.take (j + 1 - a) ++ (y0 :: (L.drop (j + 1 - a) ++ S))) := ⟨_, rfl⟩
          rw [← hF] at ho
          obtain ⟨nx, hnx⟩ : ∃ z, z = j + 1 := ⟨_, rfl⟩
          have HSW : Hid (RS.swp F nx j = P ++ (L.take (j - a) ++ (y0 :: (L.drop (j - a) ++ S)))) := by
            show _ = _
            have h3 := HAB.out
            rw [hF, show j + 1 - a = (j - a) + 1 by omega, List.take_succ_eq_append_getElem hkR]
            have := RS.swp_at' (P ++ L.take (j - a)) [] (L.drop (j - a + 1) ++ S) L[j - a] y0 j nx (by simp; omega) (by simp; omega)
            rw [List.drop_eq_getElem_cons hkR]
            simpa only [List.append_assoc, List.cons_append, List.nil_append] using this
          rw [← hnx] at hlt2 hkm hpk ⊢
          obtain ⟨ny, hny⟩ : ∃ z, z = j := ⟨_, rfl⟩
          subst hny
          have hnxN : nx < N := by omega
          have hnyN : ny < N := by omega
          have hne : ny < nx := by omega
          have hpn : p ≤ ny := by omega
          have ex1 : (nx : Int) - 1 = (ny : Int) := by omega
          have HNY := hid hnx
          clear hF hnx
          obtain ⟨c1, c2, f1, f2⟩ := own_cells ho hnxN
          obtain ⟨d1, d2, g1, g2⟩ := own_cells ho hnyN
          have HQ := hid (exch ho hnxN hnyN rfl rfl rfl rfl)
          have HB := hid hbr
          generalize RS.nth F nx = x at *
          generalize RS.nth F ny = y at *
          generalize S8 x.name = xn at *
          generalize S8 y.name = yn at *
          generalize x.kind = xk at *
          generalize y.kind = yk at *
          have hc1 : wr.drew.cell? ⟨g, nx * 2, none⟩ = some (.int .i64 xk) := c1
          have hc2 : wr.drew.cell? ⟨g, nx * 2 + 1, none⟩ = some (.string xn) := c2
          have hd1 : wr.drew.cell? ⟨g, ny * 2, none⟩ = some (.int .i64 yk) := d1
          have hd2 : wr.drew.cell? ⟨g, ny * 2 + 1, none⟩ = some (.string yn) := d2
          have hf1 : wr.drew.frozen? ⟨g, nx * 2, none⟩ = false := f1
          have hf2 : wr.drew.frozen? ⟨g, nx * 2 + 1, none⟩ = false := f2
          have hg1 : wr.drew.frozen? ⟨g, ny * 2, none⟩ = false := g1
          have hg2 : wr.drew.frozen? ⟨g, ny * 2 + 1, none⟩ = false := g2
          clear ho hbr
          go_wp2_with fail
          go_big_region
          clear hc1 hc2 hd1 hd2 hf1 hf2 hg1 hg2 c1 c2 d1 d2 f1 f2 g1 g2
          go_wp2_with fail
          go_light
          exact ⟨⟨ny, hpn, by omega, by go_num, by rw [← HSW.out]; exact HQ.out.1, HQ.out.2 w HB.out⟩, by simp [intOf]; omega⟩
        · obtain rfl : k = p := by omega
          have HO3 : Hid (Own B g N c (P ++ (RS.sortL ltF (L ++ [y0]) ++ S)) wr) := by
            show Own _ _ _ _ _ _
            rw [← HE.out]; simpa only [List.append_assoc, List.cons_append] using ho
          clear ho HO0
          go_wp2_with fail
          refine bodyPost_ret (results_none rfl _ _ _) rfl ?_
          exact ⟨rfl, HO3.out, hbr⟩
end RL
end Go.Proofs.YtecfkhgocjbocaaGreatDoor
namespace Go.Proofs.YtecfkhgocjbocaaGreatDoor
set_option linter.unusedVariables false
set_option linter.unusedSimpArgs false
open Go Go.RowKit

namespace RL
open CF
theorem cut_lists {L R : List Ft} {a m b d s e0 lo hi : Nat} (hL : RS.Sd ltF L) (hR : RS.Sd ltF R) (hm : m = a + L.length) (hb : b = m + R.length) (hs2 : s ≤ m) (he : e0 + s = d + m) (hme : m ≤ e0) (heb : e0 ≤ b)
    (hal : a ≤ lo) (hls : lo ≤ s) (hsh : s ≤ hi) (hlo : lo = a ∨ lo + b = d + m) (hhi : hi = m ∨ hi = d) (hhd : hi ≤ d)
    (h1 : lo < s → ltF (RS.nth R (d - s)) (RS.nth L (s - 1 - a)) = false) (h2 : s < hi → ltF (RS.nth R (d - 1 - s)) (RS.nth L (s - a)) = true) :
    ∃ L1 L2 R1 R2, L = L1 ++ L2 ∧ R = R1 ++ R2 ∧ L1.length = s - a ∧ L2.length = m - s ∧ R1.length = e0 - m ∧ R2.length = b - e0 ∧ RS.Sd ltF L1 ∧ RS.Sd ltF L2 ∧ RS.Sd ltF R1 ∧ RS.Sd ltF R2 ∧
      RS.sortL ltF (L1 ++ R1) ++ RS.sortL ltF (L2 ++ R2) = RS.sortL ltF (L ++ R) := by
  have hsa : s - a ≤ L.length := by omega
  have hea : e0 - m ≤ R.length := by omega
  obtain ⟨k1, k2⟩ := RS.cut_at tot_ltF L R (lo - a) (hi - a) (s - a) (e0 - m) (d - a) hL hR hsa hea (by omega) (by omega) (by omega) (by omega) (by omega)
    (fun h => by
      have := h1 (by omega)
      rwa [show d - a - (s - a) = d - s by omega, show s - a - 1 = s - 1 - a by omega])
    (fun h => by
      have := h2 (by omega)
      rwa [show d - a - (s - a) - 1 = d - 1 - s by omega])
  have eL := List.take_append_drop (s - a) L
  have eR := List.take_append_drop (e0 - m) R
  have hL2 := hL
  have hR2 := hR
  rw [← eL] at hL2
  rw [← eR] at hR2
  refine ⟨L.take (s - a), L.drop (s - a), R.take (e0 - m), R.drop (e0 - m), eL.symm, eR.symm, by rw [List.length_take]; omega, by rw [List.length_drop]; omega, by rw [List.length_take]; omega, by rw [List.length_drop]; omega,
    RS.sd_app_l hL2, RS.sd_app_r hL2, RS.sd_app_l hR2, RS.sd_app_r hR2, ?_⟩
  rw [RS.halves tot_ltF _ _ _ _ hL2 hR2 k1 k2, eL, eR]
theorem sorted_one {x y : List Ft} (h : x = [] ∨ y = []) (hx : RS.Sd ltF x) (hy : RS.Sd ltF y) : x ++ y = RS.sortL ltF (x ++ y) := by
  rcases h with rfl | rfl
  · exact RS.sort_eq tot_ltF (by simpa using hy) (List.Perm.refl _)
  · exact RS.sort_eq tot_ltF (by simpa using hx) (List.Perm.refl _)
/-- the call of the merge -/
def SymAt (B g N c : Nat) (K : Nat) : Prop := ∀ (P L R S : List Ft) (a m b : Nat) (w : World), L.length + R.length ≤ K → Own B g N c (P ++ (L ++ (R ++ S))) w → RS.Sd ltF L → RS.Sd ltF R → 0 < L.length → 0 < R.length → a = P.length → m = a + L.length → b = m + R.length → B ≤ w.heap.size →
    Calls Tryz.prog 126 #[.slice (some ⟨g, 0, none⟩) N c, .int .i64 a, .int .i64 m, .int .i64 b, CB] w fun e w' => e = .returned (.tuple #[]) ∧ Own B g N c (P ++ (RS.sortL ltF (L ++ R) ++ S)) w' ∧ Below B w w'
set_option maxRecDepth 100000 in
set_option maxHeartbeats 1600000 in
theorem symMore (B g N c K : Nat) (hN : N ≤ 1000) (ih : SymAt B g N c K) (P L R S : List Ft) (a m b : Nat) (w : World) (hK : L.length + R.length ≤ K + 1) (h : Own B g N c (P ++ (L ++ (R ++ S))) w) (hL : RS.Sd ltF L) (hR : RS.Sd ltF R) (hl2 : 2 ≤ L.length) (hr2 : 2 ≤ R.length) (ha : a = P.length) (hm : m = a + L.length) (hb : b = m + R.length) (hB : B ≤ w.heap.size) :
    Calls Tryz.prog 126 #[.slice (some ⟨g, 0, none⟩) N c, .int .i64 a, .int .i64 m, .int .i64 b, CB] w fun e w' => e = .returned (.tuple #[]) ∧ Own B g N c (P ++ (RS.sortL ltF (L ++ R) ++ S)) w' ∧ Below B w w' := by
  have hlen := own_nth h
  simp only [List.length_append] at hlen
  have hbN : b ≤ N := by omega
  have ham : a + 1 < m := by omega
  have hmb : m + 1 < b := by omega
  have em : (((m : Int) - (a : Int)) == 1) = false := by rw [beq_eq_false_iff_ne]; omega
  have eb : (((b : Int) - (m : Int)) == 1) = false := by rw [beq_eq_false_iff_ne]; omega
  have HXL : Hid (∀ i, i < L.length → RS.nth (P ++ (L ++ (R ++ S))) (a + i) = RS.nth L i) := fun i hi => nthL P L (R ++ S) a i ha hi
  have HXR : Hid (∀ i, i < R.length → RS.nth (P ++ (L ++ (R ++ S))) (m + i) = RS.nth R i) := fun i hi => nthR P L R S m i (by omega) hi
  obtain ⟨F, hF⟩ : ∃ F, F = P ++ (L ++ (R ++ S)) := ⟨_, rfl⟩
  rw [← hF] at h HXL HXR
  have HFF := hid hF
  have HO := hid h
  have HAB : Hid (a = P.length ∧ m = a + L.length ∧ b = m + R.length) := ⟨ha, hm, hb⟩
  have HSD := hid (And.intro hL hR)
  have HK := hid hK
  have HIH := hid ih
  have hLl : L.length = m - a := by omega
  have hRl : R.length = b - m := by omega
  clear h hlen ha hm hb hF hL hR hK ih hl2 hr2
  obtain ⟨d, hd, hd1, hd2⟩ : ∃ d : Nat, ((a : Int) + (b : Int)) / 2 = (d : Int) ∧ 2 * d ≤ a + b ∧ a + b < 2 * d + 2 := ⟨(a + b) / 2, by omega, by omega, by omega⟩
  obtain ⟨n0, hn0⟩ : ∃ z, z = d + m := ⟨_, rfl⟩
  obtain ⟨pg, hpg⟩ : ∃ z, z = d + m - 1 := ⟨_, rfl⟩
  have en0 : (d : Int) + (m : Int) = (n0 : Int) := by omega
  have epg : (n0 : Int) - 1 = (pg : Int) := by omega
  unfold CB
  obtain ⟨lo, hi, hlh, hal, hhm, hlo, hhi, hcase⟩ : ∃ lo hi : Nat, lo ≤ hi ∧ a ≤ lo ∧ (hi ≤ m ∧ hi ≤ d) ∧ (lo = a ∨ lo + b = d + m) ∧ (hi = m ∨ hi = d) ∧ ((d < m ∧ n0 = lo + b ∧ hi = d) ∨ (m ≤ d ∧ lo = a ∧ hi = m)) := by
    by_cases hmd : d < m
    · exact ⟨n0 - b, d, by omega, by omega, by omega, .inr (by omega), .inr rfl, .inl ⟨hmd, by omega, rfl⟩⟩
    · exact ⟨a, m, by omega, by omega, by omega, .inl rfl, .inl rfl, .inr ⟨by omega, rfl, rfl⟩⟩
  have HLO : Hid ((lo = a ∨ lo + b = d + m) ∧ (hi = m ∨ hi = d)) := ⟨hlo, hhi⟩
  have HCA := hid hcase
  have HN0 : Hid (n0 = d + m ∧ pg = d + m - 1) := ⟨hn0, hpg⟩
  have HPG : Hid (pg + 1 = d + m) := by show _ = _; omega
  have hlo2 : d + m ≤ lo + b := by omega
  clear hn0 hpg hlo hhi hcase
  go_enter Tryz.func126, Tryz.ntmps126
  go_upto_if 140 with fail
  go_cut [20, 21] (fun s r wx => s = .int .i64 lo ∧ r = .int .i64 hi ∧ wx = w)
  case first =>
    rcases HCA.out with ⟨h1, h2, h3⟩ | ⟨h1, h2, h3⟩
    · have elo : (n0 : Int) - (b : Int) = (lo : Int) := by omega
      have emd : decide (d < m) = true := by rw [decide_eq_true_iff]; omega
      subst h3
      clear h2
      go_wp2_with fail
      go_meet
      exact ⟨by first | rfl | simp [elo], rfl, rfl⟩
    · have emd : decide (d < m) = false := by rw [decide_eq_false_iff_not]; omega
      subst h2 h3
      go_wp2_with fail
      go_meet
      exact ⟨rfl, rfl, rfl⟩
  case rest =>
    obtain ⟨rfl, rfl, hwc⟩ := hcut
    replace hwc := hwc.symm
    subst hwc
    as_aux_lemma =>
      go_wp2_with fail
      go_loopw [20, 21] (fun i j wr => ∃ p q : Nat, lo ≤ p ∧ p ≤ q ∧ q ≤ hi ∧ i = .int .i64 p ∧ j = .int .i64 q ∧ Hid (lo < p → ltF (RS.nth R (d - p)) (RS.nth L (p - 1 - a)) = false) ∧ Hid (q < hi → ltF (RS.nth R (d - 1 - q)) (RS.nth L (q - a)) = true) ∧ Own B g N c F wr ∧ Below B w wr) (fun i j _ => (intOf j).toNat - (intOf i).toNat)
      case atStart => exact ⟨lo, hi, by omega, by omega, by omega, by go_num, by go_num, (show lo < lo → _ from fun h => absurd h (by omega)), (show hi < hi → _ from fun h => absurd h (by omega)), HO.out, Below.refl _ _⟩
      case round =>
        obtain ⟨p, q, hlp, hpq, hqh, rfl, rfl, H1, H2, ho, hbr⟩ := hrel
        by_cases hlt : p < q
        · as_aux_lemma =>
          obtain ⟨ny, hv, hv1, hv2⟩ : ∃ v : Nat, ((p : Int) + (q : Int)) / 2 = (v : Int) ∧ p ≤ v ∧ v < q := ⟨(p + q) / 2, by omega, by omega, by omega⟩
          have HV := hid hv
          obtain ⟨nx, hnx⟩ : ∃ z, z = m + (d - 1 - ny) := ⟨_, rfl⟩
          have HXY : Hid (ltF (RS.nth F nx) (RS.nth F ny) = ltF (RS.nth R (d - 1 - ny)) (RS.nth L (ny - a))) := by
            show _ = _
            have e1 := HXR.out (d - 1 - ny) (by omega)
            have e2 := HXL.out (ny - a) (by omega)
            rw [show a + (ny - a) = ny by omega] at e2
            rw [hnx, e1, e2]
          have hnxN : nx < N := by omega
          have hnyN : ny < N := by omega
          have ex1 : (pg : Int) - (ny : Int) = (nx : Int) := by have := HPG.out; omega
          clear hv hnx
          obtain ⟨c1, c2, f1, f2⟩ := own_cells ho hnxN
          obtain ⟨d1, d2, g1, g2⟩ := own_cells ho hnyN
          have hgl : g < wr.heap.size := (own_row2 ho).2.1
          have HCM := hid (fun w' => cmpFt_any (RS.nth F nx) (RS.nth F ny) w')
          have HLT : Hid (ltF (RS.nth F nx) (RS.nth F ny) = decide (cmpF (RS.nth F nx) (RS.nth F ny) < 0)) := rfl
          unfold ftV at HCM
          generalize cmpF (RS.nth F nx) (RS.nth F ny) = cv at *
          generalize RS.nth F nx = x at *
          generalize RS.nth F ny = y at *
          generalize S8 x.name = xn at *
          generalize S8 y.name = yn at *
          generalize x.kind = xk at *
          generalize y.kind = yk at *
          have za1 := fun (z : WK (fun _ => False) wr) => (wat_cell (p := ⟨g, nx * 2, none⟩) hgl (by simp) z).trans c1
          have za2 := fun (z : WK (fun _ => False) wr) => (wat_cell (p := ⟨g, nx * 2 + 1, none⟩) hgl (by simp) z).trans c2
          have zb1 := fun (z : WK (fun _ => False) wr) => (wat_cell (p := ⟨g, ny * 2, none⟩) hgl (by simp) z).trans d1
          have zb2 := fun (z : WK (fun _ => False) wr) => (wat_cell (p := ⟨g, ny * 2 + 1, none⟩) hgl (by simp) z).trans d2
          clear c1 c2 d1 d2 f1 f2 g1 g2
          go_upto_region 35 with fail
          rw [HV.out]
          refine wp_region_loud (fun _ => False) [(11, plainL [] (.int .i64 cv))] (fun _ => Fact.none) (by kernel_rfl) (by kernel_rfl) (.cons (plainL_ok _ _) .nil) good_nothing sat_none (WX.out ?_)
          repeat (first | (refine wx_quietU (by rfl) (by rfl) (by rfl) (fun K hK => ?_); go_big_quiet_op; refine hK _ ?_; clear hK K) | (refine wx_quietG (by rfl) (by rfl) (by rfl) (by rfl) (by rfl) (fun K hK => ?_); go_big_quiet_op; refine hK _ ?_; clear hK K) | (refine wx_skipG (by rfl) (by rfl) (by rfl) (fun K hK => ?_); go_simp; refine hK _ ?_; clear hK K) | (refine wx_skipN (by rfl) (by rfl) (by rfl) (fun K hK => ?_); go_simp; refine hK _ ?_; clear hK K))
          refine wx_loudU (us := []) (by rfl) (by rfl) (fun S wS hC hS hU => runs_enter (f := 71) (by go_simp <;> rfl) ?_) (fun v hv K hK => ?_)
          · refine (HCM.out wS).mono ?_
            rintro e w' ⟨rfl, hb⟩
            exact ⟨_, rfl, rfl, Kept.of_below hb, trivial⟩
          obtain rfl := hv; (go_simp; refine hK _ ?_; clear hK K)
          repeat (first | (refine wx_quietU (by rfl) (by rfl) (by rfl) (fun K hK => ?_); go_big_quiet_op; refine hK _ ?_; clear hK K) | (refine wx_quietG (by rfl) (by rfl) (by rfl) (by rfl) (by rfl) (fun K hK => ?_); go_big_quiet_op; refine hK _ ?_; clear hK K) | (refine wx_skipG (by rfl) (by rfl) (by rfl) (fun K hK => ?_); go_simp; refine hK _ ?_; clear hK K) | (refine wx_skipN (by rfl) (by rfl) (by rfl) (fun K hK => ?_); go_simp; refine hK _ ?_; clear hK K))
          refine wx_nil fun w2 hsat => ?_
          have hb2 := sat_below hsat
          have HBW := hid (hbr.trans (hb2.mono (Nat.le_trans hB hbr.size)))
          have HO2 : Hid (Own B g N c F w2) := own_below ho hb2
          clear hsat za1 za2 zb1 zb2 ho hbr hb2 HCM hgl
          generalize decide (cv < 0) = bv at HLT ⊢
          cases bv with
          | true =>
            have HX0 : Hid (ltF (RS.nth R (d - 1 - ny)) (RS.nth L (ny - a)) = true) := by show _ = _; rw [← HXY.out, HLT.out]
            clear HXY HLT
            go_wp2_with fail
            go_light
            exact ⟨⟨p, ny, hlp, by omega, by omega, rfl, rfl, H1, (show ny < hi → _ from fun _ => HX0.out), HO2.out, HBW.out⟩, by simp [intOf]; omega⟩
          | false =>
            have HX0 : Hid (ltF (RS.nth R (d - 1 - ny)) (RS.nth L (ny - a)) = false) := by show _ = _; rw [← HXY.out, HLT.out]
            clear HXY HLT
            go_wp2_with fail
            go_light
            exact ⟨⟨ny + 1, q, by omega, by omega, hqh, by go_num, rfl, (show lo < ny + 1 → _ from fun _ => by rw [show d - (ny + 1) = d - 1 - ny by omega, show ny + 1 - 1 - a = ny - a by omega]; exact HX0.out), H2, HO2.out, HBW.out⟩, by simp [intOf]; omega⟩
        · obtain rfl : p = q := by omega
          obtain ⟨e0, he0⟩ : ∃ z, z = d + m - p := ⟨_, rfl⟩
          have hpm : p ≤ m := by omega
          have hme : m ≤ e0 := by have := HLO.out; omega
          have heb : e0 ≤ b := by have := HLO.out; omega
          obtain ⟨L1, L2, R1, R2, hLe, hRe, l1, l2, l3, l4, s1, s2, s3, s4, hsort⟩ := cut_lists (e0 := e0) (d := d) (s := p) (lo := lo) (hi := hi) HSD.out.1 HSD.out.2 HAB.out.2.1 HAB.out.2.2 hpm (by omega) hme heb hal hlp hqh HLO.out.1 HLO.out.2 hhm.2 H1.out H2.out
          have HLR := hid (And.intro hLe hRe)
          have HSO := hid hsort
          have HS4 := hid (And.intro s1 (And.intro s2 (And.intro s3 s4)))
          have en : (n0 : Int) - (p : Int) = (e0 : Int) := by have := HN0.out; omega
          have HO1 : Hid (Own B g N c (P ++ (L1 ++ (L2 ++ (R1 ++ (R2 ++ S))))) wr) := by
            show Own _ _ _ _ _ _
            rw [HFF.out, hLe, hRe] at ho
            simpa only [List.append_assoc] using ho
          have HBR := hid hbr
          have hBr : B ≤ wr.heap.size := Nat.le_trans hB hbr.size
          have HE0 := hid he0
          clear hLe hRe hsort s1 s2 s3 s4 ho hbr H1 H2 HO HXL HXR he0 HFF hLl hRl
          as_aux_lemma =>
          obtain ⟨b1, hb1⟩ : ∃ z, z = (decide (p < m) && decide (m < e0)) := ⟨_, rfl⟩
          have HB1 := hid hb1
          clear hb1
          go_upto_region 39 with fail
          go_cut [185] (fun s wx => s = .bool b1 ∧ wx = wr)
          case first =>
            as_aux_lemma =>
            by_cases hA : p < m
            · have hA' : (p : Int) < (m : Int) := by omega
              by_cases hB' : m < e0
              · have hB2 : (m : Int) < (e0 : Int) := by omega
                have hv : b1 = true := by rw [HB1.out]; simp [hA, hB']
                go_wp2_with fail
                go_meet
                exact ⟨by simp [hv], rfl⟩
              · have hB2 : ¬ (m : Int) < (e0 : Int) := by omega
                have hv : b1 = false := by rw [HB1.out]; simp [hB']
                go_wp2_with fail
                go_meet
                exact ⟨by simp [hv], rfl⟩
            · have hA' : ¬ (p : Int) < (m : Int) := by omega
              have hv : b1 = false := by rw [HB1.out]; simp [hA]
              go_wp2_with fail
              go_meet
              exact ⟨by simp [hv], rfl⟩
          case rest =>
            as_aux_lemma =>
            obtain ⟨rfl, rfl⟩ := hcut
            have hBW := hBr
            go_upto_if 185 with fail
            go_cut [] (fun wx => Own B g N c (P ++ (L1 ++ (R1 ++ (L2 ++ (R2 ++ S))))) wx ∧ Below B w wx)
            case first =>
              as_aux_lemma =>
              cases b1 with
              | true =>
                have hpq2 : p < m ∧ m < e0 := by have := HB1.out; simp at this; exact this
                have HROT := hid (rotate_any (P ++ L1) L2 R1 (R2 ++ S) B g N c p m e0 wc (by have := HO1.out; simpa only [List.append_assoc] using this) (by have := HAB.out; rw [List.length_append]; omega) (by omega) (by omega) (by omega) (by omega) hBr hN)
                unfold CB at HROT
                go_wp2_with fail
                refine HROT.out.mono ?_
                rintro e w2 ⟨rfl, ho2, hb2⟩
                have HO2 : Hid (Own B g N c (P ++ (L1 ++ (R1 ++ (L2 ++ (R2 ++ S))))) w2) := by
                  show Own _ _ _ _ _ _
                  simpa only [List.append_assoc] using ho2
                have HB2w := hid (HBR.out.trans hb2)
                clear HROT ho2 hb2 HO1 hpq2
                go_wp2_with fail
                go_meet
                exact ⟨HO2.out, HB2w.out⟩
              | false =>
                have HO2 : Hid (Own B g N c (P ++ (L1 ++ (R1 ++ (L2 ++ (R2 ++ S))))) wc) := by
                  show Own _ _ _ _ _ _
                  have hx : L2 = [] ∨ R1 = [] := by
                    have h5 := HB1.out
                    have h6 : ¬ (p < m ∧ m < e0) := by
                      intro h7; rw [decide_eq_true h7.1, decide_eq_true h7.2] at h5; cases h5
                    by_cases h8 : p < m
                    · exact .inr (List.length_eq_zero_iff.1 (by omega))
                    · exact .inl (List.length_eq_zero_iff.1 (by omega))
                  have := HO1.out
                  rcases hx with rfl | rfl <;> simpa using this
                clear HO1
                go_wp2_with fail
                go_meet
                exact ⟨HO2.out, HBR.out⟩
            case rest =>
              as_aux_lemma =>
              rename_i wc1
              obtain ⟨ho2, hbw2⟩ := hcut
              have HO2 := hid ho2
              have HB2w := hid hbw2
              have hB2W : B ≤ wc.heap.size := Nat.le_trans hB hbw2.size
              clear ho2 hbw2 HO1 HBR hBr
              obtain ⟨b2, hb2⟩ : ∃ z, z = (decide (a < p) && decide (p < d)) := ⟨_, rfl⟩
              have HB2 := hid hb2
              clear hb2
              go_upto_region 41 with fail
              go_cut [199] (fun s wx => s = .bool b2 ∧ wx = wc)
              case first =>
                as_aux_lemma =>
                by_cases hA : a < p
                · have hA' : (a : Int) < (p : Int) := by omega
                  by_cases hB' : p < d
                  · have hB2 : (p : Int) < (d : Int) := by omega
                    have hv : b2 = true := by rw [HB2.out]; simp [hA, hB']
                    go_wp2_with fail
                    go_meet
                    exact ⟨by simp [hv], rfl⟩
                  · have hB2 : ¬ (p : Int) < (d : Int) := by omega
                    have hv : b2 = false := by rw [HB2.out]; simp [hB']
                    go_wp2_with fail
                    go_meet
                    exact ⟨by simp [hv], rfl⟩
                · have hA' : ¬ (a : Int) < (p : Int) := by omega
                  have hv : b2 = false := by rw [HB2.out]; simp [hA]
                  go_wp2_with fail
                  go_meet
                  exact ⟨by simp [hv], rfl⟩
              case rest =>
                as_aux_lemma =>
                obtain ⟨rfl, rfl⟩ := hcut
                go_upto_if 199 with fail
                go_cut [] (fun wx => Own B g N c (P ++ (RS.sortL ltF (L1 ++ R1) ++ (L2 ++ (R2 ++ S)))) wx ∧ Below B w wx)
                case first =>
                  as_aux_lemma =>
                  cases b2 with
                  | true =>
                    have hpq3 : a < p ∧ p < d := by have := HB2.out; simp at this; exact this
                    have HC := hid (HIH.out P L1 R1 (L2 ++ (R2 ++ S)) a p d wc (by have := HK.out; have := HAB.out; have := HE0.out; omega) HO2.out HS4.out.1 HS4.out.2.2.1 (by omega) (by have := HE0.out; omega) HAB.out.1 (by omega) (by have := HE0.out; omega) hB2W)
                    unfold CB at HC
                    go_wp2_with fail
                    refine HC.out.mono ?_
                    rintro e w3 ⟨rfl, ho3, hb3⟩
                    have HO3 := hid ho3
                    have HB3w := hid (HB2w.out.trans hb3)
                    clear HC ho3 hb3 HO2 hpq3
                    go_wp2_with fail
                    go_meet
                    exact ⟨HO3.out, HB3w.out⟩
                  | false =>
                    have HO3 : Hid (Own B g N c (P ++ (RS.sortL ltF (L1 ++ R1) ++ (L2 ++ (R2 ++ S)))) wc) := by
                      show Own _ _ _ _ _ _
                      have hx : L1 = [] ∨ R1 = [] := by
                        have h5 := HB2.out
                        have h6 : ¬ (a < p ∧ p < d) := by
                          intro h7; rw [decide_eq_true h7.1, decide_eq_true h7.2] at h5; cases h5
                        have := HE0.out
                        by_cases h8 : a < p
                        · exact .inr (List.length_eq_zero_iff.1 (by omega))
                        · exact .inl (List.length_eq_zero_iff.1 (by omega))
                      rw [← sorted_one hx HS4.out.1 HS4.out.2.2.1]
                      have := HO2.out
                      simpa only [List.append_assoc] using this
                    clear HO2
                    go_wp2_with fail
                    go_meet
                    exact ⟨HO3.out, HB2w.out⟩
                case rest =>
                  as_aux_lemma =>
                  obtain ⟨ho3, hbw3⟩ := hcut
                  have HO3 := hid ho3
                  have HB3w := hid hbw3
                  have hB3W : B ≤ wc.heap.size := Nat.le_trans hB hbw3.size
                  clear ho3 hbw3 HO2 HB2w hB2W
                  obtain ⟨b3, hb3⟩ : ∃ z, z = (decide (d < e0) && decide (e0 < b)) := ⟨_, rfl⟩
                  have HB3 := hid hb3
                  clear hb3
                  go_upto_region 43 with fail
                  go_cut [213] (fun s wx => s = .bool b3 ∧ wx = wc)
                  case first =>
                    as_aux_lemma =>
                    by_cases hA : d < e0
                    · have hA' : (d : Int) < (e0 : Int) := by omega
                      by_cases hB' : e0 < b
                      · have hB2 : (e0 : Int) < (b : Int) := by omega
                        have hv : b3 = true := by rw [HB3.out]; simp [hA, hB']
                        go_wp2_with fail
                        go_meet
                        exact ⟨by simp [hv], rfl⟩
                      · have hB2 : ¬ (e0 : Int) < (b : Int) := by omega
                        have hv : b3 = false := by rw [HB3.out]; simp [hB']
                        go_wp2_with fail
                        go_meet
                        exact ⟨by simp [hv], rfl⟩
                    · have hA' : ¬ (d : Int) < (e0 : Int) := by omega
                      have hv : b3 = false := by rw [HB3.out]; simp [hA]
                      go_wp2_with fail
                      go_meet
                      exact ⟨by simp [hv], rfl⟩
                  case rest =>
                    as_aux_lemma =>
                    obtain ⟨rfl, rfl⟩ := hcut
                    cases b3 with
                    | true =>
                      have hpq2 : d < e0 ∧ e0 < b := by have := HB3.out; simp at this; exact this
                      have HC := hid (HIH.out (P ++ RS.sortL ltF (L1 ++ R1)) L2 R2 S d e0 b wc (by have := HK.out; have := HAB.out; omega) (by have := HO3.out; simpa only [List.append_assoc] using this) HS4.out.2.1 HS4.out.2.2.2 (by omega) (by omega) (by have := HAB.out; have := HE0.out; rw [List.length_append, RS.sortL_len, List.length_append]; omega) (by have := HE0.out; omega) (by omega) hB3W)
                      unfold CB at HC
                      go_wp2_with fail
                      refine HC.out.mono ?_
                      rintro e w4 ⟨rfl, ho4, hb4⟩
                      have HO4 : Hid (Own B g N c (P ++ (RS.sortL ltF (L ++ R) ++ S)) w4) := by
                        show Own _ _ _ _ _ _
                        rw [← HSO.out]; simpa only [List.append_assoc] using ho4
                      have HBZ := hid (HB3w.out.trans hb4)
                      clear HC ho4 hb4
                      go_wp2_with fail
                      go_end0
                      exact ⟨rfl, HO4.out, HBZ.out⟩
                    | false =>
                      have HO4 : Hid (Own B g N c (P ++ (RS.sortL ltF (L ++ R) ++ S)) wc) := by
                        show Own _ _ _ _ _ _
                        have hx : L2 = [] ∨ R2 = [] := by
                          have h5 := HB3.out
                          have h6 : ¬ (d < e0 ∧ e0 < b) := by
                            intro h7; rw [decide_eq_true h7.1, decide_eq_true h7.2] at h5; cases h5
                          have := HE0.out
                          by_cases h8 : d < e0
                          · exact .inr (List.length_eq_zero_iff.1 (by omega))
                          · exact .inl (List.length_eq_zero_iff.1 (by omega))
                        rw [← HSO.out, ← sorted_one hx HS4.out.2.1 HS4.out.2.2.2]
                        have := HO3.out
                        simpa only [List.append_assoc] using this
                      go_wp2_with fail
                      go_end0
                      exact ⟨rfl, HO4.out, HB3w.out⟩
end RL
end Go.Proofs.YtecfkhgocjbocaaGreatDoor
namespace Go.Proofs.YtecfkhgocjbocaaGreatDoor
set_option linter.unusedVariables false
set_option linter.unusedSimpArgs false
open Go Go.RowKit

namespace RL
open CF
/-- the call of the merge -/
def SymOk (B g N c : Nat) : Prop := ∀ (P L R S : List Ft) (a m b : Nat) (w : World), Own B g N c (P ++ (L ++ (R ++ S))) w → RS.Sd ltF L → RS.Sd ltF R → 0 < L.length → 0 < R.length → a = P.length → m = a + L.length → b = m + R.length → B ≤ w.heap.size →
    Calls Tryz.prog 126 #[.slice (some ⟨g, 0, none⟩) N c, .int .i64 a, .int .i64 m, .int .i64 b, CB] w fun e w' => e = .returned (.tuple #[]) ∧ Own B g N c (P ++ (RS.sortL ltF (L ++ R) ++ S)) w' ∧ Below B w w'
theorem put_eq (F : List Ft) (x y : Nat) (M : List Ft) (h : x + M.length = y) : F.take x ++ (M ++ F.drop y) = RS.put F x M := by
  unfold RS.put; rw [h]
theorem ins_at' (F : List Ft) (B g N c x y : Nat) (w : World) (h : Own B g N c F w) (hxy : x ≤ y) (hy : y ≤ N) (hB : B ≤ w.heap.size) (hN : N ≤ 1000) :
    Calls Tryz.prog 125 #[.slice (some ⟨g, 0, none⟩) N c, .int .i64 x, .int .i64 y, CB] w fun e w' => e = .returned (.tuple #[]) ∧ Own B g N c (RS.put F x (RS.sortL ltF (RS.mid F x y))) w' ∧ Below B w w' := by
  have hl := own_nth h
  have hm := RS.mid_len F x y (by omega)
  refine (insertion_any (F.take x) (RS.mid F x y) (F.drop y) B g N c x y w (by rw [← RS.mid_split F x y hxy (by omega)]; exact h) (by rw [List.length_take]; omega) (by omega) hB hN).mono ?_
  rintro e w' ⟨rfl, ho, hb⟩
  rw [put_eq F x y _ (by rw [RS.sortL_len, hm]; omega)] at ho
  exact ⟨rfl, ho, hb⟩
theorem sym_at' (F : List Ft) (B g N c x m y : Nat) (w : World) (hs : SymOk B g N c) (h : Own B g N c F w) (h1 : RS.SR ltF F x m) (h2 : RS.SR ltF F m y) (hxm : x < m) (hmy : m < y) (hy : y ≤ N) (hB : B ≤ w.heap.size) :
    Calls Tryz.prog 126 #[.slice (some ⟨g, 0, none⟩) N c, .int .i64 x, .int .i64 m, .int .i64 y, CB] w fun e w' => e = .returned (.tuple #[]) ∧ Own B g N c (RS.put F x (RS.sortL ltF (RS.mid F x y))) w' ∧ Below B w w' := by
  have hl := own_nth h
  have k1 := RS.mid_len F x m (by omega)
  have k2 := RS.mid_len F m y (by omega)
  have hm := RS.mid_len F x y (by omega)
  refine (hs (F.take x) (RS.mid F x m) (RS.mid F m y) (F.drop y) x m y w (by rw [← RS.mid_two F x m y (by omega) (by omega) (by omega)]; exact h) (h1.sd (by omega)) (h2.sd (by omega)) (by omega) (by omega) (by rw [List.length_take]; omega) (by omega) (by omega) hB).mono ?_
  rintro e w' ⟨rfl, ho, hb⟩
  rw [RS.mid_join F x m y (by omega) (by omega), put_eq F x y _ (by rw [RS.sortL_len, hm]; omega)] at ho
  exact ⟨rfl, ho, hb⟩
theorem put_sorted {F F0 : List Ft} {x y N : Nat} (hl : F.length = N) (hxy : x ≤ y) (hy : y ≤ N) (hp : F.Perm F0) : (RS.put F x (RS.sortL ltF (RS.mid F x y))).Perm F0 :=
  (RS.put_perm F _ x y hxy (by omega) (RS.sortL_perm _ _)).trans hp
set_option maxRecDepth 100000 in
set_option maxHeartbeats 1600000 in
theorem stable_any (F0 : List Ft) (B g N c : Nat) (w : World) (h : Own B g N c F0 w) (hB : B ≤ w.heap.size) (hN : N ≤ 1000) (hsy : N ≤ 20 ∨ SymOk B g N c) :
    Calls Tryz.prog 102 #[.slice (some ⟨g, 0, none⟩) N c, .int .i64 N, CB] w fun e w' => e = .returned (.tuple #[]) ∧ Own B g N c (RS.sortL ltF F0) w' ∧ Below B w w' := by
  have hl0 := own_nth h
  have HINS : Hid (∀ (F : List Ft) (x y : Nat) (w' : World), Own B g N c F w' → x ≤ y → y ≤ N → B ≤ w'.heap.size → Calls Tryz.prog 125 #[.slice (some ⟨g, 0, none⟩) N c, .int .i64 x, .int .i64 y, CB] w' fun e w'' => e = .returned (.tuple #[]) ∧ Own B g N c (RS.put F x (RS.sortL ltF (RS.mid F x y))) w'' ∧ Below B w' w'') :=
    fun F x y w' h1 h2 h3 h4 => ins_at' F B g N c x y w' h1 h2 h3 h4 hN
  have HSYM : Hid (20 < N → ∀ (F : List Ft) (x m y : Nat) (w' : World), Own B g N c F w' → RS.SR ltF F x m → RS.SR ltF F m y → x < m → m < y → y ≤ N → B ≤ w'.heap.size →
      Calls Tryz.prog 126 #[.slice (some ⟨g, 0, none⟩) N c, .int .i64 x, .int .i64 m, .int .i64 y, CB] w' fun e w'' => e = .returned (.tuple #[]) ∧ Own B g N c (RS.put F x (RS.sortL ltF (RS.mid F x y))) w'' ∧ Below B w' w'') :=
    fun hn F x m y w' h1 h2 h3 h4 h5 h6 h7 => sym_at' F B g N c x m y w' (hsy.resolve_left (by omega)) h1 h2 h3 h4 h5 h6 h7
  have HO := hid h
  clear h hsy hl0
  unfold CB at HINS HSYM ⊢
  go_enter Tryz.func102, Tryz.ntmps102
  go_wp2_with fail
  go_loopw [7, 8] (fun a b wr => ∃ (x y t : Nat) (F : List Ft), a = .int .i64 x ∧ b = .int .i64 y ∧ x ≤ N ∧ Hid (x = 20 * t ∧ y = x + 20) ∧ Hid (RS.Bks ltF F 20 t) ∧ Hid (F.Perm F0) ∧ Own B g N c F wr ∧ Below B w wr) (fun a _ _ => N - (intOf a).toNat)
  case atStart => exact ⟨0, 20, 0, F0, by go_num, by go_num, Nat.zero_le _, ⟨rfl, rfl⟩, RS.bks_zero F0 20, List.Perm.refl _, HO.out, Below.refl _ _⟩
  case round =>
    obtain ⟨x, y, t, F, rfl, rfl, hx, HXY, HBK, HP, ho, hbr⟩ := hrel
    have hBr : B ≤ wr.heap.size := Nat.le_trans hB hbr.size
    have hxy : x + 20 = y := by have := HXY.out; omega
    by_cases hle : y ≤ N
    · have hl := own_nth ho
      have HC := hid (HINS.out F x y wr ho (by omega) hle hBr)
      have HN : Hid (RS.Bks ltF (RS.put F x (RS.sortL ltF (RS.mid F x y))) 20 (t + 1) ∧ (RS.put F x (RS.sortL ltF (RS.mid F x y))).Perm F0) := by
        have hm := RS.mid_len F x y (by omega)
        refine ⟨RS.Bks.step tot_ltF HBK.out HXY.out.1 (by rw [RS.sortL_len, hm]; omega) (by rw [RS.sortL_len, hm]; omega) (RS.sortL_sd tot_ltF _), put_sorted hl (by omega) hle HP.out⟩
      generalize RS.put F x (RS.sortL ltF (RS.mid F x y)) = F2 at *
      have HB := hid hbr
      have HXY2 := hid hxy
      clear ho hbr hl hxy HO
      go_wp2_with fail
      refine HC.out.mono ?_
      rintro e w2 ⟨rfl, ho2, hb2⟩
      have HO2 := hid ho2
      have HB2 := hid (HB.out.trans hb2)
      clear HC ho2 hb2 HB
      go_wp2_with fail
      go_light
      have hxy := HXY2.out
      exact ⟨⟨y, y + 20, t + 1, F2, rfl, by go_num, hle, ⟨by have := HXY.out; omega, rfl⟩, HN.out.1, HN.out.2, HO2.out, HB2.out⟩, by simp [intOf]; omega⟩
    · have hl := own_nth ho
      have HC := hid (HINS.out F x N wr ho hx (Nat.le_refl _) hBr)
      have HN : Hid (RS.Bkf ltF (RS.put F x (RS.sortL ltF (RS.mid F x N))) 20 0 ∧ (RS.put F x (RS.sortL ltF (RS.mid F x N))).Perm F0) := by
        have hm := RS.mid_len F x N (by omega)
        refine ⟨RS.Bks.last tot_ltF HBK.out HXY.out.1 (by rw [RS.sortL_len, hm]; omega) (by rw [RS.sortL_len, hm]; omega) (RS.sortL_sd tot_ltF _), put_sorted hl hx (Nat.le_refl _) HP.out⟩
      generalize RS.put F x (RS.sortL ltF (RS.mid F x N)) = F2 at *
      have HB := hid hbr
      clear ho hbr hl hxy HO HXY HBK HP
      go_wp2_with fail
      refine HC.out.mono ?_
      rintro e w2 ⟨rfl, ho2, hb2⟩
      have HO2 := hid ho2
      have HB2 := hid (HB.out.trans hb2)
      clear HC ho2 hb2 HB
      go_wp2_with fail
      go_loopw [6] (fun bs wr => ∃ (s : Nat) (F : List Ft), bs = .int .i64 s ∧ 20 ≤ s ∧ s ≤ 2000 ∧ Hid (RS.Bkf ltF F s 0) ∧ Hid (F.Perm F0) ∧ Own B g N c F wr ∧ Below B w wr) (fun bs _ => N - (intOf bs).toNat)
      case atStart => exact ⟨20, F2, by go_num, by omega, by omega, HN.out.1, HN.out.2, HO2.out, HB2.out⟩
      case round =>
        obtain ⟨s, F, rfl, hs1, hs2, HBF, HP, ho, hbr⟩ := hrel
        by_cases hsn : s < N
        · have h20 : 20 < N := by omega
          have HM := hid (HSYM.out h20)
          obtain ⟨s2, hs2e⟩ : ∃ z, z = 2 * s := ⟨_, rfl⟩
          have es : (2 : Int) * (s : Int) = (s2 : Int) := by omega
          have es2 : (s : Int) * 2 = (s2 : Int) := by omega
          have HS2 := hid hs2e
          have hs2b : s2 ≤ 2000 := by omega
          have HO4 := hid ho
          have HB4 := hid hbr
          clear ho hbr hs2e HSYM HINS HN HO2 HB2
          go_wp2_with fail
          go_loopw [7, 8] (fun a b wr => ∃ (x y t : Nat) (F : List Ft), a = .int .i64 x ∧ b = .int .i64 y ∧ x ≤ N ∧ Hid (x = 2 * s * t ∧ y = x + s2) ∧ Hid (RS.Bks ltF F (2 * s) t) ∧ Hid (RS.Bkf ltF F s (2 * t)) ∧ Hid (F.Perm F0) ∧ Own B g N c F wr ∧ Below B w wr) (fun a _ _ => N - (intOf a).toNat)
          case atStart => exact ⟨0, s2, 0, F, by go_num, by go_num, Nat.zero_le _, ⟨rfl, by omega⟩, RS.bks_zero F _, HBF.out, HP.out, HO4.out, HB4.out⟩
          case round =>
            obtain ⟨x, y, t, F1, rfl, rfl, hx, HXY, HBK, HBF1, HP1, ho, hbr⟩ := hrel
            have hBr : B ≤ wr.heap.size := Nat.le_trans hB hbr.size
            have hl := own_nth ho
            obtain ⟨m, hm⟩ : ∃ z, z = x + s := ⟨_, rfl⟩
            have em : (x : Int) + (s : Int) = (m : Int) := by omega
            have hsl := HBF1.out.left HXY.out.1
            have hsr := HBF1.out.right HXY.out.1
            rw [← hm] at hsl hsr
            have hyx : m + s = y := by have := HXY.out.2; have := HS2.out; omega
            rw [hyx] at hsr
            have hss : s2 = 2 * s := HS2.out
            by_cases hle : y ≤ N
            · have HC := hid (HM.out F1 x m y wr ho hsl hsr (by omega) (by omega) hle hBr)
              have HN : Hid (RS.Bks ltF (RS.put F1 x (RS.sortL ltF (RS.mid F1 x y))) (2 * s) (t + 1) ∧ RS.Bkf ltF (RS.put F1 x (RS.sortL ltF (RS.mid F1 x y))) s (2 * (t + 1)) ∧ (RS.put F1 x (RS.sortL ltF (RS.mid F1 x y))).Perm F0) := by
                have hml := RS.mid_len F1 x y (by omega)
                exact ⟨RS.Bks.step tot_ltF HBK.out HXY.out.1 (by rw [RS.sortL_len, hml]; omega) (by rw [RS.sortL_len, hml]; omega) (RS.sortL_sd tot_ltF _), RS.Bkf.step HBF1.out HXY.out.1 (by rw [RS.sortL_len, hml]; omega) (by rw [RS.sortL_len, hml]; omega), put_sorted hl (by omega) hle HP1.out⟩
              generalize RS.put F1 x (RS.sortL ltF (RS.mid F1 x y)) = F2 at *
              obtain ⟨y2, hy2⟩ : ∃ z, z = y + s2 := ⟨_, rfl⟩
              have ey : (y : Int) + (s2 : Int) = (y2 : Int) := by omega
              have HY := hid (And.intro hy2 (And.intro hyx hm))
              have HBz := hid hbr
              have hxy3 : x < y := by omega
              clear ho hbr hl hy2 hyx hm hsl hsr hss HBK HBF1 HO4 HB4
              go_wp2_with fail
              refine HC.out.mono ?_
              rintro e w2 ⟨rfl, ho2, hb2⟩
              have HO2 := hid ho2
              have HB2 := hid (HBz.out.trans hb2)
              clear HC ho2 hb2 HBz
              go_wp2_with fail
              go_light
              exact ⟨⟨y, y2, t + 1, F2, rfl, by go_num, hle, ⟨by have h1 := HXY.out; have h2 := HS2.out; rw [h1.2, h1.1, h2, Nat.mul_succ], HY.out.1⟩, HN.out.1, HN.out.2.1, HN.out.2.2, HO2.out, HB2.out⟩, by simp [intOf]; omega⟩
            · by_cases hmN : m < N
              · have HC := hid (HM.out F1 x m N wr ho hsl (hsr.less (by omega)) (by omega) hmN (Nat.le_refl _) hBr)
                have HN : Hid (RS.Bkf ltF (RS.put F1 x (RS.sortL ltF (RS.mid F1 x N))) s2 0 ∧ (RS.put F1 x (RS.sortL ltF (RS.mid F1 x N))).Perm F0) := by
                  have hml := RS.mid_len F1 x N (by omega)
                  refine ⟨?_, put_sorted hl hx (Nat.le_refl _) HP1.out⟩
                  rw [hss]
                  exact RS.Bks.last tot_ltF HBK.out HXY.out.1 (by rw [RS.sortL_len, hml]; omega) (by rw [RS.sortL_len, hml]; omega) (RS.sortL_sd tot_ltF _)
                generalize RS.put F1 x (RS.sortL ltF (RS.mid F1 x N)) = F2 at *
                have HBz := hid hbr
                have hs22 : s < s2 := by omega
                have h20s : 20 ≤ s2 := by omega
                clear ho hbr hl hyx hm hsl hsr hss HBK HBF1 HO4 HB4
                go_wp2_with fail
                refine HC.out.mono ?_
                rintro e w2 ⟨rfl, ho2, hb2⟩
                have HO2 := hid ho2
                have HB2 := hid (HBz.out.trans hb2)
                clear HC ho2 hb2 HBz
                go_wp2_with fail
                go_light
                exact ⟨⟨s2, F2, by go_num, h20s, hs2b, HN.out.1, HN.out.2, HO2.out, HB2.out⟩, by simp [intOf]; omega⟩
              · have HN : Hid (RS.Bkf ltF F1 s2 0) := by
                  show RS.Bkf _ _ _ _
                  rw [hss]
                  exact RS.Bks.alone HBK.out HBF1.out HXY.out.1 (by omega)
                have HO2 := hid ho
                have HBz := hid hbr
                have hs22 : s < s2 := by omega
                have h20s : 20 ≤ s2 := by omega
                clear ho hbr hl hyx hm hsl hsr hss HBK HBF1 HO4 HB4
                go_wp2_with fail
                go_light
                exact ⟨⟨s2, F1, by go_num, h20s, hs2b, HN.out, HP1.out, HO2.out, HBz.out⟩, by simp [intOf]; omega⟩
        · have HO3 : Hid (Own B g N c (RS.sortL ltF F0) wr) := by
            show Own _ _ _ _ _ _
            rw [← RS.Bkf.done tot_ltF HBF.out (by rw [own_nth ho]; omega) HP.out]
            exact ho
          have HB := hid hbr
          clear ho hbr HN HO2 HB2
          go_wp2_with fail
          go_end0
          exact ⟨rfl, HO3.out, HB.out⟩
set_option maxRecDepth 100000 in
set_option maxHeartbeats 400000 in
theorem sortStable_any (F : List Ft) (B g N c : Nat) (w : World) (h : Own B g N c F w) (hB : B ≤ w.heap.size) (hN : N ≤ 1000) (hsy : N ≤ 20 ∨ SymOk B g N c) :
    Calls Tryz.prog 70 #[.slice (some ⟨g, 0, none⟩) N c, CB] w fun e w' => e = .returned (.tuple #[]) ∧ Own B g N c (RS.sortL ltF F) w' ∧ Below B w w' := by
  have HC := hid (stable_any F B g N c w h hB hN hsy)
  clear h hsy
  unfold CB at HC ⊢
  go_enter Tryz.func70, Tryz.ntmps70
  go_wp2_with fail
  refine HC.out.mono ?_
  rintro e w2 ⟨rfl, ho2, hb2⟩
  go_wp2_with fail
  go_end0
  exact ⟨rfl, ho2, hb2⟩
end RL
end Go.Proofs.YtecfkhgocjbocaaGreatDoor
namespace Go.Proofs.YtecfkhgocjbocaaGreatDoor
set_option linter.unusedVariables false
set_option linter.unusedSimpArgs false
open Go Go.RowKit

namespace RL
open CF
theorem symAt_all (B g N c : Nat) (hN : N ≤ 1000) (K : Nat) : SymAt B g N c K := by
  induction K with
  | zero => intro P L R S a m b w hK _ _ _ h1 _ _ _ _ _; omega
  | succ K ih =>
    intro P L R S a m b w hK h hL hR hl hr ha hm hb hB
    by_cases e1 : L.length = 1
    · obtain ⟨x0, rfl⟩ : ∃ x, L = [x] := List.length_eq_one_iff.1 e1
      exact symL_any x0 P R S B g N c a m b w h hR hr ha (by simpa using hm) hb hB hN
    · by_cases e2 : R.length = 1
      · obtain ⟨y0, rfl⟩ : ∃ x, R = [x] := List.length_eq_one_iff.1 e2
        exact symR_any y0 P L S B g N c a m b w h hL (by omega) ha hm (by simpa using hb) hB hN
      · exact symMore B g N c K hN ih P L R S a m b w hK h hL hR (by omega) (by omega) ha hm hb hB
theorem symOk_all (B g N c : Nat) (hN : N ≤ 1000) : SymOk B g N c := fun P L R S a m b w h hL hR hl hr ha hm hb hB =>
  symAt_all B g N c hN (L.length + R.length) P L R S a m b w (Nat.le_refl _) h hL hR hl hr ha hm hb hB
theorem sort_any (F : List Ft) (B g N c : Nat) (w : World) (h : Own B g N c F w) (hB : B ≤ w.heap.size) (hN : N ≤ 1000) :
    Calls Tryz.prog 70 #[.slice (some ⟨g, 0, none⟩) N c, CB] w fun e w' => e = .returned (.tuple #[]) ∧ Own B g N c (RS.sortL ltF F) w' ∧ Below B w w' :=
  sortStable_any F B g N c w h hB hN (.inr (symOk_all B g N c hN))
end RL
end Go.Proofs.YtecfkhgocjbocaaGreatDoor
