/-
  A slice of structs among the arguments, cell by cell. (open_slice_fields: a lemma that the guide offers to copy.)
  An argument that is a list of Lines (a number and three texts each), as the frame of a row hands it over, its texts bounded by the bulk.
  Plain law of layer 5: what a set, a value and a deletion tell of one another.
  Layer 5 (plain): the reference's text of a configuration is the program's.
  Contract of layer 5's reference: Text.
  The words of a configuration's text (plain).
  The texts of a line that may be are words (plain).
  What is told of the words of blocks (plain).
  What the reader makes of blocks of lines (plain).
  A configuration's text and the texts of its lines one by one, read again (plain).
  A configuration's text is short (plain).
  The walk of ParseAgain. (Under way.)
  The statement ParseAgain: the text of each configuration is read as it; with its parts in another order, too. The second form: arguments of bulk at most 1048576.
-/
import Derived.Test.YtecfkhgocjbocaaGreatDoorBase
import Derived.Deep.Slices
import Derived.Deep.Fields
import Derived.ChangeSame
import Derived.SizedLaws
import Derived.Test.YtecfkhgocjbocaaGreatDoorRows
import Derived.Test.YtecfkhgocjbocaaGreatDoorCf2
import Derived.OpenShut
import Derived.ChangeSlices
import Derived.Test.YtecfkhgocjbocaaGreatDoorCfM
import Derived.Test.YtecfkhgocjbocaaGreatDoorCzA
import Derived.Test.YtecfkhgocjbocaaGreatDoorPtZ
import Derived.Test.YtecfkhgocjbocaaGreatDoorCards
import Derived.Test.YtecfkhgocjbocaaGreatDoorTie
import Derived.WalkKit
import Derived.ProofKit
import Derived.ShutString
import Derived.ChangeOld
import Derived.Below
import Derived.Lay
import Derived.LaidLaws
import Derived.LaidSub
import Derived.MakeChecks
import Derived.Lib.LaidTab
import Derived.Deep.DeepHandedRow
import Derived.LaidOnce
import Derived.SevenTiedAt
namespace Go.Proofs.YtecfkhgocjbocaaGreatDoor
set_option linter.unusedVariables false
set_option linter.unusedSimpArgs false
open Go Go.RowKit Go.ChangeShapes Go.WideShapes Go.Deep

section
variable {H : Type} {enc : TypeId × Value → H} {P : Program} {w : World} {base : Nat} {spare : Nat → Bool} {held : Bool}
theorem open_slice_fields {t e : TypeId} {fs : Array Field} {fuel : Nat} {cs : List Value} {x : DataW H × List MemPlace} (ht : P.underlying t = some (.slice e)) (he : P.underlying e = some (.struct fs))
    (hone : oneCellFields P fs = true) (hC : P.cellsOf e = fs.size) (h : DataW.trod enc P w base spare held fuel t cs = some x) :
    (cs = [.slice none 0 0] ∧ x = (.nil, [])) ∨
    ∃ (a : Addr) (len cap m : Nat) (D : Nat → DataW H) (Pl : Nat → List MemPlace), cs = [.slice (some a) len cap] ∧ base ≤ a.block ∧ len ≤ cap ∧ cap ≤ maxLen ∧ m = (if spare a.block then cap else len) ∧
      x = (.slice ((List.range len).map D) ((List.range (m - len)).map fun j => D (len + j)), MemPlace.row a (m * fs.size) ++ (List.range m).flatMap Pl) ∧
      ∀ i, i < m → ∃ (ys : List (DataW H × List MemPlace)) (n : Nat), D i = .agg (ys.map (·.1)) ∧ Pl i = ys.flatMap (·.2) ∧ ys.length = fs.size ∧
        ∀ (j : Nat) (f : Field), fs[j]? = some f → ∃ (v : Value) (y : DataW H × List MemPlace), w.cell? (a.add (i * fs.size + j)) = some v ∧ ys[j]? = some y ∧ DataW.trod enc P w base spare held n f.type [v] = some y := by
  rcases open_slice ht h with h0 | ⟨a, len, cap, m, n, D, Pl, hcs, hb, hl, hm, hmm, hx, hi⟩
  · exact .inl h0
  · refine .inr ⟨a, len, cap, m, D, Pl, hcs, hb, hl, hm, hmm, by rw [hC] at hx; exact hx, fun i him => ?_⟩
    obtain ⟨cs', hc, ht'⟩ := hi i him
    rw [hC] at hc
    obtain ⟨ys, n', hn', hy, hlen, hyl, hf⟩ := DataW.trod_struct he ht'
    obtain ⟨_, hcl, hat⟩ := World.cells?_some hc
    simp only [Prod.mk.injEq] at hy
    refine ⟨ys, n', hy.1, hy.2, hyl, fun j f hj => ?_⟩
    obtain ⟨ho, hk⟩ := hone_of hone j f hj
    have hjl : j < fs.size := (Array.getElem?_eq_some_iff.1 hj).1
    have hcell := hat j hjl
    have hv : cs'[j]? = some (cs'[j]'(by omega)) := List.getElem?_eq_getElem (by omega)
    have h1 := hf j f hj
    rw [ho, hk] at h1
    have hone' : (cs'.drop j).take 1 = [cs'[j]'(by omega)] := by
      rw [List.drop_eq_getElem_cons (by omega)]
      rfl
    rw [hone'] at h1
    have hys : ys[j]? = some (ys[j]'(by omega)) := List.getElem?_eq_getElem (by omega)
    refine ⟨_, _, ?_, hys, h1.trans hys⟩
    rw [← Go.Deep.add_add, hcell, hv]
end

/-- the number in a cell -/
def cellInt (w : World) (a : Addr) : Int := match w.cell? a with | some (.int _ z) => z | _ => 0
theorem wf_bd {k : IntKind} {z : Int} (h : (Lit.int k z).wf = true) : k.min ≤ z ∧ z ≤ k.max := by simpa [Lit.wf] using h
theorem u32_bd {z : Int} (h : (Lit.int .u32 z).wf = true) : 0 ≤ z ∧ z < 4294967296 := by
  have := wf_bd h
  simp [IntKind.min, IntKind.max, IntKind.bits, IntKind.signed] at this
  omega
theorem i64_bd {z : Int} (h : (Lit.int .i64 z).wf = true) : -9223372036854775808 ≤ z ∧ z ≤ 9223372036854775807 := wf_i64_bd h
end Go.Proofs.YtecfkhgocjbocaaGreatDoor
namespace Go.Proofs.YtecfkhgocjbocaaGreatDoor
set_option linter.unusedVariables false
set_option linter.unusedSimpArgs false
open Go Go.RowKit Go.ChangeShapes Go.WideShapes Go.Deep

namespace CF
theorem bulk_pos {H : Type} (d : DataW H) : 1 ≤ Rows.uptoBulk d := by
  cases d with
  | lit l => cases l <;> simp [Rows.uptoBulk]
  | _ => simp [Rows.uptoBulk]
theorem bulk_part {H : Type} {d : DataW H} {l : List (DataW H)} (h : d ∈ l) : Rows.uptoBulk d ≤ Rows.uptoBulkAll l := by
  induction l with
  | nil => cases h
  | cons x r ih =>
    simp only [Rows.uptoBulkAll]
    cases List.mem_cons.1 h with
    | inl e => subst e; omega
    | inr e => have := ih e; omega
theorem bulk_slice {H : Type} (elems spare : List (DataW H)) : Rows.uptoBulkAll elems + 1 ≤ Rows.uptoBulk (.slice elems spare) := by
  simp only [Rows.uptoBulk]
  omega
theorem bulk_agg {H : Type} (elems : List (DataW H)) : Rows.uptoBulkAll elems ≤ Rows.uptoBulk (.agg elems) := by
  simp only [Rows.uptoBulk]
  omega
theorem bulk_string {H : Type} (bytes : List UInt8) : bytes.length ≤ Rows.uptoBulk (DataW.lit (H := H) (.string bytes)) := by
  simp [Rows.uptoBulk]
theorem bulk_small {H : Type} {l : List (DataW H)} (hk : Rows.uptoSmall H l = true) : Rows.uptoBulkAll l ≤ 1048576 := by
  simpa [Rows.uptoSmall] using hk
theorem sl_nilL (w : World) : Sl w 4 (.slice none 0 0) (LNS []) := ⟨none, 0, 0, rfl, rfl, by omega, by decide, fun h => by omega⟩
/-- the text in a cell -/
def cellStr (w : World) (a : Addr) : List UInt8 := match w.cell? a with | some (.string s) => s.data.toList | _ => []
section
variable {H : Type} {enc : TypeId × Value → H} {w : World} {base : Nat} {held : Bool}
theorem open_lines {P : Program} {r : Reach} {b0 : Nat} {t e : TypeId} {f0 f1 f2 f3 : Field} {v : Value} {d : DataW H} {p : List MemPlace} (ht : P.underlying t = some (.slice e)) (he : P.underlying e = some (.struct #[f0, f1, f2, f3]))
    (hone : oneCellFields P #[f0, f1, f2, f3] = true) (hC : P.cellsOf e = 4) (u0 : P.underlying f0.type = some (.int .i64)) (u1 : P.underlying f1.type = some .string) (u2 : P.underlying f2.type = some .string) (u3 : P.underlying f3.type = some .string)
    (hv : Value.okWide P w r b0 t v) (h : DataW.Trod enc P w base (fun _ => true) held t v d p) (hk : Rows.uptoBulk d ≤ 1048576) :
    ∃ (A : Option Addr) (n c : Nat) (L : List Ln), v = .slice A n c ∧ Sl w 4 (.slice A n c) (LNS L) ∧ (∀ l ∈ L, LnOk l) ∧ (∀ l ∈ L, -9223372036854775808 ≤ l.head ∧ l.head ≤ 9223372036854775807) := by
  obtain ⟨a0, n0, c0, rfl⟩ := okWide_slice ht hv
  obtain ⟨fuel, hf⟩ := h
  rcases open_slice_fields ht he hone hC hf with ⟨e0, _⟩ | ⟨a, len, cap, m, D, Pl, e0, hb, hl, hm, hmm, hx, hi⟩
  · simp [Value.cells] at e0
    obtain ⟨rfl, rfl, rfl⟩ := e0
    exact ⟨none, 0, 0, [], rfl, sl_nilL w, by simp, by simp⟩
  · simp [Value.cells] at e0
    obtain ⟨rfl, rfl, rfl⟩ := e0
    simp only [if_true] at hmm
    subst hmm
    have hd : d = .slice ((List.range n0).map D) ((List.range (m - n0)).map fun j => D (n0 + j)) := by
      simp only [Prod.mk.injEq] at hx
      exact hx.1
    have hi' : ∀ i, i < n0 → ∃ (z : Int) (s1 s2 s3 : ByteArray), w.cell? (a.add (i * 4 + 0)) = some (.int .i64 z) ∧ w.cell? (a.add (i * 4 + 1)) = some (.string s1) ∧ w.cell? (a.add (i * 4 + 2)) = some (.string s2) ∧ w.cell? (a.add (i * 4 + 3)) = some (.string s3) ∧
        (-9223372036854775808 ≤ z ∧ z ≤ 9223372036854775807) ∧ s1.data.toList.length ≤ 2000000 ∧ s2.data.toList.length ≤ 2000000 ∧ s3.data.toList.length ≤ 2000000 := by
      intro i him
      obtain ⟨ys, n, hD, _, _, hf⟩ := hi i (by omega)
      obtain ⟨v0, y0, c0, g0, t0⟩ := hf 0 f0 rfl
      obtain ⟨v1, y1, c1, g1, t1⟩ := hf 1 f1 rfl
      obtain ⟨v2, y2, c2, g2, t2⟩ := hf 2 f2 rfl
      obtain ⟨v3, y3, c3, g3, t3⟩ := hf 3 f3 rfl
      obtain ⟨z0, e0, _, b0⟩ := DataW.trod_int u0 t0
      obtain ⟨s1, e1, x1, _⟩ := DataW.trod_string u1 t1
      obtain ⟨s2, e2, x2, _⟩ := DataW.trod_string u2 t2
      obtain ⟨s3, e3, x3, _⟩ := DataW.trod_string u3 t3
      injection e0 with e0; injection e1 with e1; injection e2 with e2; injection e3 with e3
      subst e0; subst e1; subst e2; subst e3
      have hDm : Rows.uptoBulk (D i) ≤ 1048576 := by
        have q1 : D i ∈ (List.range n0).map D := List.mem_map.2 ⟨i, List.mem_range.2 him, rfl⟩
        have q2 := bulk_part q1
        have q3 := bulk_slice ((List.range n0).map D) ((List.range (m - n0)).map fun j => D (n0 + j))
        rw [← hd] at q3
        omega
      have hone : ∀ (j : Nat) (y : DataW H × List MemPlace) (s : ByteArray), ys[j]? = some y → y = (.lit (.string s.data.toList), []) → s.data.toList.length ≤ 2000000 := by
        intro j y s hy hs
        have q1 : y.1 ∈ ys.map (·.1) := List.mem_map.2 ⟨y, List.mem_of_getElem? hy, rfl⟩
        have q2 := bulk_part q1
        have q3 := bulk_agg (ys.map (·.1))
        rw [← hD] at q3
        rw [hs] at q2
        have q4 := bulk_string (H := H) s.data.toList
        have q5 : Rows.uptoBulk (DataW.lit (H := H) (.string s.data.toList)) ≤ 1048576 := by
          have : Rows.uptoBulk (DataW.lit (H := H) (.string s.data.toList)) ≤ Rows.uptoBulkAll (ys.map (·.1)) := q2
          omega
        omega
      exact ⟨z0, s1, s2, s3, c0, c1, c2, c3, i64_bd b0, hone 1 y1 s1 g1 x1, hone 2 y2 s2 g2 x2, hone 3 y3 s3 g3 x3⟩
    let lk : Nat → Ln := fun i => ⟨cellInt w (a.add (i * 4 + 0)), cellStr w (a.add (i * 4 + 1)), cellStr w (a.add (i * 4 + 2)), cellStr w (a.add (i * 4 + 3))⟩
    have hlk : ∀ i, i < n0 → (LnOk (lk i) ∧ (-9223372036854775808 ≤ (lk i).head ∧ (lk i).head ≤ 9223372036854775807)) ∧ ∀ j, j < 4 → w.cell? (a.add (i * 4 + j)) = (lnC (lk i))[j]? := by
      intro i him
      obtain ⟨z, s1, s2, s3, c0, c1, c2, c3, bz, b1, b2, b3⟩ := hi' i him
      have e : lk i = ⟨z, s1.data.toList, s2.data.toList, s3.data.toList⟩ := by simp only [lk, cellInt, cellStr, c0, c1, c2, c3]
      rw [e]
      refine ⟨⟨⟨b1, b2, b3⟩, bz⟩, fun j hj => ?_⟩
      match j, hj with
      | 0, _ => rw [c0]; rfl
      | 1, _ => rw [c1]; rfl
      | 2, _ => rw [c2]; rfl
      | 3, _ => rw [c3]; rfl
    refine ⟨some a, n0, m, (List.range n0).map lk, rfl, ?_, ?_, ?_⟩
    · refine ⟨some a, n0, m, rfl, by rw [LNS_length]; simp, hl, hm, fun hn => ?_⟩
      obtain ⟨b, off, spot⟩ := a
      obtain ⟨z, _, _, _, c0, _⟩ := hi' 0 (by omega)
      have hspot : spot = none := by simpa [Addr.add] using World.cell?_spot c0
      subst hspot
      have hbl : b < w.heap.size := by
        have := World.block_lt_of_cell? w _ c0
        rw [addr_add] at this
        exact this
      refine ⟨b, off, rfl, hbl, fun i hi2 => ?_⟩
      have h1 := (hlk (i / 4) (by omega)).2 (i % 4) (by omega)
      rw [addr_add, show i / 4 * 4 + i % 4 = i by omega] at h1
      rw [h1]
      have h2 := LNS_get ((List.range n0).map lk) (i / 4) (by simp; omega) (i % 4) (by omega)
      rw [show i / 4 * 4 + i % 4 = i by omega] at h2
      rw [h2]
      congr 2
      rw [lnAt_get _ _ (by simp; omega)]
      simp
    · intro y hy
      obtain ⟨i, hi2, rfl⟩ := List.mem_map.1 hy
      exact (hlk i (List.mem_range.1 hi2)).1.1
    · intro y hy
      obtain ⟨i, hi2, rfl⟩ := List.mem_map.1 hy
      exact (hlk i (List.mem_range.1 hi2)).1.2
end
section
variable {H : Type} {enc : TypeId × Value → H} {P : Program} {w : World} {base : Nat} {spare : Nat → Bool} {held : Bool}
theorem open_two {r : Reach} {b0 : Nat} {t e : TypeId} {v : Value} {d : DataW H} {p : List MemPlace} (hu : P.underlying t = some (.array 2 e)) (he : P.underlying e = some (.int .i64)) (hC : P.cellsOf t = 2) (hE : P.cellsOf e = 1)
    (hv : Value.okWide P w r b0 t v) (h : DataW.Trod enc P w base spare held t v d p) : ∃ x y : Int, v = .agg #[.int .i64 x, .int .i64 y] := by
  simp only [Value.okWide, hu] at hv
  obtain ⟨cs, rfl, h2, _⟩ := hv
  rw [hC] at h2
  obtain ⟨a, b, rfl⟩ : ∃ a b, cs = #[a, b] := by
    obtain ⟨l⟩ := cs
    match l, h2 with
    | [a, b], _ => exact ⟨a, b, rfl⟩
  obtain ⟨fuel, hf⟩ := h
  cases fuel with
  | zero => simp [DataW.trod] at hf
  | succ m =>
    rw [DataW.trod_step] at hf
    unfold DataW.trodStep at hf
    simp only [hu, Value.cells] at hf
    rw [if_pos (by rw [hC]; rfl)] at hf
    simp only [Option.map_eq_some_iff, hE] at hf
    obtain ⟨ys, hy, _⟩ := hf
    rw [show List.range 2 = [0, 1] from rfl, List.mapM_cons] at hy
    simp only [bind, Option.bind_eq_some_iff, pure, Option.some.injEq] at hy
    obtain ⟨y, hy1, ys', hys, rfl⟩ := hy
    rw [List.mapM_cons] at hys
    simp only [bind, Option.bind_eq_some_iff, pure, Option.some.injEq] at hys
    obtain ⟨y', hy2, _⟩ := hys
    obtain ⟨x, ex, _, _⟩ := DataW.trod_int he hy1
    obtain ⟨z, ez, _, _⟩ := DataW.trod_int he hy2
    simp at ex ez
    subst ex; subst ez
    exact ⟨x, z, rfl⟩
end
end CF
end Go.Proofs.YtecfkhgocjbocaaGreatDoor
namespace Go.Proofs.YtecfkhgocjbocaaGreatDoor
set_option linter.unusedVariables false
set_option linter.unusedSimpArgs false
open Go Go.RowKit

namespace CF
theorem ordL_self (x : Ln) : ordL x x = 0 := (ordL_zero x x).2 ⟨rfl, rfl, rfl⟩
theorem srt_uniq {C : List Ln} (h : Srt C) {x y : Ln} (hx : x ∈ C) (hy : y ∈ C) (he : ordL x y = 0) : x = y := by
  obtain ⟨i, hi, rfl⟩ := List.getElem_of_mem hx
  obtain ⟨j, hj, rfl⟩ := List.getElem_of_mem hy
  have e1 := lnAt_get C i hi
  have e2 := lnAt_get C j hj
  by_cases c1 : i < j
  · have := h i j c1 hj
    rw [e1, e2] at this
    omega
  · by_cases c2 : j < i
    · have := h j i c2 hi
      rw [e1, e2, ordL_neg] at this
      omega
    · have : i = j := by omega
      subst this
      rfl
theorem val_mem {D : List Ln} (h : RightC D = true) (x : Ln) (hx : x ∈ D) : valC D x.head x.name x.leaf = x.value := by
  have hs := ((RightC_iff D).1 h).2.1
  unfold valC
  rw [if_pos h]
  cases hf : D.find? (fun y => decide (ordL y ⟨x.head, x.name, x.leaf, []⟩ = 0)) with
  | none =>
    have := List.find?_eq_none.1 hf x hx
    have h0 : ordL x ⟨x.head, x.name, x.leaf, []⟩ = 0 := (ordL_zero _ _).2 ⟨rfl, rfl, rfl⟩
    simp [h0] at this
  | some y =>
    have h1 := List.find?_some hf
    have h2 := List.mem_of_find?_eq_some hf
    have h3 := (ordL_zero _ _).1 (of_decide_eq_true h1)
    have h4 : ordL y x = 0 := (ordL_zero _ _).2 h3
    rw [srt_uniq hs h2 hx h4]
theorem mem_ins (C : List Ln) (l : Ln) : l ∈ insC C l := by
  induction C with
  | nil => exact List.mem_singleton.2 rfl
  | cons x r ih =>
    unfold insC
    split
    · exact List.mem_cons_of_mem _ ih
    · split <;> exact List.mem_cons_self
theorem mem_ins_old (C : List Ln) (l x : Ln) (hx : x ∈ C) (hne : ordL x l ≠ 0) : x ∈ insC C l := by
  induction C with
  | nil => cases hx
  | cons y r ih =>
    unfold insC
    split
    · rcases List.mem_cons.1 hx with h | h
      · rw [h]; exact List.mem_cons_self
      · exact List.mem_cons_of_mem _ (ih h)
    · split
      · rename_i h0
        rcases List.mem_cons.1 hx with h | h
        · rw [h] at hne; exact absurd h0 hne
        · exact List.mem_cons_of_mem _ h
      · exact List.mem_cons_of_mem _ hx
theorem ins_again (C : List Ln) (l : Ln) : insC (insC C l) l = insC C l := by
  have h0 := ordL_self l
  induction C with
  | nil =>
    show insC [l] l = [l]
    unfold insC
    rw [if_neg (by omega), if_pos h0]
  | cons x r ih =>
    by_cases h1 : ordL x l < 0
    · have e : insC (x :: r) l = x :: insC r l := by rw [insC, if_pos h1]
      rw [e, insC, if_pos h1, ih]
    · by_cases h2 : ordL x l = 0
      · have e : insC (x :: r) l = l :: r := by rw [insC, if_neg h1, if_pos h2]
        rw [e, insC, if_neg (by omega), if_pos h0]
      · have e : insC (x :: r) l = l :: x :: r := by rw [insC, if_neg h1, if_neg h2]
        rw [e, insC, if_neg (by omega), if_pos h0]
theorem set_full (B : List Ln) (l : Ln) (h : setE B l = 5) : B.length = 64 := by
  unfold setE at h
  split at h
  · rename_i h1
    rw [Bool.and_eq_true] at h1
    have h2 := ((RightC_iff B).1 h1.1).2.2
    split at h
    · cases h
    · have := ins_len B l
      omega
  · cases h
theorem set_cases (B : List Ln) (l : Ln) (hB : RightC B = true) (hl : rightL l = true) (h : setE B l ≠ 5) : setE B l = 0 ∧ setC B l = insC B l ∧ RightC (insC B l) = true ∧ (insC B l).length ≤ 64 := by
  have h2 : (insC B l).length ≤ 64 := by
    by_cases c : (insC B l).length ≤ 64
    · exact c
    · exfalso; apply h; unfold setE; rw [hB, hl, if_pos (by rfl), if_neg c]
  have h1 : setE B l = 0 := by unfold setE; rw [hB, hl, if_pos (by rfl), if_pos h2]
  exact ⟨h1, by unfold setC; rw [if_pos h1], right_ins B l hB hl h2, h2⟩
theorem set_again (B : List Ln) (l : Ln) (hl : rightL l = true) (hD : RightC (insC B l) = true) : setE (insC B l) l = 0 ∧ setC (insC B l) l = insC B l := by
  have h3 := ((RightC_iff _).1 hD).2.2
  have h1 : setE (insC B l) l = 0 := by unfold setE; rw [hD, hl, if_pos (by rfl), ins_again, if_pos h3]
  exact ⟨h1, by unfold setC; rw [if_pos h1, ins_again]⟩
theorem leaf_ne (l : Ln) (h : rightL l = true) : l.leaf ≠ [] := by
  unfold rightL at h
  simp only [Bool.and_eq_true] at h
  obtain ⟨⟨h1, _⟩, _⟩ := h
  intro e
  rw [e] at h1
  unfold findR at h1
  split at h1
  · rename_i r hf
    have hr := List.find?_some hf
    unfold isR at hr
    simp only [Bool.and_eq_true, decide_eq_true_eq] at hr
    have : TAB.all (fun r => decide (r.name ≠ [])) = true := by kernel_rfl
    have h2 := of_decide_eq_true (List.all_eq_true.1 this r (List.mem_of_find?_eq_some hf))
    exact h2 hr.2
  · cases h1
theorem hits_ord (l x : Ln) (hl : l.leaf ≠ []) : hits l.head l.name l.leaf x = decide (ordL x l = 0) := by
  rw [Bool.eq_iff_iff, decide_eq_true_iff, ordL_zero]
  unfold hits
  simp [hl]
theorem srt_app (s t : List Ln) (l : Ln) (h : Srt (s ++ l :: t)) : (∀ x ∈ s, ordL x l < 0) ∧ (∀ x ∈ t, ordL l x < 0) ∧ Srt (s ++ t) := by
  induction s with
  | nil =>
    have := (srt_cons l t).1 h
    exact ⟨by simp, this.1, this.2⟩
  | cons y r ih =>
    have h1 := (srt_cons y (r ++ l :: t)).1 h
    obtain ⟨i1, i2, i3⟩ := ih h1.2
    refine ⟨fun x hx => ?_, i2, (srt_cons y (r ++ t)).2 ⟨fun z hz => ?_, i3⟩⟩
    · rcases List.mem_cons.1 hx with e | e
      · rw [e]; exact h1.1 l (by simp)
      · exact i1 x e
    · exact h1.1 z (by rcases List.mem_append.1 hz with e | e <;> simp [e])
/-- one line is taken out -/
theorem del_one (D : List Ln) (l : Ln) (hD : RightC D = true) (hl : l ∈ D) (hf : l.leaf ≠ []) :
    delE D l.head l.name l.leaf = 0 ∧ (delL D l.head l.name l.leaf).length + 1 = D.length ∧ RightC (delL D l.head l.name l.leaf) = true ∧ delE (delL D l.head l.name l.leaf) l.head l.name l.leaf = 6 := by
  obtain ⟨hr, hs, h64⟩ := (RightC_iff D).1 hD
  obtain ⟨s, t, rfl⟩ := List.append_of_mem hl
  obtain ⟨h1, h2, h3⟩ := srt_app s t l hs
  have e0 := ordL_self l
  have hd : delL (s ++ l :: t) l.head l.name l.leaf = s ++ t := by
    unfold delL
    rw [List.filter_append, List.filter_cons]
    have q1 : s.filter (fun x => !hits l.head l.name l.leaf x) = s := by
      rw [List.filter_eq_self]
      intro x hx
      rw [hits_ord l x hf]
      have := h1 x hx
      simp; omega
    have q2 : t.filter (fun x => !hits l.head l.name l.leaf x) = t := by
      rw [List.filter_eq_self]
      intro x hx
      rw [hits_ord l x hf]
      have := h2 x hx
      rw [ordL_neg] at this
      simp; omega
    rw [q1, q2, if_neg (by rw [hits_ord l l hf]; simp [e0])]
  have hlen : (s ++ t).length + 1 = (s ++ l :: t).length := by simp only [List.length_append, List.length_cons]; omega
  have hrt : RightC (s ++ t) = true := by
    rw [RightC_iff]
    refine ⟨fun x hx => hr x ?_, h3, by omega⟩
    rcases List.mem_append.1 hx with e | e <;> simp [e]
  rw [hd]
  refine ⟨?_, hlen, hrt, ?_⟩
  · unfold delE
    rw [if_pos hD, hd, if_neg (by omega)]
  · have hd2 : delL (s ++ t) l.head l.name l.leaf = s ++ t := by
      have : delL (delL (s ++ l :: t) l.head l.name l.leaf) l.head l.name l.leaf = delL (s ++ l :: t) l.head l.name l.leaf := by
        unfold delL
        rw [List.filter_filter]
        congr 1
        funext x
        simp
      rw [hd] at this
      exact this
    unfold delE
    rw [if_pos hrt, hd2, if_pos rfl]
end CF
end Go.Proofs.YtecfkhgocjbocaaGreatDoor
namespace Go.Proofs.YtecfkhgocjbocaaGreatDoor
set_option linter.unusedVariables false
set_option linter.unusedSimpArgs false
open Go

namespace CF
def compN (zs : List (List UInt8)) : List (List UInt8) := zs.foldl stepN []
theorem stepN_cons (a o : List UInt8) (out : List (List UInt8)) (z : List UInt8) : stepN (a :: o :: out) z = a :: stepN (o :: out) z := by
  have h1 : (a :: o :: out).getLastD [] = (o :: out).getLastD [] := rfl
  unfold stepN
  rw [h1]
  by_cases e : (o :: out).getLastD [] = z
  · rw [if_neg (fun h => h.elim (by simp) (fun k => k e)), if_neg (fun h => h.elim (by simp) (fun k => k e))]
  · rw [if_pos (.inr e), if_pos (.inr e)]; rfl
theorem foldN_cons (zs : List (List UInt8)) (a o : List UInt8) (out : List (List UInt8)) : zs.foldl stepN (a :: o :: out) = a :: zs.foldl stepN (o :: out) := by
  induction zs generalizing o out with
  | nil => rfl
  | cons z zs ih =>
    rw [List.foldl_cons, List.foldl_cons, stepN_cons]
    have : ∃ p q, stepN (o :: out) z = p :: q := by
      unfold stepN
      split
      · exact ⟨_, _, rfl⟩
      · exact ⟨_, _, rfl⟩
    obtain ⟨p, q, e⟩ := this
    rw [e]
    exact ih p q
theorem compN_one (x : List UInt8) : compN [x] = [x] := rfl
theorem compN_cons (x y : List UInt8) (zs : List (List UInt8)) : compN (x :: y :: zs) = if x = y then compN (y :: zs) else x :: compN (y :: zs) := by
  have e1 : ∀ (a : List UInt8) zs, compN (a :: zs) = zs.foldl stepN [a] := fun a zs => by
    unfold compN
    rw [List.foldl_cons, stepN_new _ _ (.inl rfl)]
    rfl
  rw [e1, List.foldl_cons]
  by_cases e : x = y
  · subst e
    rw [if_pos rfl, show stepN [x] x = [x] from stepN_old [x] x (by simp) rfl, e1]
  · rw [if_neg e, show stepN [x] y = [x, y] from stepN_new [x] y (.inr e), e1]
    exact foldN_cons zs x y []
theorem compN_mem (zs : List (List UInt8)) (x : List UInt8) (h : x ∈ compN zs) : x ∈ zs := by
  induction zs with
  | nil => cases h
  | cons y zs ih =>
    cases zs with
    | nil => exact h
    | cons z zs =>
      rw [compN_cons] at h
      split at h
      · exact List.mem_cons_of_mem _ (ih h)
      · rcases List.mem_cons.1 h with h | h
        · rw [h]; exact List.mem_cons_self
        · exact List.mem_cons_of_mem _ (ih h)
theorem compN_ex (y : List UInt8) (zs : List (List UInt8)) : ∃ R, compN (y :: zs) = y :: R := by
  induction zs with
  | nil => exact ⟨[], rfl⟩
  | cons z zs ih =>
    rw [compN_cons]
    by_cases e : y = z
    · subst e
      rw [if_pos rfl]
      obtain ⟨R, hR⟩ := ih
      cases zs with
      | nil => exact ⟨[], rfl⟩
      | cons t zs =>
        rw [compN_cons] at hR ⊢
        split at hR
        · rename_i e2
          rw [if_pos e2]
          exact ⟨R, hR⟩
        · rename_i e2
          rw [if_neg e2]
          exact ⟨_, rfl⟩
    · rw [if_neg e]
      exact ⟨_, rfl⟩
def leT (a b : List UInt8) : Prop := cmpT a b < 0 ∨ a = b
theorem compN_lt (zs : List (List UInt8)) (h : zs.Pairwise leT) : (compN zs).Pairwise fun a b => cmpT a b < 0 := by
  induction zs with
  | nil => exact List.Pairwise.nil
  | cons y zs ih =>
    cases zs with
    | nil => exact List.pairwise_singleton _ _
    | cons z zs =>
      rw [List.pairwise_cons] at h
      rw [compN_cons]
      split
      · exact ih h.2
      · rename_i e
        rw [List.pairwise_cons]
        refine ⟨fun x hx => ?_, ih h.2⟩
        have hx := compN_mem _ _ hx
        have h1 : cmpT y z < 0 := (h.1 z List.mem_cons_self).resolve_right e
        rcases List.mem_cons.1 hx with hx | hx
        · rw [hx]; exact h1
        · rw [List.pairwise_cons] at h
          rcases h.2.1 x hx with h2 | h2
          · exact cmpT_trans _ _ _ h1 h2
          · rw [← h2]; exact h1
        done
theorem raw_cons (l : Ln) (r : List Ln) (h : Int) : namRaw (l :: r) h = (if l.head = h then [l.name] else []) ++ namRaw r h := by
  unfold namRaw
  by_cases e : l.head = h
  · rw [if_pos e, List.filter_cons_of_pos (by simpa using e)]; rfl
  · rw [if_neg e, List.filter_cons_of_neg (by simpa using e)]; rfl
theorem raw_mem (C : List Ln) (h : Int) (x : List UInt8) : x ∈ namRaw C h ↔ ∃ l ∈ C, l.head = h ∧ l.name = x := by
  unfold namRaw
  simp only [List.mem_map, List.mem_filter, decide_eq_true_eq]
  constructor
  · rintro ⟨l, ⟨h1, h2⟩, h3⟩; exact ⟨l, h1, h2, h3⟩
  · rintro ⟨l, h1, h2, h3⟩; exact ⟨l, ⟨h1, h2⟩, h3⟩
theorem raw_srt (C : List Ln) (h : Int) (hs : Srt C) : (namRaw C h).Pairwise leT := by
  induction C with
  | nil => exact List.Pairwise.nil
  | cons l r ih =>
    rw [srt_cons] at hs
    rw [raw_cons]
    split
    · rename_i e
      rw [List.singleton_append, List.pairwise_cons]
      refine ⟨fun x hx => ?_, ih hs.2⟩
      obtain ⟨y, hy, e2, e3⟩ := (raw_mem _ _ _).1 hx
      have := hs.1 y hy
      rw [ordL_lt] at this
      rcases this with h1 | ⟨_, h1 | ⟨h1, _⟩⟩
      · omega
      · rw [← e3]; exact .inl h1
      · rw [← e3]; exact .inr h1
    · exact ih hs.2
/-- the blocks of a head -/
def flT (C : List Ln) (h : Int) : List UInt8 := (compN (namRaw C h)).flatMap (blockT C h)
def TT (C : List Ln) : List UInt8 := topT C ++ (flT C 1 ++ flT C 2)
theorem textC_TT (C : List Ln) (hr : RightC C = true) : textC C = TT C := by
  unfold textC TT flT compN
  rw [if_pos hr]
  unfold namC
  rw [if_pos ⟨hr, by decide⟩, if_pos ⟨hr, by decide⟩, fold_raw, fold_raw]
theorem body_cons (l : Ln) (r : List Ln) (h : Int) (nm : List UInt8) : bodyB (l :: r) h nm = (if l.head = h ∧ l.name = nm then lineB l else []) ++ bodyB r h nm := by
  unfold bodyB
  rw [List.flatMap_cons]
theorem body_none (r : List Ln) (h : Int) (nm : List UInt8) (hn : ∀ y ∈ r, ¬ (y.head = h ∧ y.name = nm)) : bodyB r h nm = [] := by
  induction r with
  | nil => rfl
  | cons l r ih =>
    rw [body_cons, if_neg (hn l List.mem_cons_self), ih fun y hy => hn y (List.mem_cons_of_mem _ hy)]
    rfl
theorem flat_eq {α β : Type} (C : List β) (f g : β → List α) (h : ∀ x ∈ C, f x = g x) : C.flatMap f = C.flatMap g := by
  induction C with
  | nil => rfl
  | cons x r ih => rw [List.flatMap_cons, List.flatMap_cons, h x List.mem_cons_self, ih fun y hy => h y (List.mem_cons_of_mem _ hy)]
theorem block_off (l : Ln) (r : List Ln) (h : Int) (nm : List UInt8) (hn : ¬ (l.head = h ∧ l.name = nm)) : blockT (l :: r) h nm = blockT r h nm := by
  unfold blockT
  rw [body_cons, if_neg hn]
  rfl
theorem fl_off (l : Ln) (r : List Ln) (h : Int) (hn : l.head ≠ h) : flT (l :: r) h = flT r h := by
  unfold flT
  rw [raw_cons, if_neg hn]
  exact flat_eq _ _ _ fun x _ => block_off l r h x (fun k => hn k.1)
theorem fl_new (l : Ln) (r : List Ln) (h : Int) (e : l.head = h) (hn : ∀ y ∈ r, ¬ (y.head = h ∧ y.name = l.name)) : flT (l :: r) h = headB h l.name ++ lineB l ++ [125, 10] ++ flT r h := by
  have h1 : compN (l.name :: namRaw r h) = l.name :: compN (namRaw r h) := by
    cases hz : namRaw r h with
    | nil => rfl
    | cons z zs =>
      rw [compN_cons, if_neg]
      intro e2
      obtain ⟨y, hy, e3, e4⟩ := (raw_mem r h z).1 (by rw [hz]; exact List.mem_cons_self)
      exact hn y hy ⟨e3, by rw [e4, e2]⟩
  unfold flT
  rw [raw_cons, if_pos e, List.singleton_append, h1, List.flatMap_cons]
  congr 1
  · unfold blockT
    rw [body_cons, if_pos ⟨e, rfl⟩, body_none r h l.name hn, List.append_nil]
  · refine flat_eq _ _ _ fun x hx => block_off l r h x fun k => ?_
    obtain ⟨y, hy, e3, e4⟩ := (raw_mem r h x).1 (compN_mem _ _ hx)
    exact hn y hy ⟨e3, by rw [e4, k.2]⟩
theorem fl_more (l y : Ln) (s : List Ln) (h : Int) (e : l.head = h) (e2 : y.head = h) (e3 : y.name = l.name) (hs : Srt (y :: s)) :
    ∃ Y, flT (y :: s) h = headB h l.name ++ Y ∧ flT (l :: y :: s) h = headB h l.name ++ (lineB l ++ Y) := by
  have hr : namRaw (y :: s) h = l.name :: namRaw s h := by rw [raw_cons, if_pos e2, e3]; rfl
  have hl : namRaw (l :: y :: s) h = l.name :: l.name :: namRaw s h := by rw [raw_cons, if_pos e, hr]; rfl
  obtain ⟨R, hR⟩ := compN_ex l.name (namRaw s h)
  have hp := compN_lt _ (raw_srt (y :: s) h hs)
  rw [hr, hR, List.pairwise_cons] at hp
  unfold flT
  rw [hl, hr, compN_cons, if_pos rfl, hR, List.flatMap_cons, List.flatMap_cons]
  have hf : R.flatMap (blockT (l :: y :: s) h) = R.flatMap (blockT (y :: s) h) := flat_eq _ _ _ fun x hx => block_off _ _ _ _ fun k => by
    have := hp.1 x hx
    rw [k.2, (cmpT_zero x x).2 rfl] at this
    omega
  rw [hf]
  refine ⟨bodyB (y :: s) h l.name ++ [125, 10] ++ R.flatMap (blockT (y :: s) h), ?_, ?_⟩
  · unfold blockT
    simp only [List.append_assoc]
  · unfold blockT
    rw [body_cons l, if_pos ⟨e, rfl⟩]
    simp only [List.append_assoc]
theorem top_none (r : List Ln) (h : ∀ y ∈ r, y.head ≠ 0) : topT r = [] := by
  induction r with
  | nil => rfl
  | cons l r ih =>
    unfold topT at *
    rw [List.flatMap_cons, if_neg (h l List.mem_cons_self), ih fun y hy => h y (List.mem_cons_of_mem _ hy)]
    rfl
theorem fl_none (r : List Ln) (h : Int) (hn : ∀ y ∈ r, y.head ≠ h) : flT r h = [] := by
  unfold flT
  have : namRaw r h = [] := by
    cases hz : namRaw r h with
    | nil => rfl
    | cons z zs =>
      obtain ⟨y, hy, e3, e4⟩ := (raw_mem r h z).1 (by rw [hz]; exact List.mem_cons_self)
      exact absurd e3 (hn y hy)
  rw [this]
  rfl
/-- do two stand in one block? -/
def sameH (a b : Ln) : Bool := decide (a.head = b.head) && decide (a.name = b.name)
def refG : Bool → List Ln → List UInt8
  | _, [] => []
  | o, l :: r => if l.head = 0 then lineX l ++ refG true r else
    (if o = true then headB l.head l.name else []) ++ (lineB l ++ (match r with
      | [] => [125, 10]
      | y :: _ => if sameH l y = true then [] else [125, 10])) ++ refG (match r with
      | [] => true
      | y :: _ => !sameH l y) r
theorem srt_head {l : Ln} {r : List Ln} (h : Srt (l :: r)) : ∀ y ∈ r, l.head ≤ y.head := fun y hy => by
  have := (srt_cons l r).1 h |>.1 y hy
  rw [ordL_lt] at this
  omega
theorem srt_apart {l y : Ln} {s : List Ln} (h : Srt (l :: y :: s)) (hn : sameH l y = false) : ∀ x ∈ y :: s, ¬ (x.head = l.head ∧ x.name = l.name) := by
  have h1 := (srt_cons l _).1 h
  have h2 := (srt_cons y _).1 h1.2
  have h3 := h1.1 y List.mem_cons_self
  unfold sameH at hn
  rw [Bool.and_eq_false_iff, decide_eq_false_iff_not, decide_eq_false_iff_not] at hn
  rintro x hx ⟨e1, e2⟩
  rcases List.mem_cons.1 hx with hx | hx
  · rw [hx] at e1 e2
    exact hn.elim (fun k => k e1.symm) (fun k => k e2.symm)
  · have h4 := h2.1 x hx
    rw [ordL_lt] at h3 h4
    rcases h3 with h3 | ⟨f1, h3⟩
    · rcases h4 with h4 | ⟨g1, h4⟩ <;> omega
    · rcases h4 with h4 | ⟨g1, h4⟩
      · omega
      · rcases h3 with h3 | ⟨f2, h3⟩
        · rcases h4 with h4 | ⟨g2, h4⟩
          · have := cmpT_trans _ _ _ h3 h4
            rw [e2, (cmpT_zero _ _).2 rfl] at this
            omega
          · rw [g2, e2, (cmpT_zero _ _).2 rfl] at h3
            omega
        · exact hn.elim (fun k => k f1) (fun k => k f2)
theorem refG_TT (C : List Ln) (hs : Srt C) (hh : ∀ l ∈ C, l.head = 0 ∨ l.head = 1 ∨ l.head = 2) : refG true C = TT C := by
  induction C with
  | nil => rfl
  | cons l r ih =>
    have ih := ih ((srt_cons l r).1 hs).2 (fun y hy => hh y (List.mem_cons_of_mem _ hy))
    have hle := srt_head hs
    rcases hh l List.mem_cons_self with e | e
    · have h1 : TT (l :: r) = lineX l ++ TT r := by
        unfold TT
        rw [fl_off l r 1 (by omega), fl_off l r 2 (by omega)]
        unfold topT
        rw [List.flatMap_cons, if_pos e, List.append_assoc]
      rw [h1]
      show (if l.head = 0 then lineX l ++ refG true r else _) = _
      rw [if_pos e, ih]
    · have e0 : l.head ≠ 0 := by omega
      have ht1 : topT (l :: r) = [] := top_none _ fun y hy => by
        rcases List.mem_cons.1 hy with h | h
        · rw [h]; exact e0
        · have := hle y h; omega
      have ht2 : topT r = [] := top_none _ fun y hy => by have := hle y hy; omega
      have key : ∀ X Y : List UInt8, flT (l :: r) l.head = X → flT r l.head = Y → ∃ Z, TT (l :: r) = X ++ Z ∧ TT r = Y ++ Z := by
        intro X Y hX hY
        rcases e with e | e
        · refine ⟨flT r 2, ?_, ?_⟩
          · unfold TT
            rw [ht1, fl_off l r 2 (by omega), ← hX, e]; rfl
          · unfold TT
            rw [ht2, ← hY, e]; rfl
        · have hn1 : flT r 1 = [] := fl_none r 1 fun y hy => by have := hle y hy; omega
          refine ⟨[], ?_, ?_⟩
          · unfold TT
            rw [ht1, fl_off l r 1 (by omega), hn1, ← hX, e, List.append_nil]; rfl
          · unfold TT
            rw [ht2, hn1, ← hY, e, List.append_nil]; rfl
      have hnew : (∀ y ∈ r, ¬ (y.head = l.head ∧ y.name = l.name)) → TT (l :: r) = headB l.head l.name ++ lineB l ++ [125, 10] ++ TT r := fun hn => by
        obtain ⟨Z, h1, h2⟩ := key _ _ (fl_new l r l.head rfl hn) rfl
        rw [h1, h2]
        simp only [List.append_assoc]
      show (if l.head = 0 then _ else _) = _
      rw [if_neg e0]
      cases r with
      | nil =>
        rw [hnew (by simp)]
        show _ = _ ++ []
        simp only [if_true, List.append_assoc]
        rfl
      | cons y s =>
        simp only [if_true]
        by_cases hsm : sameH l y = true
        · rw [if_pos hsm, hsm]
          have h2 := hsm
          unfold sameH at h2
          rw [Bool.and_eq_true, decide_eq_true_iff, decide_eq_true_iff] at h2
          obtain ⟨Y, f1, f2⟩ := fl_more l y s l.head rfl h2.1.symm h2.2.symm ((srt_cons l _).1 hs).2
          obtain ⟨Z, g1, g2⟩ := key _ _ f2 f1
          have e1 : refG true (y :: s) = headB y.head y.name ++ refG false (y :: s) := by
            have ey : y.head ≠ 0 := by omega
            show (if y.head = 0 then _ else _) = _ ++ (if y.head = 0 then _ else _)
            rw [if_neg ey, if_neg ey]
            simp only [if_true, Bool.false_eq_true, if_false, List.nil_append, List.append_assoc]
          rw [e1, ← h2.1, ← h2.2, g2, List.append_assoc] at ih
          have ih := List.append_cancel_left ih
          rw [g1]
          show _ ++ (_ ++ []) ++ refG false (y :: s) = _
          rw [ih]
          simp only [List.append_assoc, List.append_nil]
        · have hsm : sameH l y = false := by simpa using hsm
          rw [if_neg (by rw [hsm]; decide), hsm, hnew (srt_apart hs hsm)]
          show _ ++ _ ++ refG true (y :: s) = _
          rw [ih]
          simp only [List.append_assoc]
/-- is the line at k the first of its block, the last one? -/
def opT (C : List Ln) (k : Nat) : Bool := decide (k = 0) || !sameH (lnAt C (k - 1)) (lnAt C k)
def clT (C : List Ln) (k : Nat) : Bool := decide (k + 1 = C.length) || !sameH (lnAt C k) (lnAt C (k + 1))
def pieceT (C : List Ln) (k : Nat) : List UInt8 := if (lnAt C k).head = 0 then lineX (lnAt C k) else
  (if opT C k = true then headB (lnAt C k).head (lnAt C k).name else []) ++ (lineB (lnAt C k) ++ (if clT C k = true then [125, 10] else []))
def rtT (C : List Ln) (k : Nat) : List UInt8 := (List.range k).flatMap (pieceT C)
theorem rtT_succ (C : List Ln) (k : Nat) : rtT C (k + 1) = rtT C k ++ pieceT C k := by
  unfold rtT
  rw [List.range_succ, List.flatMap_append]
  simp
theorem sameH_top {a b : Ln} (h : a.head = 0) (h2 : b.head ≠ 0) : sameH a b = false := by
  unfold sameH
  rw [decide_eq_false (by omega)]
  rfl
theorem tail_refG (C : List Ln) (m k : Nat) (hm : m + k = C.length) : (List.range' k m).flatMap (pieceT C) = refG (opT C k) (C.drop k) := by
  induction m generalizing k with
  | zero => rw [List.drop_of_length_le (by omega)]; rfl
  | succ m ih =>
    have hk : k < C.length := by omega
    have ih := ih (k + 1) (by omega)
    rw [List.range'_succ, List.flatMap_cons, ih, List.drop_eq_getElem_cons hk, ← lnAt_get C k hk]
    have hop : opT C (k + 1) = !sameH (lnAt C k) (lnAt C (k + 1)) := by unfold opT; simp
    show pieceT C k ++ _ = if (lnAt C k).head = 0 then _ else _
    unfold pieceT
    by_cases e : (lnAt C k).head = 0
    · rw [if_pos e, if_pos e]
      congr 1
      cases hd : C.drop (k + 1) with
      | nil => rfl
      | cons y s =>
        have hk1 : k + 1 < C.length := by
          have := congrArg List.length hd
          rw [List.length_drop, List.length_cons] at this
          omega
        have hy : lnAt C (k + 1) = y := by
          rw [List.drop_eq_getElem_cons hk1] at hd
          rw [lnAt_get C _ hk1]
          exact (List.cons.inj hd).1
        by_cases ey : y.head = 0
        · show (if y.head = 0 then _ else _) = if y.head = 0 then _ else _
          rw [if_pos ey, if_pos ey]
        · rw [hop, hy, sameH_top e ey]
          rfl
    · rw [if_neg e, if_neg e]
      have hcl : (if clT C k = true then ([125, 10] : List UInt8) else []) = (match C.drop (k + 1) with
          | [] => [125, 10]
          | y :: _ => if sameH (lnAt C k) y = true then [] else [125, 10]) := by
        cases hd : C.drop (k + 1) with
        | nil =>
          have := congrArg List.length hd
          rw [List.length_drop, List.length_nil] at this
          unfold clT
          rw [decide_eq_true (by omega)]
          rfl
        | cons y s =>
          have hk1 : k + 1 < C.length := by
            have := congrArg List.length hd
            rw [List.length_drop, List.length_cons] at this
            omega
          have hy : lnAt C (k + 1) = y := by
            rw [List.drop_eq_getElem_cons hk1] at hd
            rw [lnAt_get C _ hk1]
            exact (List.cons.inj hd).1
          unfold clT
          rw [decide_eq_false (by omega), hy]
          show _ = (if sameH (lnAt C k) y = true then ([] : List UInt8) else [125, 10])
          cases sameH (lnAt C k) y <;> rfl
      rw [hcl]
      congr 1
      cases hd : C.drop (k + 1) with
      | nil => rfl
      | cons y s =>
        have hk1 : k + 1 < C.length := by
          have := congrArg List.length hd
          rw [List.length_drop, List.length_cons] at this
          omega
        have hy : lnAt C (k + 1) = y := by
          rw [List.drop_eq_getElem_cons hk1] at hd
          rw [lnAt_get C _ hk1]
          exact (List.cons.inj hd).1
        rw [hop, hy]
theorem rtT_all (C : List Ln) (hr : RightC C = true) (hh : ∀ l ∈ C, l.head = 0 ∨ l.head = 1 ∨ l.head = 2) : rtT C C.length = textC C := by
  have h1 := tail_refG C C.length 0 (by omega)
  rw [← List.range_eq_range', List.drop_zero, show opT C 0 = true from rfl, refG_TT C (right_srt hr) hh, ← textC_TT C hr] at h1
  exact h1
end CF
end Go.Proofs.YtecfkhgocjbocaaGreatDoor
namespace Go.Proofs.YtecfkhgocjbocaaGreatDoor
set_option linter.unusedVariables false
set_option linter.unusedSimpArgs false
open Go Go.RowKit

namespace CF
theorem right_head (l : Ln) (h : rightL l = true) : l.head = 0 ∨ l.head = 1 ∨ l.head = 2 := by
  unfold rightL at h
  simp only [Bool.and_eq_true] at h
  obtain ⟨⟨h1, _⟩, _⟩ := h
  unfold findR at h1
  split at h1
  · rename_i r hf
    have hr := List.find?_some hf
    unfold isR at hr
    simp only [Bool.and_eq_true, decide_eq_true_eq] at hr
    have : TAB.all (fun r => decide (r.head = 0 ∨ r.head = 1 ∨ r.head = 2)) = true := by kernel_rfl
    have h2 := of_decide_eq_true (List.all_eq_true.1 this r (List.mem_of_find?_eq_some hf))
    rw [← hr.1]
    exact h2
  · cases h1
theorem headB_len (h : Int) (nm : List UInt8) (hn : nm.length ≤ 2000000) : (headB h nm).length ≤ 2000013 := by
  have hwl : (wordT h).length ≤ 10 := by unfold wordT; split <;> simp
  unfold headB
  simp only [List.length_append, List.length_cons, List.length_nil]
  omega
theorem pieceT_len (C : List Ln) (k : Nat) (h : LnOk (lnAt C k)) : (pieceT C k).length ≤ 6000030 := by
  have h1 := lineX_len _ h
  have h2 := lineB_len _ h
  have h3 := headB_len (lnAt C k).head (lnAt C k).name h.1
  unfold pieceT
  split
  · omega
  · simp only [List.length_append]
    split <;> split <;> simp only [List.length_nil, List.length_cons] <;> omega
theorem rtT_len (C : List Ln) (hC : ∀ l ∈ C, LnOk l) (k : Nat) (hk : k ≤ C.length) : (rtT C k).length ≤ k * 6000030 := by
  induction k with
  | zero => exact Nat.le_refl _
  | succ k ih =>
    have := ih (by omega)
    have h2 := pieceT_len C k (hC _ (by rw [lnAt_get C k (by omega)]; exact List.getElem_mem _))
    rw [rtT_succ, List.length_append]
    omega
theorem s8_neC {x y : List UInt8} (h : x ≠ y) : (!((S8 x).toList == (S8 y).toList)) = true := by
  have h1 : (S8 x).toList = x := Lib.toList_data _
  have h2 : (S8 y).toList = y := Lib.toList_data _
  rw [h1, h2]
  simpa using h
theorem s8_eqC (x : List UInt8) : (!((S8 x).toList == (S8 x).toList)) = false := by simp
set_option maxRecDepth 100000 in
set_option maxHeartbeats 6400000 in
theorem refText_any (C : List Ln) (A : Option Addr) (n c : Nat) (w : World) (hsl : Sl w 4 (.slice A n c) (LNS C)) (hC : ∀ l ∈ C, LnOk l) (hen : Env w) :
    Calls Tryz.prog 32 #[.slice A n c] w fun e w' => e = .returned (.string (S8 (textC C))) ∧ Below w.heap.size w w' := by
  have hl1 := (sl_lns hsl).1
  have HRC := hid (refRight_all C A n c w hsl hC hen)
  have HSL := hid hsl
  have HV0 : Hid (RightC C = false → textC C = []) := fun h => by unfold textC; rw [h]; rfl
  have HV1 : Hid (RightC C = true → textC C = rtT C n) := fun h => by
    rw [← hl1]
    exact (rtT_all C h fun l hl => right_head l (((RightC_iff C).1 h).1 l hl)).symm
  have HN : Hid (RightC C = true → n ≤ 64) := fun hr => by have := ((RightC_iff C).1 hr).2.2; omega
  have HHD : Hid (RightC C = true → ∀ k < n, (lnAt C k).head = 0 ∨ (lnAt C k).head = 1 ∨ (lnAt C k).head = 2) := fun hr k hk => right_head _ (((RightC_iff C).1 hr).1 _ (by rw [lnAt_get C k (by omega)]; exact List.getElem_mem _))
  have HOK : Hid (∀ k < n, LnOk (lnAt C k)) := fun k hk => hC _ (by rw [lnAt_get C k (by omega)]; exact List.getElem_mem _)
  have HLN : Hid (∀ k ≤ n, (rtT C k).length ≤ k * 6000030) := fun k hk => rtT_len C hC k (by omega)
  have HCL : Hid (C.length = n) := hl1
  clear hsl hC hen hl1
  generalize textC C = V at *
  go_enter Tryz.func32, Tryz.ntmps32
  go_wp2_with fail
  refine HRC.out.mono ?_
  rintro e w1 ⟨rfl, hb1⟩
  clear HRC
  cases b1 : RightC C with
  | false =>
    have HE := hid (HV0.out b1)
    clear HV0 HV1 HN HHD HOK HLN b1
    go_wp2_with fail
    go_ret
    exact ⟨by rw [HE.out]; rfl, hb1⟩
  | true =>
    have HE := hid (HV1.out b1)
    have hn64 := HN.out b1
    have HD := hid (HHD.out b1)
    clear HV0 HV1 HN HHD b1
    go_wp2_with fail
    go_loopw [3, 4] (fun s i wr => ∃ k : Nat, k ≤ n ∧ i = .int .i64 k ∧ s = .string (S8 (rtT C k)) ∧ Below w.heap.size w wr) (fun _ i _ => n - (intOf i).toNat)
    case atStart => exact ⟨0, Nat.zero_le _, rfl, rfl, hb1⟩
    case round =>
      clear hb1
      obtain ⟨k, hk, rfl, rfl, hbr⟩ := hrel
      by_cases hlt : k < n
      · obtain ⟨b, off, hAA, hbl, hcl⟩ := sl_ln (HSL.out.below hbr) hlt
        subst hAA
        have HRT : Hid (rtT C (k + 1) = rtT C k ++ pieceT C k) := rtT_succ C k
        have HPC : Hid (pieceT C k = if (lnAt C k).head = 0 then lineX (lnAt C k) else (if opT C k = true then headB (lnAt C k).head (lnAt C k).name else []) ++ (lineB (lnAt C k) ++ (if clT C k = true then [125, 10] else []))) := rfl
        have hrl := HLN.out k hk
        obtain ⟨hok1, hok2, hok3⟩ := HOK.out k hlt
        have hd := HD.out k hlt
        obtain ⟨hb2, hg2, hl2⟩ := box1 wr (.cells (lnV (lnAt C k)) 48)
        have HL : Hid (lnAt C k = lnAt C k) := rfl
        clear HLN HOK HD HE
        generalize rtT C k = R at *
        generalize hl : lnAt C k = l at *
        have HLL := hid hl
        clear hl HL
        have hR64 : R.length ≤ 400000000 := by have : k * 6000030 ≤ 64 * 6000030 := Nat.mul_le_mul_right _ (by omega); omega
        go_upto_region 8 with (first | refine wpList_load_mid rfl 48 (.tmp 18) rfl b (off + k * 4) rfl (lnC l) _ hcl Tryz.underlying48 rfl k4 ?_ | refine wpList_store_last rfl 48 (.tmp 5) (.tmp 19) rfl (lnV l) rfl rfl k4 rfl (lnV_one _) ?_)
        generalize wr.alloc (.cells (lnV l) 48) = w2 at *
        have hbw2 := hbr.trans (hb2.mono hbr.size)
        have hbw2' := hbw2
        have q0 : w2.cell? ⟨wr.heap.size, 0, none⟩ = some (.int .i64 l.head) := by rw [blkCell hg2 0]; rfl
        have q1 : w2.cell? ⟨wr.heap.size, 1, none⟩ = some (.string (S8 l.name)) := by rw [blkCell hg2 1]; rfl
        have q2 : w2.cell? ⟨wr.heap.size, 2, none⟩ = some (.string (S8 l.leaf)) := by rw [blkCell hg2 2]; rfl
        have q3 : w2.cell? ⟨wr.heap.size, 3, none⟩ = some (.string (S8 l.value)) := by rw [blkCell hg2 3]; rfl
        clear hcl
        by_cases h0 : l.head = 0
        · have e0 : (l.head == 0) = true := by simpa using h0
          obtain ⟨y1, hy1⟩ : ∃ z, z = R ++ l.leaf := ⟨_, rfl⟩
          obtain ⟨y2, hy2⟩ : ∃ z, z = y1 ++ [32] := ⟨_, rfl⟩
          obtain ⟨y3, hy3⟩ : ∃ z, z = y2 ++ l.value := ⟨_, rfl⟩
          obtain ⟨y4, hy4⟩ : ∃ z, z = y3 ++ [59, 10] := ⟨_, rfl⟩
          have hy1l : y1.length ≤ 402000000 := by rw [hy1, List.length_append]; omega
          have hy2l : y2.length ≤ 402000001 := by rw [hy2, List.length_append]; simp only [List.length_cons, List.length_nil]; omega
          have hy3l : y3.length ≤ 404000001 := by rw [hy3, List.length_append]; omega
          have a1 := fun w' : World => cat8 (w := w') R l.leaf y1 hy1 (by omega)
          have a2 := fun w' : World => cat8 (w := w') y1 [32] y2 hy2 (by simp; omega)
          have a3 := fun w' : World => cat8 (w := w') y2 l.value y3 hy3 (by omega)
          have a4 := fun w' : World => cat8 (w := w') y3 [59, 10] y4 hy4 (by simp; omega)
          rw [show S8 [32] = (⟨#[32]⟩ : ByteArray) from rfl] at a2
          rw [show S8 [59, 10] = (⟨#[59, 10]⟩ : ByteArray) from rfl] at a4
          have HY : Hid (rtT C (k + 1) = y4) := by
            show _ = _
            rw [HRT.out, HPC.out, if_pos h0, hy4, hy3, hy2, hy1]
            unfold lineX
            simp only [List.append_assoc]
          clear hy1 hy2 hy3 hy4 h0 HRT HPC hd
          as_aux_lemma =>
            go_wp2_with fail
            go_light
            exact ⟨⟨k + 1, by omega, by go_num, by rw [HY.out], hbw2⟩, by simp [intOf]; omega⟩
        · have e0 : (l.head == 0) = false := by simpa using h0
          rw [if_neg h0] at HPC
          have hd := hd.resolve_left h0
          obtain ⟨H, hH⟩ : ∃ H, H = (if opT C k = true then headB l.head l.name else []) := ⟨_, rfl⟩
          rw [← hH] at HPC
          have HH := hid hH
          have hHl : H.length ≤ 2000013 := by
            rw [hH]
            split
            · exact headB_len _ _ hok1
            · simp
          clear hH hrl h0
          go_upto_if 22 with fail
          iterate 5 (first | go_guarded | go_step | go_upon)
          go_cut [3] (fun s wx => s = .string (S8 (R ++ H)) ∧ Below w2.heap.size w2 wx)
          case first =>
            clear HRT HPC hHl hbr hb2 hg2
            iterate 1 (first | go_guarded | go_step | go_upon)
            go_cut [55] (fun s wx => s = .bool (opT C k) ∧ Below w2.heap.size w2 wx)
            case first =>
              have HSL2 := hid (HSL.out.below hbw2)
              clear hbw2 hbw2' HH
              by_cases hk0 : k = 0
              · have e1 : ((k : Int) == 0) = true := by rw [hk0]; rfl
                have HB : Hid (opT C k = true) := by
                  show _ = _
                  unfold opT
                  rw [decide_eq_true hk0]
                  rfl
                clear hk0 HLL
                as_aux_lemma =>
                  have p0 := fun z : WK (fun _ => False) w2 => (wat_cell (p := ⟨wr.heap.size, 0, none⟩) hl2 (by simp) z).trans q0
                  have p1 := fun z : WK (fun _ => False) w2 => (wat_cell (p := ⟨wr.heap.size, 1, none⟩) hl2 (by simp) z).trans q1
                  go_upto_region 10 with fail
                  refine wp_region_loud (fun _ => False) [] (fun _ => Fact.none) (by kernel_rfl) (by kernel_rfl) .nil good_nothing sat_none (WX.out ?_)
                  repeat (first | (refine wx_quietU (by rfl) (by rfl) (by rfl) (fun K hK => ?_); go_big_quiet_op; refine hK _ ?_; clear hK K) | (refine wx_quietG (by rfl) (by rfl) (by rfl) (by rfl) (by rfl) (fun K hK => ?_); go_big_quiet_op; refine hK _ ?_; clear hK K) | (refine wx_skipG (by rfl) (by rfl) (by rfl) (fun K hK => ?_); go_simp; refine hK _ ?_; clear hK K) | (refine wx_skipN (by rfl) (by rfl) (by rfl) (fun K hK => ?_); go_simp; refine hK _ ?_; clear hK K))
                  refine wx_nil fun w3 hsat => ?_
                  have hb3 := sat_below hsat
                  clear hsat p0 p1
                  go_wp2_with fail
                  go_meet
                  all_goals go_light
                  exact ⟨by rw [HB.out], hb3⟩
              · have e1 : ((k : Int) == 0) = false := by rw [beq_eq_false_iff_ne]; omega
                have i1 : (1 : Int) ≤ (k : Int) := by omega
                have i2 : (k : Int) - 1 < (n : Int) := by omega
                have HOP : Hid (opT C k = !sameH (lnAt C (k - 1)) l) := by
                  show _ = _
                  unfold opT
                  rw [decide_eq_false hk0, HLL.out]
                  rfl
                obtain ⟨b', off', hA', hblj, hclj⟩ := sl_ln HSL2.out (show k - 1 < n by omega)
                injection hA' with hA'
                injection hA' with e3 e4
                subst e3; subst e4
                clear hk0 HSL2 HLL
                generalize lnAt C (k - 1) = p at *
                have x0 : w2.cell? ⟨b, off + (k - 1) * 4, none⟩ = some (.int .i64 p.head) := hclj 0 _ rfl
                have x1 : w2.cell? ⟨b, off + (k - 1) * 4 + 1, none⟩ = some (.string (S8 p.name)) := hclj 1 _ rfl
                have y0 := fun z : WK (fun _ => False) w2 => (wat_cell (p := ⟨b, off + (k - 1) * 4, none⟩) hblj (by simp) z).trans x0
                have y1 := fun z : WK (fun _ => False) w2 => (wat_cell (p := ⟨b, off + (k - 1) * 4 + 1, none⟩) hblj (by simp) z).trans x1
                clear x0 x1 hclj
                by_cases g1 : p.head = l.head
                · have f1 : (p.head != l.head) = false := by rw [g1]; simp
                  by_cases g2 : p.name = l.name
                  · have f2 := s8_eqC l.name
                    have HB : Hid (opT C k = false) := by
                      show _ = _
                      rw [HOP.out]
                      unfold sameH
                      rw [decide_eq_true g1, decide_eq_true g2]
                      rfl
                    rw [g2] at y1
                    clear g1 g2 HOP
                    as_aux_lemma =>
                      have p0 := fun z : WK (fun _ => False) w2 => (wat_cell (p := ⟨wr.heap.size, 0, none⟩) hl2 (by simp) z).trans q0
                      have p1 := fun z : WK (fun _ => False) w2 => (wat_cell (p := ⟨wr.heap.size, 1, none⟩) hl2 (by simp) z).trans q1
                      go_upto_region 10 with fail
                      refine wp_region_loud (fun _ => False) [] (fun _ => Fact.none) (by kernel_rfl) (by kernel_rfl) .nil good_nothing sat_none (WX.out ?_)
                      repeat (first | (refine wx_quietU (by rfl) (by rfl) (by rfl) (fun K hK => ?_); go_big_quiet_op; refine hK _ ?_; clear hK K) | (refine wx_quietG (by rfl) (by rfl) (by rfl) (by rfl) (by rfl) (fun K hK => ?_); go_big_quiet_op; refine hK _ ?_; clear hK K) | (refine wx_skipG (by rfl) (by rfl) (by rfl) (fun K hK => ?_); go_simp; refine hK _ ?_; clear hK K) | (refine wx_skipN (by rfl) (by rfl) (by rfl) (fun K hK => ?_); go_simp; refine hK _ ?_; clear hK K))
                      refine wx_nil fun w3 hsat => ?_
                      have hb3 := sat_below hsat
                      clear hsat p0 p1
                      go_wp2_with fail
                      go_meet
                      all_goals go_light
                      exact ⟨by rw [HB.out], hb3⟩
                  · have f2 := s8_neC g2
                    have HB : Hid (opT C k = true) := by
                      show _ = _
                      rw [HOP.out]
                      unfold sameH
                      rw [decide_eq_false g2, Bool.and_false]
                      rfl
                    clear g1 g2 HOP
                    as_aux_lemma =>
                      have p0 := fun z : WK (fun _ => False) w2 => (wat_cell (p := ⟨wr.heap.size, 0, none⟩) hl2 (by simp) z).trans q0
                      have p1 := fun z : WK (fun _ => False) w2 => (wat_cell (p := ⟨wr.heap.size, 1, none⟩) hl2 (by simp) z).trans q1
                      go_upto_region 10 with fail
                      refine wp_region_loud (fun _ => False) [] (fun _ => Fact.none) (by kernel_rfl) (by kernel_rfl) .nil good_nothing sat_none (WX.out ?_)
                      repeat (first | (refine wx_quietU (by rfl) (by rfl) (by rfl) (fun K hK => ?_); go_big_quiet_op; refine hK _ ?_; clear hK K) | (refine wx_quietG (by rfl) (by rfl) (by rfl) (by rfl) (by rfl) (fun K hK => ?_); go_big_quiet_op; refine hK _ ?_; clear hK K) | (refine wx_skipG (by rfl) (by rfl) (by rfl) (fun K hK => ?_); go_simp; refine hK _ ?_; clear hK K) | (refine wx_skipN (by rfl) (by rfl) (by rfl) (fun K hK => ?_); go_simp; refine hK _ ?_; clear hK K))
                      refine wx_nil fun w3 hsat => ?_
                      have hb3 := sat_below hsat
                      clear hsat p0 p1
                      go_wp2_with fail
                      go_meet
                      all_goals go_light
                      exact ⟨by rw [HB.out], hb3⟩
                · have f1 : (p.head != l.head) = true := by rw [bne_iff_ne]; exact g1
                  have HB : Hid (opT C k = true) := by
                    show _ = _
                    rw [HOP.out]
                    unfold sameH
                    rw [decide_eq_false g1]
                    rfl
                  clear g1 HOP
                  as_aux_lemma =>
                    have p0 := fun z : WK (fun _ => False) w2 => (wat_cell (p := ⟨wr.heap.size, 0, none⟩) hl2 (by simp) z).trans q0
                    have p1 := fun z : WK (fun _ => False) w2 => (wat_cell (p := ⟨wr.heap.size, 1, none⟩) hl2 (by simp) z).trans q1
                    go_upto_region 10 with fail
                    refine wp_region_loud (fun _ => False) [] (fun _ => Fact.none) (by kernel_rfl) (by kernel_rfl) .nil good_nothing sat_none (WX.out ?_)
                    repeat (first | (refine wx_quietU (by rfl) (by rfl) (by rfl) (fun K hK => ?_); go_big_quiet_op; refine hK _ ?_; clear hK K) | (refine wx_quietG (by rfl) (by rfl) (by rfl) (by rfl) (by rfl) (fun K hK => ?_); go_big_quiet_op; refine hK _ ?_; clear hK K) | (refine wx_skipG (by rfl) (by rfl) (by rfl) (fun K hK => ?_); go_simp; refine hK _ ?_; clear hK K) | (refine wx_skipN (by rfl) (by rfl) (by rfl) (fun K hK => ?_); go_simp; refine hK _ ?_; clear hK K))
                    refine wx_nil fun w3 hsat => ?_
                    have hb3 := sat_below hsat
                    clear hsat p0 p1
                    go_wp2_with fail
                    go_meet
                    all_goals go_light
                    exact ⟨by rw [HB.out], hb3⟩
            case rest =>
              obtain ⟨rfl, hb3⟩ := hcut
              cases hop : opT C k with
              | false =>
                have HNO : Hid (R ++ H = R) := by
                  show _ = _
                  rw [HH.out, hop]
                  simp
                clear HH hop
                as_aux_lemma =>
                  go_wp2_with fail
                  go_meet
                  all_goals go_light
                  exact ⟨by rw [HNO.out], hb3⟩
              | true =>
                have HYES : Hid (H = headB l.head l.name) := by
                  show _ = _
                  rw [HH.out, hop, if_pos rfl]
                clear HH hop
                have hl3 := Nat.lt_of_lt_of_le hl2 hb3.size
                have r0 := fun z : WK (fun _ => False) wc => (wat_cell (p := ⟨wr.heap.size, 0, none⟩) hl3 (by simp) z).trans ((hb3.cell (p := ⟨wr.heap.size, 0, none⟩) hl2).trans q0)
                have r1 := fun z : WK (fun _ => False) wc => (wat_cell (p := ⟨wr.heap.size, 1, none⟩) hl3 (by simp) z).trans ((hb3.cell (p := ⟨wr.heap.size, 1, none⟩) hl2).trans q1)
                clear q0 q1 q2 q3
                rcases hd with hd | hd
                ·
                  rw [hd] at r0
                  obtain ⟨x1, hx1⟩ : ∃ z, z = R ++ [97, 114, 101, 97, 32] := ⟨_, rfl⟩
                  obtain ⟨x2, hx2⟩ : ∃ z, z = x1 ++ l.name := ⟨_, rfl⟩
                  obtain ⟨x3, hx3⟩ : ∃ z, z = x2 ++ [32, 123, 10] := ⟨_, rfl⟩
                  have hx1l : x1.length ≤ 400000010 := by rw [hx1, List.length_append]; simp only [List.length_cons, List.length_nil]; omega
                  have hx2l : x2.length ≤ 402000010 := by rw [hx2, List.length_append]; omega
                  have a1 := fun w' : World => cat8 (w := w') R [97, 114, 101, 97, 32] x1 hx1 (by simp; omega)
                  have a2 := fun w' : World => cat8 (w := w') x1 l.name x2 hx2 (by omega)
                  have a3 := fun w' : World => cat8 (w := w') x2 [32, 123, 10] x3 hx3 (by simp; omega)
                  rw [show S8 [32, 123, 10] = (⟨#[32, 123, 10]⟩ : ByteArray) from rfl] at a3
                  have HX : Hid (x3 = R ++ H) := by
                    show _ = _
                    rw [HYES.out, hx3, hx2, hx1, hd]
                    unfold headB wordT
                    simp only [List.append_assoc]
                    rfl
                  clear hx1 hx2 hx3 hd HYES
                  as_aux_lemma =>
                    have hbase3 := Nat.le_refl wc.heap.size
                    go_upto_region 11 with fail
                    refine wp_region_loud (fun _ => False) [(1, factL [] (fun v => ∃ g, v = .slice (some ⟨g, 0, none⟩) 3 3) (fun v => OwnF wc.heap.size 9 1 3 (STR [[], [97, 114, 101, 97, 32], [105, 110, 116, 101, 114, 102, 97, 99, 101, 32]]) v)), (5, plainL [1] (.string (S8 [97, 114, 101, 97, 32])))] (fun _ => Fact.none) (by kernel_rfl) (by kernel_rfl)
                      (.cons (factL_ok ⟨_, 0, rfl⟩ (fun v => good_own _ _ _ _ _ _)) (.cons (plainL_ok _ _) .nil)) good_nothing sat_none (WX.out ?_)
                    repeat (first | (refine wx_quietU (by rfl) (by rfl) (by rfl) (fun K hK => ?_); go_big_quiet_op; refine hK _ ?_; clear hK K) | (refine wx_quietG (by rfl) (by rfl) (by rfl) (by rfl) (by rfl) (fun K hK => ?_); go_big_quiet_op; refine hK _ ?_; clear hK K) | (refine wx_skipG (by rfl) (by rfl) (by rfl) (fun K hK => ?_); go_simp; refine hK _ ?_; clear hK K) | (refine wx_skipN (by rfl) (by rfl) (by rfl) (fun K hK => ?_); go_simp; refine hK _ ?_; clear hK K))
                    refine wx_loudU (us := []) (by rfl) (by rfl) (fun S wS hC hS hU => ?_) (fun v hv K hK => ?_)
                    · have hm : LeavesRow S wS wc.heap.size 9 1 3 (STR [[], [97, 114, 101, 97, 32], [105, 110, 116, 101, 114, 102, 97, 99, 101, 32]]) (.slice (some ⟨wS.heap.size, 0, none⟩) 3 3) _ := made_x rfl (hC.below.size) rfl rfl (by omega) (by omega)
                      exact runs_value (by go_simp <;> rfl) ⟨⟨_, rfl⟩, hm.2.1, hm.2.2⟩
                    obtain ⟨g, rfl⟩ := hv; (go_simp; refine hK _ ?_; clear hK K)
                    repeat (first | (refine wx_quietU (by rfl) (by rfl) (by rfl) (fun K hK => ?_); go_big_quiet_op; refine hK _ ?_; clear hK K) | (refine wx_quietG (by rfl) (by rfl) (by rfl) (by rfl) (by rfl) (fun K hK => ?_); go_big_quiet_op; refine hK _ ?_; clear hK K) | (refine wx_skipG (by rfl) (by rfl) (by rfl) (fun K hK => ?_); go_simp; refine hK _ ?_; clear hK K) | (refine wx_skipN (by rfl) (by rfl) (by rfl) (fun K hK => ?_); go_simp; refine hK _ ?_; clear hK K))
                    refine wx_loudU (us := [1]) (by rfl) (by rfl) (fun S wS hC hS hU => ?_) (fun v hv K hK => ?_)
                    · have k1 : OwnF wc.heap.size 9 1 3 (STR [[], [97, 114, 101, 97, 32], [105, 110, 116, 101, 114, 102, 97, 99, 101, 32]]) (.slice (some ⟨g, 0, none⟩) 3 3) S wS := hU 1 (by simp)
                      obtain ⟨bo, oo, eo, _, po⟩ := STR_cell (own_sl k1.2) (k := 1) (by omega)
                      injection eo with eo
                      injection eo with e1 e2
                      subst e1; subst e2
                      rw [Nat.zero_add] at po
                      exact runs_value (by go_simp <;> rfl) ⟨rfl, Kept.refl _ _, trivial⟩
                    obtain rfl := hv; (go_simp; refine hK _ ?_; clear hK K)
                    repeat (first | (refine wx_quietU (by rfl) (by rfl) (by rfl) (fun K hK => ?_); go_big_quiet_op; refine hK _ ?_; clear hK K) | (refine wx_quietG (by rfl) (by rfl) (by rfl) (by rfl) (by rfl) (fun K hK => ?_); go_big_quiet_op; refine hK _ ?_; clear hK K) | (refine wx_skipG (by rfl) (by rfl) (by rfl) (fun K hK => ?_); go_simp; refine hK _ ?_; clear hK K) | (refine wx_skipN (by rfl) (by rfl) (by rfl) (fun K hK => ?_); go_simp; refine hK _ ?_; clear hK K))
                    refine wx_nil fun w4 hsat => ?_
                    have hb4 := sat_below hsat
                    clear hsat r0 r1 a1 a2 a3
                    go_wp2_with fail
                    go_meet
                    all_goals go_light
                    exact ⟨by rw [HX.out], hb3.trans (hb4.mono hb3.size)⟩
                ·
                  rw [hd] at r0
                  obtain ⟨x1, hx1⟩ : ∃ z, z = R ++ [105, 110, 116, 101, 114, 102, 97, 99, 101, 32] := ⟨_, rfl⟩
                  obtain ⟨x2, hx2⟩ : ∃ z, z = x1 ++ l.name := ⟨_, rfl⟩
                  obtain ⟨x3, hx3⟩ : ∃ z, z = x2 ++ [32, 123, 10] := ⟨_, rfl⟩
                  have hx1l : x1.length ≤ 400000010 := by rw [hx1, List.length_append]; simp only [List.length_cons, List.length_nil]; omega
                  have hx2l : x2.length ≤ 402000010 := by rw [hx2, List.length_append]; omega
                  have a1 := fun w' : World => cat8 (w := w') R [105, 110, 116, 101, 114, 102, 97, 99, 101, 32] x1 hx1 (by simp; omega)
                  have a2 := fun w' : World => cat8 (w := w') x1 l.name x2 hx2 (by omega)
                  have a3 := fun w' : World => cat8 (w := w') x2 [32, 123, 10] x3 hx3 (by simp; omega)
                  rw [show S8 [32, 123, 10] = (⟨#[32, 123, 10]⟩ : ByteArray) from rfl] at a3
                  have HX : Hid (x3 = R ++ H) := by
                    show _ = _
                    rw [HYES.out, hx3, hx2, hx1, hd]
                    unfold headB wordT
                    simp only [List.append_assoc]
                    rfl
                  clear hx1 hx2 hx3 hd HYES
                  as_aux_lemma =>
                    have hbase3 := Nat.le_refl wc.heap.size
                    go_upto_region 11 with fail
                    refine wp_region_loud (fun _ => False) [(1, factL [] (fun v => ∃ g, v = .slice (some ⟨g, 0, none⟩) 3 3) (fun v => OwnF wc.heap.size 9 1 3 (STR [[], [97, 114, 101, 97, 32], [105, 110, 116, 101, 114, 102, 97, 99, 101, 32]]) v)), (5, plainL [1] (.string (S8 [105, 110, 116, 101, 114, 102, 97, 99, 101, 32])))] (fun _ => Fact.none) (by kernel_rfl) (by kernel_rfl)
                      (.cons (factL_ok ⟨_, 0, rfl⟩ (fun v => good_own _ _ _ _ _ _)) (.cons (plainL_ok _ _) .nil)) good_nothing sat_none (WX.out ?_)
                    repeat (first | (refine wx_quietU (by rfl) (by rfl) (by rfl) (fun K hK => ?_); go_big_quiet_op; refine hK _ ?_; clear hK K) | (refine wx_quietG (by rfl) (by rfl) (by rfl) (by rfl) (by rfl) (fun K hK => ?_); go_big_quiet_op; refine hK _ ?_; clear hK K) | (refine wx_skipG (by rfl) (by rfl) (by rfl) (fun K hK => ?_); go_simp; refine hK _ ?_; clear hK K) | (refine wx_skipN (by rfl) (by rfl) (by rfl) (fun K hK => ?_); go_simp; refine hK _ ?_; clear hK K))
                    refine wx_loudU (us := []) (by rfl) (by rfl) (fun S wS hC hS hU => ?_) (fun v hv K hK => ?_)
                    · have hm : LeavesRow S wS wc.heap.size 9 1 3 (STR [[], [97, 114, 101, 97, 32], [105, 110, 116, 101, 114, 102, 97, 99, 101, 32]]) (.slice (some ⟨wS.heap.size, 0, none⟩) 3 3) _ := made_x rfl (hC.below.size) rfl rfl (by omega) (by omega)
                      exact runs_value (by go_simp <;> rfl) ⟨⟨_, rfl⟩, hm.2.1, hm.2.2⟩
                    obtain ⟨g, rfl⟩ := hv; (go_simp; refine hK _ ?_; clear hK K)
                    repeat (first | (refine wx_quietU (by rfl) (by rfl) (by rfl) (fun K hK => ?_); go_big_quiet_op; refine hK _ ?_; clear hK K) | (refine wx_quietG (by rfl) (by rfl) (by rfl) (by rfl) (by rfl) (fun K hK => ?_); go_big_quiet_op; refine hK _ ?_; clear hK K) | (refine wx_skipG (by rfl) (by rfl) (by rfl) (fun K hK => ?_); go_simp; refine hK _ ?_; clear hK K) | (refine wx_skipN (by rfl) (by rfl) (by rfl) (fun K hK => ?_); go_simp; refine hK _ ?_; clear hK K))
                    refine wx_loudU (us := [1]) (by rfl) (by rfl) (fun S wS hC hS hU => ?_) (fun v hv K hK => ?_)
                    · have k1 : OwnF wc.heap.size 9 1 3 (STR [[], [97, 114, 101, 97, 32], [105, 110, 116, 101, 114, 102, 97, 99, 101, 32]]) (.slice (some ⟨g, 0, none⟩) 3 3) S wS := hU 1 (by simp)
                      obtain ⟨bo, oo, eo, _, po⟩ := STR_cell (own_sl k1.2) (k := 2) (by omega)
                      injection eo with eo
                      injection eo with e1 e2
                      subst e1; subst e2
                      rw [Nat.zero_add] at po
                      exact runs_value (by go_simp <;> rfl) ⟨rfl, Kept.refl _ _, trivial⟩
                    obtain rfl := hv; (go_simp; refine hK _ ?_; clear hK K)
                    repeat (first | (refine wx_quietU (by rfl) (by rfl) (by rfl) (fun K hK => ?_); go_big_quiet_op; refine hK _ ?_; clear hK K) | (refine wx_quietG (by rfl) (by rfl) (by rfl) (by rfl) (by rfl) (fun K hK => ?_); go_big_quiet_op; refine hK _ ?_; clear hK K) | (refine wx_skipG (by rfl) (by rfl) (by rfl) (fun K hK => ?_); go_simp; refine hK _ ?_; clear hK K) | (refine wx_skipN (by rfl) (by rfl) (by rfl) (fun K hK => ?_); go_simp; refine hK _ ?_; clear hK K))
                    refine wx_nil fun w4 hsat => ?_
                    have hb4 := sat_below hsat
                    clear hsat r0 r1 a1 a2 a3
                    go_wp2_with fail
                    go_meet
                    all_goals go_light
                    exact ⟨by rw [HX.out], hb3.trans (hb4.mono hb3.size)⟩
          case rest =>
            obtain ⟨rfl, hbx⟩ := hcut
            have hlx := Nat.lt_of_lt_of_le hl2 hbx.size
            have hbwx := hbw2.trans (hbx.mono hbw2.size)
            have s0 : wc.cell? ⟨wr.heap.size, 0, none⟩ = some (.int .i64 l.head) := (hbx.cell (p := ⟨wr.heap.size, 0, none⟩) hl2).trans q0
            have s1 : wc.cell? ⟨wr.heap.size, 1, none⟩ = some (.string (S8 l.name)) := (hbx.cell (p := ⟨wr.heap.size, 1, none⟩) hl2).trans q1
            have s2 : wc.cell? ⟨wr.heap.size, 2, none⟩ = some (.string (S8 l.leaf)) := (hbx.cell (p := ⟨wr.heap.size, 2, none⟩) hl2).trans q2
            have s3 : wc.cell? ⟨wr.heap.size, 3, none⟩ = some (.string (S8 l.value)) := (hbx.cell (p := ⟨wr.heap.size, 3, none⟩) hl2).trans q3
            obtain ⟨z0, hz0⟩ : ∃ z, z = R ++ H := ⟨_, rfl⟩
            rw [← hz0]
            have hz0l : z0.length ≤ 402000013 := by rw [hz0, List.length_append]; omega
            obtain ⟨y1, hy1⟩ : ∃ z, z = z0 ++ [32, 32] := ⟨_, rfl⟩
            obtain ⟨y2, hy2⟩ : ∃ z, z = y1 ++ l.leaf := ⟨_, rfl⟩
            obtain ⟨y3, hy3⟩ : ∃ z, z = y2 ++ [32] := ⟨_, rfl⟩
            obtain ⟨y4, hy4⟩ : ∃ z, z = y3 ++ l.value := ⟨_, rfl⟩
            obtain ⟨y5, hy5⟩ : ∃ z, z = y4 ++ [59, 10] := ⟨_, rfl⟩
            obtain ⟨y6, hy6⟩ : ∃ z, z = y5 ++ [125, 10] := ⟨_, rfl⟩
            have hy1l : y1.length ≤ 402000015 := by rw [hy1, List.length_append]; simp only [List.length_cons, List.length_nil]; omega
            have hy2l : y2.length ≤ 404000015 := by rw [hy2, List.length_append]; omega
            have hy3l : y3.length ≤ 404000016 := by rw [hy3, List.length_append]; simp only [List.length_cons, List.length_nil]; omega
            have hy4l : y4.length ≤ 406000016 := by rw [hy4, List.length_append]; omega
            have hy5l : y5.length ≤ 406000018 := by rw [hy5, List.length_append]; simp only [List.length_cons, List.length_nil]; omega
            have a1 := fun w' : World => cat8 (w := w') z0 [32, 32] y1 hy1 (by simp; omega)
            have a2 := fun w' : World => cat8 (w := w') y1 l.leaf y2 hy2 (by omega)
            have a3 := fun w' : World => cat8 (w := w') y2 [32] y3 hy3 (by simp; omega)
            have a4 := fun w' : World => cat8 (w := w') y3 l.value y4 hy4 (by omega)
            have a5 := fun w' : World => cat8 (w := w') y4 [59, 10] y5 hy5 (by simp; omega)
            have a6 := fun w' : World => cat8 (w := w') y5 [125, 10] y6 hy6 (by simp; omega)
            rw [show S8 [32, 32] = (⟨#[32, 32]⟩ : ByteArray) from rfl] at a1
            rw [show S8 [32] = (⟨#[32]⟩ : ByteArray) from rfl] at a3
            rw [show S8 [59, 10] = (⟨#[59, 10]⟩ : ByteArray) from rfl] at a5
            rw [show S8 [125, 10] = (⟨#[125, 10]⟩ : ByteArray) from rfl] at a6
            have HY : Hid (rtT C (k + 1) = if clT C k = true then y6 else y5) := by
              show _ = _
              rw [HRT.out, HPC.out, hy6, hy5, hy4, hy3, hy2, hy1, hz0]
              unfold lineB
              split <;> simp only [List.append_assoc, List.append_nil]
            have HSL2 := hid (HSL.out.below hbwx)
            clear HRT HPC hHl hy1 hy2 hy3 hy4 hy5 hy6 hz0 q0 q1 q2 q3 HH hbw2 hg2 hb2 hd hbr
            go_upto_region 13 with fail
            clear a1 a2 a3 a4 a5
            have p0 := fun z : WK (fun _ => False) wc => (wat_cell (p := ⟨wr.heap.size, 0, none⟩) hlx (by simp) z).trans s0
            have p1 := fun z : WK (fun _ => False) wc => (wat_cell (p := ⟨wr.heap.size, 1, none⟩) hlx (by simp) z).trans s1
            by_cases hkn : k + 1 = n
            · have i1 : wrap64 ((n : Int) - 1) = (k : Int) := by unfold wrap64; omega
              have i0 : (n : Int) - 1 = (k : Int) := by omega
              have e1 : ((k : Int) == (n : Int) - 1) = true := by rw [beq_iff_eq]; omega
              have HYZ : Hid (rtT C (k + 1) = y6) := by
                show _ = _
                rw [HY.out, if_pos]
                unfold clT
                rw [decide_eq_true (by rw [HCL.out]; exact hkn)]
                rfl
              clear HY HLL hkn i0 i1
              as_aux_lemma =>
                refine wp_region_loud (fun _ => False) [] (fun _ => Fact.none) (by kernel_rfl) (by kernel_rfl) .nil good_nothing sat_none (WX.out ?_)
                repeat (first | (refine wx_quietU (by rfl) (by rfl) (by rfl) (fun K hK => ?_); go_big_quiet_op; refine hK _ ?_; clear hK K) | (refine wx_quietG (by rfl) (by rfl) (by rfl) (by rfl) (by rfl) (fun K hK => ?_); go_big_quiet_op; refine hK _ ?_; clear hK K) | (refine wx_skipG (by rfl) (by rfl) (by rfl) (fun K hK => ?_); go_simp; refine hK _ ?_; clear hK K) | (refine wx_skipN (by rfl) (by rfl) (by rfl) (fun K hK => ?_); go_simp; refine hK _ ?_; clear hK K))
                refine wx_nil fun w3 hsat => ?_
                have hb3 := sat_below hsat
                have hbz := hbwx.trans (hb3.mono hbwx.size)
                clear hsat p0 p1
                go_wp2_with fail
                go_light
                exact ⟨⟨k + 1, by omega, by go_num, by rw [HYZ.out], hbz⟩, by simp [intOf]; omega⟩
            · have e1 : ((k : Int) == (n : Int) - 1) = false := by rw [beq_eq_false_iff_ne]; omega
              have i1 : (k : Int) + 1 < (n : Int) := by omega
              have i0 : (0 : Int) ≤ (k : Int) + 1 := by omega
              have HOP : Hid (clT C k = !sameH l (lnAt C (k + 1))) := by
                show _ = _
                unfold clT
                rw [decide_eq_false (by rw [HCL.out]; exact hkn), HLL.out]
                rfl
              obtain ⟨b', off', hA', hblj, hclj⟩ := sl_ln HSL2.out (show k + 1 < n by omega)
              injection hA' with hA'
              injection hA' with e3 e4
              subst e3; subst e4
              clear HSL2 HLL hkn
              generalize lnAt C (k + 1) = p at *
              have x0 : wc.cell? ⟨b, off + (k + 1) * 4, none⟩ = some (.int .i64 p.head) := hclj 0 _ rfl
              have x1 : wc.cell? ⟨b, off + (k + 1) * 4 + 1, none⟩ = some (.string (S8 p.name)) := hclj 1 _ rfl
              have y0' := fun z : WK (fun _ => False) wc => (wat_cell (p := ⟨b, off + (k + 1) * 4, none⟩) hblj (by simp) z).trans x0
              have y1' := fun z : WK (fun _ => False) wc => (wat_cell (p := ⟨b, off + (k + 1) * 4 + 1, none⟩) hblj (by simp) z).trans x1
              clear x0 x1 hclj
              by_cases g1 : p.head = l.head
              · have f1 : (p.head != l.head) = false := by rw [g1]; simp
                by_cases g2 : p.name = l.name
                · have f2 := s8_eqC l.name
                  have HYZ : Hid (rtT C (k + 1) = y5) := by
                    show _ = _
                    rw [HY.out, HOP.out, if_neg]
                    unfold sameH
                    rw [decide_eq_true g1.symm, decide_eq_true g2.symm]
                    decide
                  rw [g2] at y1'
                  clear g1 g2 HOP HY
                  as_aux_lemma =>
                    refine wp_region_loud (fun _ => False) [] (fun _ => Fact.none) (by kernel_rfl) (by kernel_rfl) .nil good_nothing sat_none (WX.out ?_)
                    repeat (first | (refine wx_quietU (by rfl) (by rfl) (by rfl) (fun K hK => ?_); go_big_quiet_op; refine hK _ ?_; clear hK K) | (refine wx_quietG (by rfl) (by rfl) (by rfl) (by rfl) (by rfl) (fun K hK => ?_); go_big_quiet_op; refine hK _ ?_; clear hK K) | (refine wx_skipG (by rfl) (by rfl) (by rfl) (fun K hK => ?_); go_simp; refine hK _ ?_; clear hK K) | (refine wx_skipN (by rfl) (by rfl) (by rfl) (fun K hK => ?_); go_simp; refine hK _ ?_; clear hK K))
                    refine wx_nil fun w3 hsat => ?_
                    have hb3 := sat_below hsat
                    have hbz := hbwx.trans (hb3.mono hbwx.size)
                    clear hsat p0 p1
                    go_wp2_with fail
                    go_light
                    exact ⟨⟨k + 1, by omega, by go_num, by rw [HYZ.out], hbz⟩, by simp [intOf]; omega⟩
                · have f2 := s8_neC g2
                  have HYZ : Hid (rtT C (k + 1) = y6) := by
                    show _ = _
                    rw [HY.out, HOP.out, if_pos]
                    unfold sameH
                    rw [decide_eq_false (show ¬ l.name = p.name from fun e => g2 e.symm), Bool.and_false]
                    rfl
                  clear g1 g2 HOP HY
                  as_aux_lemma =>
                    refine wp_region_loud (fun _ => False) [] (fun _ => Fact.none) (by kernel_rfl) (by kernel_rfl) .nil good_nothing sat_none (WX.out ?_)
                    repeat (first | (refine wx_quietU (by rfl) (by rfl) (by rfl) (fun K hK => ?_); go_big_quiet_op; refine hK _ ?_; clear hK K) | (refine wx_quietG (by rfl) (by rfl) (by rfl) (by rfl) (by rfl) (fun K hK => ?_); go_big_quiet_op; refine hK _ ?_; clear hK K) | (refine wx_skipG (by rfl) (by rfl) (by rfl) (fun K hK => ?_); go_simp; refine hK _ ?_; clear hK K) | (refine wx_skipN (by rfl) (by rfl) (by rfl) (fun K hK => ?_); go_simp; refine hK _ ?_; clear hK K))
                    refine wx_nil fun w3 hsat => ?_
                    have hb3 := sat_below hsat
                    have hbz := hbwx.trans (hb3.mono hbwx.size)
                    clear hsat p0 p1
                    go_wp2_with fail
                    go_light
                    exact ⟨⟨k + 1, by omega, by go_num, by rw [HYZ.out], hbz⟩, by simp [intOf]; omega⟩
              · have f1 : (p.head != l.head) = true := by rw [bne_iff_ne]; exact g1
                have HYZ : Hid (rtT C (k + 1) = y6) := by
                  show _ = _
                  rw [HY.out, HOP.out, if_pos]
                  unfold sameH
                  rw [decide_eq_false (fun e => g1 e.symm)]
                  rfl
                clear g1 HOP HY
                as_aux_lemma =>
                  refine wp_region_loud (fun _ => False) [] (fun _ => Fact.none) (by kernel_rfl) (by kernel_rfl) .nil good_nothing sat_none (WX.out ?_)
                  repeat (first | (refine wx_quietU (by rfl) (by rfl) (by rfl) (fun K hK => ?_); go_big_quiet_op; refine hK _ ?_; clear hK K) | (refine wx_quietG (by rfl) (by rfl) (by rfl) (by rfl) (by rfl) (fun K hK => ?_); go_big_quiet_op; refine hK _ ?_; clear hK K) | (refine wx_skipG (by rfl) (by rfl) (by rfl) (fun K hK => ?_); go_simp; refine hK _ ?_; clear hK K) | (refine wx_skipN (by rfl) (by rfl) (by rfl) (fun K hK => ?_); go_simp; refine hK _ ?_; clear hK K))
                  refine wx_nil fun w3 hsat => ?_
                  have hb3 := sat_below hsat
                  have hbz := hbwx.trans (hb3.mono hbwx.size)
                  clear hsat p0 p1
                  go_wp2_with fail
                  go_light
                  exact ⟨⟨k + 1, by omega, by go_num, by rw [HYZ.out], hbz⟩, by simp [intOf]; omega⟩
      · obtain rfl : k = n := by omega
        go_wp2_with fail
        go_ret
        exact ⟨by rw [HE.out]; rfl, hbr⟩
end CF
end Go.Proofs.YtecfkhgocjbocaaGreatDoor
namespace Go.Proofs.YtecfkhgocjbocaaGreatDoor
set_option linter.unusedVariables false
set_option linter.unusedSimpArgs false
open Go

namespace PG
theorem run_sp (r : List UInt8) (p : Nat) (out : List (List UInt8)) : LX.run (32 :: r) p out = LX.run r (p + 1) out := LX.run_blk 32 r p out rfl
theorem run_nl (r : List UInt8) (p : Nat) (out : List (List UInt8)) : LX.run (10 :: r) p out = LX.run r (p + 1) out := LX.run_blk 10 r p out rfl
theorem run_sg (c : UInt8) (h : LX.sgn c = true) (r : List UInt8) (p : Nat) (out : List (List UInt8)) : LX.run (c :: r) p out = LX.run r (p + 1) (out ++ [[c]]) := LX.run_sgn c r p out h
/-- what is told of bytes does not hang on the place but for the place -/
def tk (L : List (List UInt8)) (s : List UInt8) : Prop := ∀ (r : List UInt8) (p : Nat) (out : List (List UInt8)), ∃ q, LX.run (s ++ r) p out = LX.run r q (out ++ L)
theorem tk_nil : tk [] [] := fun r p out => ⟨p, by simp⟩
theorem tk_app {L M : List (List UInt8)} {s t : List UInt8} (h1 : tk L s) (h2 : tk M t) : tk (L ++ M) (s ++ t) := fun r p out => by
  obtain ⟨q, e1⟩ := h1 (t ++ r) p out
  obtain ⟨q2, e2⟩ := h2 r q (out ++ L)
  exact ⟨q2, by rw [List.append_assoc, e1, e2, List.append_assoc]⟩
theorem tk_flat {β : Type} (C : List β) (f : β → List (List UInt8)) (g : β → List UInt8) (h : ∀ x ∈ C, tk (f x) (g x)) : tk (C.flatMap f) (C.flatMap g) := by
  induction C with
  | nil => exact tk_nil
  | cons x r ih =>
    rw [List.flatMap_cons, List.flatMap_cons]
    exact tk_app (h x List.mem_cons_self) (ih fun y hy => h y (List.mem_cons_of_mem _ hy))
theorem tk_run {L : List (List UInt8)} {s : List UInt8} (h : tk L s) : ∃ q, LX.run s 0 [] = (L, q, 0) := by
  obtain ⟨q, e⟩ := h [] 0 []
  rw [List.append_nil, List.nil_append, LX.run_nil] at e
  exact ⟨q, e⟩
/-- a word and a byte that is none of its -/
theorem tk_word (w : List UInt8) (hw : LX.Tok w) (c : UInt8) (hc : LX.inW c = false) (r : List UInt8) (p : Nat) (out : List (List UInt8)) : LX.run (w ++ c :: r) p out = LX.run (c :: r) (p + w.length) (out ++ [w]) := LX.run_tok w (c :: r) p out hw (.inr ⟨c, r, rfl, hc⟩)
theorem tok_area : LX.Tok wArea := .inr ⟨by decide, by decide, by decide⟩
theorem tok_inter : LX.Tok wInter := .inr ⟨by decide, by decide, by decide⟩
def hW (h : Int) : List UInt8 := if h = 1 then wArea else wInter
def tokL (l : Ln) : List (List UInt8) := [l.leaf, l.value, [59]]
/-- can a line's texts be words? -/
def Wd (l : Ln) : Prop := LX.Tok l.leaf ∧ LX.Tok l.value ∧ (l.head ≠ 0 → LX.Tok l.name)
theorem tk_line (l : Ln) (h : Wd l) : tk (tokL l) (CF.lineX l) := fun r p out => by
  have e : CF.lineX l ++ r = l.leaf ++ 32 :: (l.value ++ 59 :: (10 :: r)) := by
    unfold CF.lineX
    simp only [List.append_assoc, List.cons_append, List.nil_append]
  rw [e, tk_word l.leaf h.1 32 (by decide), run_sp, tk_word l.value h.2.1 59 (by decide), run_sg 59 (by decide), run_nl]
  exact ⟨p + l.leaf.length + 1 + l.value.length + 1 + 1, by unfold tokL; simp⟩
theorem tk_lineB (l : Ln) (h : Wd l) : tk (tokL l) (CF.lineB l) := fun r p out => by
  have e : CF.lineB l ++ r = 32 :: 32 :: (l.leaf ++ 32 :: (l.value ++ 59 :: (10 :: r))) := by
    unfold CF.lineB
    simp only [List.append_assoc, List.cons_append, List.nil_append]
  rw [e, run_sp, run_sp, tk_word l.leaf h.1 32 (by decide), run_sp, tk_word l.value h.2.1 59 (by decide), run_sg 59 (by decide), run_nl]
  exact ⟨p + 1 + 1 + l.leaf.length + 1 + l.value.length + 1 + 1, by unfold tokL; simp⟩
theorem tk_head (h : Int) (nm : List UInt8) (hn : LX.Tok nm) : tk [hW h, nm, [123]] (CF.headB h nm) := fun r p out => by
  have e : CF.headB h nm ++ r = hW h ++ 32 :: (nm ++ 32 :: (123 :: (10 :: r))) := by
    unfold CF.headB CF.wordT hW
    split <;> simp only [List.append_assoc, List.cons_append, List.nil_append] <;> rfl
  have ht : LX.Tok (hW h) := by
    unfold hW
    split
    · exact tok_area
    · exact tok_inter
  rw [e, tk_word (hW h) ht 32 (by decide), run_sp, tk_word nm hn 32 (by decide), run_sp, run_sg 123 (by decide), run_nl]
  exact ⟨p + (hW h).length + 1 + nm.length + 1 + 1 + 1, by simp⟩
theorem tk_close : tk [[125]] [125, 10] := fun r p out => by
  show ∃ q, LX.run (125 :: (10 :: r)) p out = _
  rw [run_sg 125 (by decide), run_nl]
  exact ⟨_, rfl⟩
def tokB (C : List Ln) (h : Int) (nm : List UInt8) : List (List UInt8) := [hW h, nm, [123]] ++ (C.flatMap fun l => if l.head = h ∧ l.name = nm then tokL l else []) ++ [[125]]
theorem tk_block (C : List Ln) (h : Int) (nm : List UInt8) (hC : ∀ l ∈ C, Wd l) (hn : LX.Tok nm) : tk (tokB C h nm) (CF.blockT C h nm) := by
  unfold tokB CF.blockT CF.bodyB
  refine tk_app (tk_app (tk_head h nm hn) (tk_flat C _ _ fun l hl => ?_)) tk_close
  by_cases e : l.head = h ∧ l.name = nm
  · rw [if_pos e, if_pos e]; exact tk_lineB l (hC l hl)
  · rw [if_neg e, if_neg e]; exact tk_nil
/-- the words of a configuration -/
def tokC (C : List Ln) : List (List UInt8) := (C.flatMap fun l => if l.head = 0 then tokL l else []) ++ ((CF.namC C 1).flatMap (tokB C 1) ++ (CF.namC C 2).flatMap (tokB C 2))
theorem tk_text (C : List Ln) (hr : CF.RightC C = true) (hC : ∀ l ∈ C, Wd l) : tk (tokC C) (CF.textC C) := by
  unfold tokC CF.textC CF.topT
  rw [if_pos hr]
  have hb : ∀ h : Int, h ≠ 0 → tk ((CF.namC C h).flatMap (tokB C h)) ((CF.namC C h).flatMap (CF.blockT C h)) := fun h h0 => tk_flat _ _ _ fun nm hn => by
    obtain ⟨l, hl, e1, e2⟩ := CF.namC_mem C h nm hn
    have := (hC l hl).2.2 (by rw [e1]; exact h0)
    rw [e2] at this
    exact tk_block C h nm hC this
  refine tk_app (tk_flat C _ _ fun l hl => ?_) (tk_app (hb 1 (by decide)) (hb 2 (by decide)))
  by_cases e : l.head = 0
  · rw [if_pos e, if_pos e]; exact tk_line l (hC l hl)
  · rw [if_neg e, if_neg e]; exact tk_nil
end PG
end Go.Proofs.YtecfkhgocjbocaaGreatDoor
namespace Go.Proofs.YtecfkhgocjbocaaGreatDoor
set_option linter.unusedVariables false
set_option linter.unusedSimpArgs false
open Go

namespace PG
theorem dig_inW (c : UInt8) (h : SC.isDig c = true) : LX.inW c = true := by
  simp [SC.isDig] at h
  simp [LX.inW]
  omega
theorem numF_ge (l : List UInt8) (n : Nat) : n * 10 ^ l.length ≤ SC.numF n l := by
  induction l generalizing n with
  | nil => simp [SC.numF]
  | cons x t ih =>
    have h1 := ih (n * 10 + (x.toNat - 48))
    have h2 : SC.numF n (x :: t) = SC.numF (n * 10 + (x.toNat - 48)) t := rfl
    rw [h2, List.length_cons, Nat.pow_succ]
    refine Nat.le_trans ?_ h1
    rw [Nat.add_mul, Nat.mul_comm (10 ^ t.length) 10, ← Nat.mul_assoc]
    omega
theorem dec_wd {l : List UInt8} {n : Nat} (h : SC.dec l = some n) : l ≠ [] ∧ l.length ≤ 9 ∧ (∀ c ∈ l, SC.isDig c = true) ∧ (4 ≤ l.length → 1000 ≤ n) := by
  unfold SC.dec at h
  split at h
  · rename_i hd
    injection h with h
    unfold SC.decOk at hd
    simp only [Bool.and_eq_true, decide_eq_true_eq, Bool.not_eq_true', Bool.and_eq_false_iff, decide_eq_false_iff_not, beq_eq_false_iff_ne, List.all_eq_true] at hd
    obtain ⟨⟨⟨h1, h2⟩, h3⟩, h4⟩ := hd
    refine ⟨fun e => by rw [e] at h1; simp at h1, h2, h4, fun h5 => ?_⟩
    cases l with
    | nil => simp at h5
    | cons x t =>
      have hx : x ≠ 48 := by
        rcases h3 with h3 | h3
        · simp only [List.length_cons] at h3 h5; omega
        · simpa using h3
      have hd := h4 x List.mem_cons_self
      simp [SC.isDig] at hd
      have hx2 : x.toNat ≠ 48 := fun e => hx (UInt8.toNat_inj.1 (by simpa using e))
      have h6 := numF_ge t (0 * 10 + (x.toNat - 48))
      have h7 : SC.num (x :: t) = SC.numF (0 * 10 + (x.toNat - 48)) t := rfl
      rw [← h, h7]
      refine Nat.le_trans ?_ h6
      simp only [List.length_cons] at h5
      have h8 : 10 ^ 3 ≤ 10 ^ t.length := Nat.pow_le_pow_right (by omega) (by omega)
      have h9 : 1 * 10 ^ t.length ≤ (0 * 10 + (x.toNat - 48)) * 10 ^ t.length := Nat.mul_le_mul_right _ (by omega)
      omega
  · cases h
theorem part_wd {l : List UInt8} {n : Nat} (h : SC.part l = some n) : l.length ≤ 3 ∧ ∀ c ∈ l, SC.isDig c = true := by
  unfold SC.part at h
  split at h
  · rename_i n' hn
    obtain ⟨_, _, h3, h4⟩ := dec_wd hn
    split at h
    · rename_i h5
      refine ⟨?_, h3⟩
      rcases Nat.lt_or_ge l.length 4 with h6 | h6
      · omega
      · have := h4 h6; omega
    · cases h
  · cases h
theorem cut_mem (c : UInt8) (l : List UInt8) (x : UInt8) (hx : x ∈ l) : x = c ∨ ∃ p ∈ SC.cut c l, x ∈ p := by
  induction l with
  | nil => cases hx
  | cons y t ih =>
    unfold SC.cut
    by_cases e : y = c
    · rw [if_pos e]
      rcases List.mem_cons.1 hx with h | h
      · exact .inl (by rw [h, e])
      · rcases ih h with h | ⟨p, hp, hxp⟩
        · exact .inl h
        · exact .inr ⟨p, List.mem_cons_of_mem _ hp, hxp⟩
    · rw [if_neg e]
      cases hc : SC.cut c t with
      | nil => exact absurd hc (SC.cut_ne c t)
      | cons h r =>
        rw [hc] at ih
        simp only
        rcases List.mem_cons.1 hx with h1 | h1
        · exact .inr ⟨y :: h, List.mem_cons_self, by rw [h1]; exact List.mem_cons_self⟩
        · rcases ih h1 with h2 | ⟨p, hp, hxp⟩
          · exact .inl h2
          · rcases List.mem_cons.1 hp with h3 | h3
            · exact .inr ⟨y :: h, List.mem_cons_self, List.mem_cons_of_mem _ (by rw [← h3]; exact hxp)⟩
            · exact .inr ⟨p, List.mem_cons_of_mem _ h3, hxp⟩
theorem addr_wd {l : List UInt8} {n : Nat} (h : SC.addr l = some n) : l ≠ [] ∧ l.length ≤ 15 ∧ ∀ c ∈ l, LX.inW c = true := by
  have hs := CF.cut_sum 46 l
  have hm := cut_mem 46 l
  unfold SC.addr at h
  split at h
  · rename_i a b c d hcut
    rw [hcut] at hs hm
    split at h
    · rename_i a' b' c' d' h1 h2 h3 h4
      obtain ⟨k1, g1⟩ := part_wd h1
      obtain ⟨k2, g2⟩ := part_wd h2
      obtain ⟨k3, g3⟩ := part_wd h3
      obtain ⟨k4, g4⟩ := part_wd h4
      simp [CF.lens] at hs
      refine ⟨fun e => by rw [e] at hs; simp at hs; omega, by omega, fun x hx => ?_⟩
      rcases hm x hx with e | ⟨p, hp, hxp⟩
      · rw [e]; decide
      · simp at hp
        rcases hp with rfl | rfl | rfl | rfl
        · exact dig_inW x (g1 x hxp)
        · exact dig_inW x (g2 x hxp)
        · exact dig_inW x (g3 x hxp)
        · exact dig_inW x (g4 x hxp)
    · cases h
  · cases h
theorem net_wd {l : List UInt8} {n : Nat × Nat} (h : SC.net l = some n) : l ≠ [] ∧ l.length ≤ 31 ∧ ∀ c ∈ l, LX.inW c = true := by
  have hs := CF.cut_sum 47 l
  have hm := cut_mem 47 l
  unfold SC.net at h
  split at h
  · rename_i a b hcut
    rw [hcut] at hs hm
    split at h
    · rename_i a' b' h1 h2
      obtain ⟨_, k1, g1⟩ := addr_wd h1
      have h3 : b.length ≤ 9 ∧ ∀ c ∈ b, SC.isDig c = true := by
        unfold SC.len32 at h2
        split at h2
        · rename_i n' hn
          obtain ⟨_, q1, q2, _⟩ := dec_wd hn
          exact ⟨q1, q2⟩
        · cases h2
      simp [CF.lens] at hs
      refine ⟨fun e => by rw [e] at hs; simp at hs; omega, by omega, fun x hx => ?_⟩
      rcases hm x hx with e | ⟨p, hp, hxp⟩
      · rw [e]; decide
      · simp at hp
        rcases hp with rfl | rfl
        · exact g1 x hxp
        · exact dig_inW x (h3.2 x hxp)
    · cases h
  · cases h
/-- a word, and no sign -/
def Wo (w : List UInt8) : Prop := w ≠ [] ∧ w.length ≤ 31 ∧ ∀ c ∈ w, LX.inW c = true
theorem addrB_tok {l : List UInt8} (h : SC.addrB l = true) : Wo l := by
  unfold SC.addrB at h
  cases ha : SC.addr l with
  | none => rw [ha] at h; cases h
  | some n => obtain ⟨h1, h2, h3⟩ := addr_wd ha; exact ⟨h1, by omega, h3⟩
theorem netB_tok {l : List UInt8} (h : SC.netB l = true) : Wo l := by
  unfold SC.netB at h
  cases ha : SC.net l with
  | none => rw [ha] at h; cases h
  | some n => obtain ⟨h1, h2, h3⟩ := net_wd ha; exact ⟨h1, h2, h3⟩
theorem decB_tok {l : List UInt8} (h : SC.decB l = true) : Wo l := by
  unfold SC.decB at h
  cases ha : SC.dec l with
  | none => rw [ha] at h; cases h
  | some n => obtain ⟨h1, h2, h3, _⟩ := dec_wd ha; exact ⟨h1, by omega, fun c hc => dig_inW c (h3 c hc)⟩
theorem isW_tok {l : List UInt8} (h : LX.isW l = true) : Wo l := (LX.isW_iff l).1 h
theorem tab_tok (r : Rw) (h : r ∈ TAB) : LX.isW r.name = true ∧ ∀ x ∈ r.cho, LX.isW x = true := by
  have : TAB.all (fun r => LX.isW r.name && r.cho.all LX.isW) = true := by kernel_rfl
  have h1 := List.all_eq_true.1 this r h
  rw [Bool.and_eq_true, List.all_eq_true] at h1
  exact h1
theorem right_wo (l : Ln) (h : CF.rightL l = true) : Wo l.leaf ∧ Wo l.value ∧ (l.head ≠ 0 → Wo l.name) := by
  unfold CF.rightL at h
  simp only [Bool.and_eq_true] at h
  obtain ⟨⟨h1, h2⟩, h3⟩ := h
  cases hf : TAB.find? (isR l.head l.leaf) with
  | none =>
    have : findR l.head l.leaf = (row0, false) := by unfold findR; rw [hf]
    rw [this] at h1
    cases h1
  | some r =>
    have e : findR l.head l.leaf = (r, true) := by unfold findR; rw [hf]
    rw [e] at h3
    obtain ⟨t1, t2⟩ := tab_tok r (List.mem_of_find?_eq_some hf)
    have hr := List.find?_some hf
    unfold isR at hr
    simp only [Bool.and_eq_true, decide_eq_true_eq] at hr
    obtain ⟨e1, e2⟩ := hr
    rw [e2] at t1
    refine ⟨isW_tok t1, ?_, fun h0 => ?_⟩
    · unfold rightR at h3
      split at h3
      · exact addrB_tok h3
      · split at h3
        · exact netB_tok h3
        · split at h3
          · rw [Bool.and_eq_true, Bool.and_eq_true] at h3
            exact decB_tok h3.1.1
          · split at h3
            · exact isW_tok (t2 _ (by simpa using h3))
            · rw [Bool.and_eq_true] at h3
              exact isW_tok h3.1
    · unfold namedR at h2
      rw [if_neg h0] at h2
      split at h2
      · exact addrB_tok h2
      · split at h2
        · rw [Bool.and_eq_true] at h2
          exact isW_tok h2.1
        · cases h2
theorem right_wd (l : Ln) (h : CF.rightL l = true) : Wd l := ⟨.inr (right_wo l h).1, .inr (right_wo l h).2.1, fun h0 => .inr ((right_wo l h).2.2 h0)⟩
/-- the words of a configuration's text -/
theorem run_textC (C : List Ln) (hr : CF.RightC C = true) : ∃ q, LX.run (CF.textC C) 0 [] = (tokC C, q, 0) := tk_run (tk_text C hr fun l hl => right_wd l (((CF.RightC_iff C).1 hr).1 l hl))
end PG
end Go.Proofs.YtecfkhgocjbocaaGreatDoor
namespace Go.Proofs.YtecfkhgocjbocaaGreatDoor
set_option linter.unusedVariables false
set_option linter.unusedSimpArgs false
open Go

namespace PG
/-- a sorted list of lines of another is no longer -/
theorem srt_len (C : List Ln) : ∀ B : List Ln, CF.Srt C → CF.Srt B → (∀ x ∈ B, x ∈ C) → B.length ≤ C.length := by
  induction C with
  | nil =>
    intro B _ _ h
    cases B with
    | nil => exact Nat.le_refl _
    | cons x t => exact absurd (h x List.mem_cons_self) (by simp)
  | cons y C ih =>
    intro B hC hB h
    rw [CF.srt_cons] at hC
    cases B with
    | nil => exact Nat.zero_le _
    | cons x t =>
      rw [CF.srt_cons] at hB
      have ht : ∀ z ∈ t, z ∈ C := fun z hz => by
        rcases List.mem_cons.1 (h z (List.mem_cons_of_mem _ hz)) with e | e
        · exfalso
          have h1 := hB.1 z hz
          rw [e] at h1
          rcases List.mem_cons.1 (h x List.mem_cons_self) with e2 | e2
          · rw [e2, CF.ordL_self] at h1; omega
          · have := hC.1 x e2
            have := CF.ordL_neg y x
            omega
        · exact e
      have := ih t hC.2 hB.2 ht
      simp only [List.length_cons]
      omega
/-- sorted lists of the same lines are one -/
theorem srt_same (C : List Ln) : ∀ B : List Ln, CF.Srt C → CF.Srt B → (∀ x, x ∈ B ↔ x ∈ C) → B = C := by
  induction C with
  | nil =>
    intro B _ _ h
    cases B with
    | nil => rfl
    | cons x t => exact absurd ((h x).1 List.mem_cons_self) (by simp)
  | cons y C ih =>
    intro B hC hB h
    rw [CF.srt_cons] at hC
    cases B with
    | nil => exact absurd ((h y).2 List.mem_cons_self) (by simp)
    | cons x t =>
      rw [CF.srt_cons] at hB
      have exy : x = y := by
        rcases List.mem_cons.1 ((h x).1 List.mem_cons_self) with e | e
        · exact e
        · rcases List.mem_cons.1 ((h y).2 List.mem_cons_self) with e2 | e2
          · exact e2.symm
          · have h1 := hC.1 x e
            have h2 := hB.1 y e2
            have := CF.ordL_neg y x
            omega
      subst exy
      have : t = C := ih t hC.2 hB.2 fun z => by
        constructor
        · intro hz
          rcases List.mem_cons.1 ((h z).1 (List.mem_cons_of_mem _ hz)) with e | e
          · have := hB.1 z hz
            rw [e, CF.ordL_self] at this; omega
          · exact e
        · intro hz
          rcases List.mem_cons.1 ((h z).2 (List.mem_cons_of_mem _ hz)) with e | e
          · have := hC.1 z hz
            rw [e, CF.ordL_self] at this; omega
          · exact e
      rw [this]
/-- lines of C alone, sorted -/
def Sub (C B : List Ln) : Prop := CF.Srt B ∧ ∀ x ∈ B, x ∈ C
theorem sub_nil (C : List Ln) : Sub C [] := ⟨fun i j _ h => by simp at h, by simp⟩
theorem sub_right {C B : List Ln} (hr : CF.RightC C = true) (h : Sub C B) : CF.RightC B = true := by
  obtain ⟨h1, h2, h3⟩ := (CF.RightC_iff C).1 hr
  exact (CF.RightC_iff B).2 ⟨fun l hl => h1 l (h.2 l hl), h.1, Nat.le_trans (srt_len C B h2 h.1 h.2) h3⟩
theorem sub_ins {C B : List Ln} (h : Sub C B) (l : Ln) (hl : l ∈ C) : Sub C (CF.insC B l) := ⟨CF.srt_ins B l h.1, fun x hx => (CF.ins_mem B l x hx).elim (fun e => by rw [e]; exact hl) (h.2 x)⟩
theorem sub_set {C B : List Ln} (hr : CF.RightC C = true) (h : Sub C B) (l : Ln) (hl : l ∈ C) : CF.setE B l = 0 ∧ CF.setC B l = CF.insC B l := by
  have h1 := sub_right hr h
  have h2 := ((CF.RightC_iff _).1 (sub_right hr (sub_ins h l hl))).2.2
  have h3 := ((CF.RightC_iff C).1 hr).1 l hl
  have e : CF.setE B l = 0 := by
    unfold CF.setE
    rw [if_pos (by rw [h1, h3]; rfl), if_pos h2]
  exact ⟨e, (CF.setE_ok B l e).2.2.2⟩
theorem sub_fold {C : List Ln} (L : List Ln) : ∀ B : List Ln, Sub C B → (∀ l ∈ L, l ∈ C) → Sub C (L.foldl CF.insC B) := by
  induction L with
  | nil => exact fun B h _ => h
  | cons l r ih => exact fun B h hL => ih _ (sub_ins h l (hL l List.mem_cons_self)) fun x hx => hL x (List.mem_cons_of_mem _ hx)
theorem mem_fold {C : List Ln} (hC : CF.Srt C) (L : List Ln) : ∀ B : List Ln, Sub C B → (∀ l ∈ L, l ∈ C) → ∀ x, x ∈ L ∨ x ∈ B → x ∈ L.foldl CF.insC B := by
  induction L with
  | nil => exact fun B h _ x hx => hx.elim (fun k => absurd k (by simp)) id
  | cons l r ih =>
    intro B h hL x hx
    have hl := hL l List.mem_cons_self
    refine ih _ (sub_ins h l hl) (fun y hy => hL y (List.mem_cons_of_mem _ hy)) x ?_
    rcases hx with hx | hx
    · rcases List.mem_cons.1 hx with e | e
      · rw [e]; exact .inr (CF.mem_ins B l)
      · exact .inl e
    · refine .inr ?_
      by_cases e : CF.ordL x l = 0
      · rw [CF.srt_uniq hC (h.2 x hx) hl e]; exact CF.mem_ins B l
      · exact CF.mem_ins_old B l x hx e
/-- all lines of a configuration, set in any order -/
theorem fold_all {C : List Ln} (hr : CF.RightC C = true) (L : List Ln) (h1 : ∀ l ∈ L, l ∈ C) (h2 : ∀ l ∈ C, l ∈ L) : L.foldl CF.insC [] = C := by
  have hC := ((CF.RightC_iff C).1 hr).2.1
  have hs := sub_fold L [] (sub_nil C) h1
  exact srt_same C _ hC hs.1 fun x => ⟨hs.2 x, fun hx => mem_fold hC L [] (sub_nil C) h1 x (.inl (h2 x hx))⟩
end PG
end Go.Proofs.YtecfkhgocjbocaaGreatDoor
namespace Go.Proofs.YtecfkhgocjbocaaGreatDoor
set_option linter.unusedVariables false
set_option linter.unusedSimpArgs false
open Go

namespace PG
theorem wo_sgn {w : List UInt8} (h : Wo w) : isSgn w = false := by
  cases hs : isSgn w with
  | false => rfl
  | true =>
    exfalso
    unfold isSgn at hs
    simp only [Bool.or_eq_true, beq_iff_eq] at hs
    rcases hs with (e | e) | e <;>
    · rw [e] at h
      exact absurd (h.2.2 _ List.mem_cons_self) (by decide)
theorem wo_close {w : List UInt8} (h : Wo w) : w ≠ [125] := fun e => by
  rw [e] at h
  exact absurd (h.2.2 _ List.mem_cons_self) (by decide)
/-- a line -/
theorem tell_line {C : List Ln} (hr : CF.RightC C = true) (B : List Ln) (hB : Sub C B) (l : Ln) (hl : l ∈ C) (op : Bool) (R : List (List UInt8)) : PT.tellP ⟨tokL l ++ R, l.head, l.name, op, B, false⟩ = PT.tellP ⟨R, l.head, l.name, op, CF.insC B l, false⟩ := by
  have hg := ((CF.RightC_iff C).1 hr).1 l hl
  obtain ⟨w1, w2, _⟩ := right_wo l hg
  obtain ⟨s1, s2⟩ := sub_set hr hB l hl
  refine PT.tellP_some _ _ (by unfold tokL; simp) ?_
  have e1 : PT.seesP (l.leaf :: (l.value :: [59] :: R)) [59] = true := by
    simp only [PT.seesP, wo_sgn w1, wo_sgn w2]
    rfl
  have e2 : PT.seesP (l.leaf :: (l.value :: [59] :: R)) [123] = false := by
    simp only [PT.seesP, wo_sgn w1, wo_sgn w2]
    rfl
  have e3 : ((findR l.head l.leaf).2 && rightR (findR l.head l.leaf).1 l.value) = true := by
    unfold CF.rightL at hg
    simp only [Bool.and_eq_true] at hg ⊢
    exact ⟨hg.1.1, hg.2⟩
  unfold PT.stepP
  show (if op = true ∧ l.leaf = [125] then _ else if op = false ∧ headW l.leaf ≠ 0 ∧ PT.seesP (l.leaf :: (l.value :: [59] :: R)) [123] = true then _ else if PT.seesP (l.leaf :: (l.value :: [59] :: R)) [59] = true then _ else _) = _
  rw [if_neg (fun k => wo_close w1 k.2), if_neg (fun k => by rw [e2] at k; exact absurd k.2.2 (by decide)), if_pos e1]
  show PT.setP ⟨l.leaf :: (l.value :: [59] :: R), l.head, l.name, op, B, false⟩ l.leaf l.value R = _
  unfold PT.setP
  rw [if_pos e3]
  have e4 : PT.fullP ⟨l.leaf :: (l.value :: [59] :: R), l.head, l.name, op, B, false⟩ l = false := by
    show (false || decide (CF.setE B l = 5)) = false
    rw [s1]
    rfl
  have e5 : PT.confP ⟨l.leaf :: (l.value :: [59] :: R), l.head, l.name, op, B, false⟩ l = CF.insC B l := by
    unfold PT.confP
    rw [e4]
    show (if CF.setE B l = 0 then CF.setC B l else B) = _
    rw [if_pos s1, s2]
  show some _ = _
  rw [show (⟨l.head, l.name, l.leaf, l.value⟩ : Ln) = l from rfl, e4, e5]
/-- lines of one head and name -/
theorem tell_lines {C : List Ln} (hr : CF.RightC C = true) (h : Int) (nm : List UInt8) (op : Bool) (L : List Ln) : ∀ (B : List Ln) (R : List (List UInt8)), Sub C B → (∀ l ∈ L, l ∈ C ∧ l.head = h ∧ l.name = nm) → PT.tellP ⟨L.flatMap tokL ++ R, h, nm, op, B, false⟩ = PT.tellP ⟨R, h, nm, op, L.foldl CF.insC B, false⟩ := by
  induction L with
  | nil => exact fun B R _ _ => rfl
  | cons l r ih =>
    intro B R hB hL
    obtain ⟨h1, h2, h3⟩ := hL l List.mem_cons_self
    rw [List.flatMap_cons, List.append_assoc]
    subst h2 h3
    rw [tell_line hr B hB l h1 op _]
    exact ih _ R (sub_ins hB l h1) fun x hx => hL x (List.mem_cons_of_mem _ hx)
/-- a block: its lines with the words about them -/
def tokK (h : Int) (nm : List UInt8) (L : List Ln) : List (List UInt8) := [hW h, nm, [123]] ++ L.flatMap tokL ++ [[125]]
theorem headW_hW (h : Int) (hh : h = 1 ∨ h = 2) : headW (hW h) = h := by
  rcases hh with e | e <;> rw [e] <;> decide
theorem tell_block {C : List Ln} (hr : CF.RightC C = true) (h : Int) (hh : h = 1 ∨ h = 2) (nm : List UInt8) (hn : namedR h nm = true) (hw : Wo nm) (L : List Ln) (B : List Ln) (R : List (List UInt8)) (hB : Sub C B) (hL : ∀ l ∈ L, l ∈ C ∧ l.head = h ∧ l.name = nm) : PT.tellP ⟨tokK h nm L ++ R, 0, [], false, B, false⟩ = PT.tellP ⟨R, 0, [], false, L.foldl CF.insC B, false⟩ := by
  have e0 : tokK h nm L ++ R = hW h :: (nm :: [123] :: (L.flatMap tokL ++ ([125] :: R))) := by
    unfold tokK
    simp only [List.append_assoc, List.cons_append, List.nil_append]
  have ww : isSgn (hW h) = false := by rcases hh with e | e <;> rw [e] <;> decide
  have e1 : PT.seesP (hW h :: (nm :: [123] :: (L.flatMap tokL ++ ([125] :: R)))) [123] = true := by
    simp only [PT.seesP, wo_sgn hw, ww]
    rfl
  rw [e0, PT.tellP_some _ ⟨L.flatMap tokL ++ ([125] :: R), h, nm, true, B, false⟩ (by simp) ?_]
  · rw [tell_lines hr h nm true L B _ hB hL]
    refine PT.tellP_some _ _ (by simp) ?_
    unfold PT.stepP
    show (if true = true ∧ ([125] : List UInt8) = [125] then _ else _) = _
    rw [if_pos ⟨rfl, rfl⟩]
  · unfold PT.stepP
    show (if false = true ∧ hW h = [125] then _ else if false = false ∧ headW (hW h) ≠ 0 ∧ PT.seesP (hW h :: (nm :: [123] :: (L.flatMap tokL ++ ([125] :: R)))) [123] = true then _ else _) = _
    rw [if_neg (fun k => by simp at k), if_pos ⟨rfl, by rw [headW_hW h hh]; omega, e1⟩]
    show PT.beginP ⟨hW h :: (nm :: [123] :: (L.flatMap tokL ++ ([125] :: R))), 0, [], false, B, false⟩ (hW h) nm (L.flatMap tokL ++ ([125] :: R)) = _
    unfold PT.beginP
    rw [headW_hW h hh, if_pos hn]
/-- blocks and top lines, told one by one: pieces -/
structure Pc where
  h : Int
  nm : List UInt8
  L : List Ln
def tokP (p : Pc) : List (List UInt8) := if p.h = 0 then p.L.flatMap tokL else tokK p.h p.nm p.L
def OkP (C : List Ln) (p : Pc) : Prop := (∀ l ∈ p.L, l ∈ C ∧ l.head = p.h ∧ l.name = p.nm) ∧ (p.h = 0 → p.nm = []) ∧ (p.h ≠ 0 → (p.h = 1 ∨ p.h = 2) ∧ namedR p.h p.nm = true ∧ Wo p.nm)
theorem tell_pieces {C : List Ln} (hr : CF.RightC C = true) (P : List Pc) : ∀ (B : List Ln), Sub C B → (∀ p ∈ P, OkP C p) → PT.tellP ⟨P.flatMap tokP, 0, [], false, B, false⟩ = ((P.flatMap Pc.L).foldl CF.insC B, 0) := by
  induction P with
  | nil =>
    intro B _ _
    rw [PT.tellP_nil _ rfl]
    rfl
  | cons p r ih =>
    intro B hB hP
    obtain ⟨k1, k2, k3⟩ := hP p List.mem_cons_self
    rw [List.flatMap_cons, List.flatMap_cons, List.foldl_append]
    have hs : Sub C (p.L.foldl CF.insC B) := sub_fold p.L B hB fun l hl => (k1 l hl).1
    rw [← ih _ hs fun q hq => hP q (List.mem_cons_of_mem _ hq)]
    unfold tokP
    by_cases h0 : p.h = 0
    · rw [if_pos h0]
      rw [k2 h0, h0] at k1
      exact tell_lines hr 0 [] false p.L B _ hB k1
    · rw [if_neg h0]
      obtain ⟨a1, a2, a3⟩ := k3 h0
      exact tell_block hr p.h a1 p.nm a2 a3 p.L B _ hB k1
/-- all pieces of a configuration, in any order -/
theorem tell_all {C : List Ln} (hr : CF.RightC C = true) (P : List Pc) (h1 : ∀ p ∈ P, OkP C p) (h2 : ∀ l ∈ C, ∃ p ∈ P, l ∈ p.L) : PT.tellP ⟨P.flatMap tokP, 0, [], false, [], false⟩ = (C, 0) := by
  rw [tell_pieces hr P [] (sub_nil C) h1, fold_all hr _ (fun l hl => ?_) (fun l hl => ?_)]
  · obtain ⟨p, hp, hlp⟩ := List.mem_flatMap.1 hl
    exact ((h1 p hp).1 l hlp).1
  · obtain ⟨p, hp, hlp⟩ := h2 l hl
    exact List.mem_flatMap.2 ⟨p, hp, hlp⟩
end PG
end Go.Proofs.YtecfkhgocjbocaaGreatDoor
namespace Go.Proofs.YtecfkhgocjbocaaGreatDoor
set_option linter.unusedVariables false
set_option linter.unusedSimpArgs false
open Go

namespace PG
theorem flat_if (C : List Ln) (p : Ln → Prop) [DecidablePred p] : (C.flatMap fun l => if p l then tokL l else []) = (C.filter fun l => decide (p l)).flatMap tokL := by
  induction C with
  | nil => rfl
  | cons x r ih =>
    rw [List.flatMap_cons, ih, List.filter_cons]
    by_cases e : p x
    · rw [if_pos e, if_pos (decide_eq_true e), List.flatMap_cons]
    · rw [if_neg e, if_neg (by simpa using e)]; rfl
def pcB (C : List Ln) (h : Int) (nm : List UInt8) : Pc := ⟨h, nm, C.filter fun l => decide (l.head = h ∧ l.name = nm)⟩
def pcs (C : List Ln) : List Pc := ⟨0, [], C.filter fun l => decide (l.head = 0)⟩ :: ((CF.namC C 1).map (pcB C 1) ++ (CF.namC C 2).map (pcB C 2))
theorem tokB_pc (C : List Ln) (h : Int) (h0 : h ≠ 0) (N : List (List UInt8)) : N.flatMap (tokB C h) = (N.map (pcB C h)).flatMap tokP := by
  rw [List.flatMap_map]
  congr 1
  funext nm
  show _ = tokP (pcB C h nm)
  unfold tokP
  rw [if_neg (show (pcB C h nm).h ≠ 0 from h0)]
  unfold tokB tokK
  rw [flat_if]
  rfl
theorem tokC_pcs (C : List Ln) : tokC C = (pcs C).flatMap tokP := by
  unfold tokC pcs
  rw [List.flatMap_cons, List.flatMap_append, ← tokB_pc C 1 (by decide), ← tokB_pc C 2 (by decide), flat_if]
  rfl
theorem right_name (l : Ln) (h : CF.rightL l = true) : namedR l.head l.name = true := by
  unfold CF.rightL at h
  simp only [Bool.and_eq_true] at h
  exact h.1.2
theorem pcs_ok (C : List Ln) (hr : CF.RightC C = true) (p : Pc) (hp : p ∈ pcs C) : OkP C p := by
  have hg := ((CF.RightC_iff C).1 hr).1
  have hb : ∀ h : Int, (h = 1 ∨ h = 2) → p ∈ (CF.namC C h).map (pcB C h) → OkP C p := fun h hh hp => by
    obtain ⟨nm, hn, rfl⟩ := List.mem_map.1 hp
    obtain ⟨l, hl, e1, e2⟩ := CF.namC_mem C h nm hn
    refine ⟨fun x hx => ?_, fun e => ?_, fun _ => ⟨hh, ?_, ?_⟩⟩
    · have h2 := List.mem_filter.1 hx
      exact ⟨h2.1, (of_decide_eq_true h2.2).1, (of_decide_eq_true h2.2).2⟩
    · exfalso
      have : h = 0 := e
      omega
    · have := right_name l (hg l hl)
      rw [e1, e2] at this
      exact this
    · have := (right_wo l (hg l hl)).2.2 (by rw [e1]; omega)
      rw [e2] at this
      exact this
  rcases List.mem_cons.1 hp with e | hp
  · subst e
    refine ⟨fun x hx => ?_, fun _ => rfl, fun e => absurd rfl e⟩
    have h2 := List.mem_filter.1 hx
    have e0 := of_decide_eq_true h2.2
    refine ⟨h2.1, e0, ?_⟩
    have := right_name x (hg x h2.1)
    unfold namedR at this
    rw [if_pos e0] at this
    exact of_decide_eq_true this
  · rcases List.mem_append.1 hp with hp | hp
    · exact hb 1 (.inl rfl) hp
    · exact hb 2 (.inr rfl) hp
theorem nam_fold (h : Int) (L : List Ln) : ∀ (out : List (List UInt8)) (x : List UInt8), (x ∈ out ∨ ∃ l ∈ L, l.head = h ∧ l.name = x) → x ∈ L.foldl (CF.nameStep h) out := by
  induction L with
  | nil => exact fun out x hx => hx.elim id fun ⟨l, hl, _⟩ => absurd hl (by simp)
  | cons y r ih =>
    intro out x hx
    refine ih _ x ?_
    have keep : ∀ z, z ∈ out → z ∈ CF.nameStep h out y := fun z hz => by
      unfold CF.nameStep
      split
      · exact List.mem_append_left _ hz
      · exact hz
    rcases hx with hx | ⟨l, hl, e1, e2⟩
    · exact .inl (keep x hx)
    · rcases List.mem_cons.1 hl with e | hl
      · subst e
        refine .inl ?_
        unfold CF.nameStep
        split
        · rw [← e2]; exact List.mem_append_right _ (List.mem_singleton.2 rfl)
        · rename_i hn
          have h1 : out ≠ [] := fun e => hn ⟨e1, .inl e⟩
          have h2 : out.getLastD [] = l.name := Classical.byContradiction fun k => hn ⟨e1, .inr k⟩
          rw [← e2, ← h2]
          cases out with
          | nil => exact absurd rfl h1
          | cons a t =>
            rw [List.getLastD_cons, ← List.getLast_eq_getLastD]
            · exact List.getLast_mem _
            · simp
      · exact .inr ⟨l, hl, e1, e2⟩
theorem mem_nam (C : List Ln) (hr : CF.RightC C = true) (h : Int) (h0 : h ≠ 0) (l : Ln) (hl : l ∈ C) (e : l.head = h) : l.name ∈ CF.namC C h := by
  unfold CF.namC
  rw [if_pos ⟨hr, h0⟩]
  exact nam_fold h C [] _ (.inr ⟨l, hl, e, rfl⟩)
theorem pcs_all (C : List Ln) (hr : CF.RightC C = true) (l : Ln) (hl : l ∈ C) : ∃ p ∈ pcs C, l ∈ p.L := by
  have hg := ((CF.RightC_iff C).1 hr).1 l hl
  have hb : ∀ h : Int, h ≠ 0 → l.head = h → ∃ p ∈ (CF.namC C h).map (pcB C h), l ∈ p.L := fun h h0 e =>
    ⟨pcB C h l.name, List.mem_map.2 ⟨l.name, mem_nam C hr h h0 l hl e, rfl⟩, List.mem_filter.2 ⟨hl, decide_eq_true ⟨e, rfl⟩⟩⟩
  have hd : l.head = 0 ∨ l.head = 1 ∨ l.head = 2 := by
    have := right_name l hg
    unfold namedR at this
    split at this
    · rename_i e; exact .inl e
    · split at this
      · rename_i e; exact .inr (.inl e)
      · split at this
        · rename_i e; exact .inr (.inr e)
        · cases this
  unfold pcs
  rcases hd with e | e | e
  · exact ⟨_, List.mem_cons_self, List.mem_filter.2 ⟨hl, decide_eq_true e⟩⟩
  · obtain ⟨p, hp, h⟩ := hb 1 (by decide) e
    exact ⟨p, List.mem_cons_of_mem _ (List.mem_append_left _ hp), h⟩
  · obtain ⟨p, hp, h⟩ := hb 2 (by decide) e
    exact ⟨p, List.mem_cons_of_mem _ (List.mem_append_right _ hp), h⟩
/-- a configuration's text, read again -/
theorem text_again (C : List Ln) (hr : CF.RightC C = true) : PT.textP (CF.textC C) = (C, 0) := by
  obtain ⟨q, e⟩ := run_textC C hr
  unfold PT.textP
  rw [e, if_pos rfl, tokC_pcs]
  exact tell_all hr (pcs C) (pcs_ok C hr) (pcs_all C hr)
/-- a line of a configuration, alone -/
theorem right_one {C : List Ln} (hr : CF.RightC C = true) (l : Ln) (hl : l ∈ C) : CF.RightC [l] = true := by
  obtain ⟨h1, _, _⟩ := (CF.RightC_iff C).1 hr
  refine (CF.RightC_iff [l]).2 ⟨fun x hx => ?_, ?_, by simp⟩
  · rw [List.mem_singleton.1 hx]; exact h1 l hl
  · rw [CF.srt_cons]; exact ⟨by simp, fun i j _ h => by simp at h⟩
/-- the texts of its lines, each alone, in any order -/
theorem text_other (C : List Ln) (hr : CF.RightC C = true) (L : List Ln) (h1 : ∀ l ∈ L, l ∈ C) (h2 : ∀ l ∈ C, l ∈ L) : PT.textP (L.flatMap fun x => CF.textC [x]) = (C, 0) := by
  have hg := ((CF.RightC_iff C).1 hr).1
  obtain ⟨q, e⟩ := tk_run (tk_flat L (fun x => tokC [x]) (fun x => CF.textC [x]) fun x hx => tk_text [x] (right_one hr x (h1 x hx)) fun l hl => by
    rw [List.mem_singleton.1 hl]; exact right_wd x (hg x (h1 x hx)))
  unfold PT.textP
  rw [e, if_pos rfl]
  have e2 : (L.flatMap fun x => tokC [x]) = (L.flatMap fun x => pcs [x]).flatMap tokP := by
    rw [List.flatMap_assoc]
    congr 1
    funext x
    exact tokC_pcs [x]
  show PT.tellP ⟨L.flatMap fun x => tokC [x], 0, [], false, [], false⟩ = _
  rw [e2]
  refine tell_all hr _ (fun p hp => ?_) fun l hl => ?_
  · obtain ⟨x, hx, hp⟩ := List.mem_flatMap.1 hp
    obtain ⟨a, b, c⟩ := pcs_ok [x] (right_one hr x (h1 x hx)) p hp
    refine ⟨fun l hl => ?_, b, c⟩
    obtain ⟨k1, k2⟩ := a l hl
    rw [List.mem_singleton.1 k1] at k2 ⊢
    exact ⟨h1 x hx, k2⟩
  · obtain ⟨p, hp, h⟩ := pcs_all [l] (right_one hr l hl) l (List.mem_singleton.2 rfl)
    exact ⟨p, List.mem_flatMap.2 ⟨l, h2 l hl, hp⟩, h⟩
end PG
end Go.Proofs.YtecfkhgocjbocaaGreatDoor
namespace Go.Proofs.YtecfkhgocjbocaaGreatDoor
set_option linter.unusedVariables false
set_option linter.unusedSimpArgs false
open Go

namespace PG
theorem line_short (l : Ln) (h : CF.rightL l = true) : (CF.lineX l).length ≤ 70 ∧ (CF.lineB l).length ≤ 70 := by
  obtain ⟨h1, h2, _⟩ := right_wo l h
  have := h1.2.1
  have := h2.2.1
  unfold CF.lineX CF.lineB
  simp only [List.length_append, List.length_cons, List.length_nil]
  omega
theorem block_short (C : List Ln) (hr : CF.RightC C = true) (h : Int) (h0 : h ≠ 0) (nm : List UInt8) (hn : nm ∈ CF.namC C h) : (CF.blockT C h nm).length ≤ C.length * 70 + 60 := by
  have hg := ((CF.RightC_iff C).1 hr).1
  obtain ⟨l, hl, e1, e2⟩ := CF.namC_mem C h nm hn
  have hw := (right_wo l (hg l hl)).2.2 (by rw [e1]; exact h0)
  rw [e2] at hw
  have := hw.2.1
  have hwl : (CF.wordT h).length ≤ 10 := by unfold CF.wordT; split <;> simp
  have hb : (CF.bodyB C h nm).length ≤ C.length * 70 := CF.flat_len C _ _ fun x hx => by
    split
    · exact (line_short x (hg x hx)).2
    · simp
  unfold CF.blockT CF.headB
  simp only [List.length_append, List.length_cons, List.length_nil]
  omega
theorem text_short (C : List Ln) (hr : CF.RightC C = true) : (CF.textC C).length ≤ C.length * 70 + 128 * (C.length * 70 + 60) := by
  have hg := ((CF.RightC_iff C).1 hr).1
  have ht : (CF.topT C).length ≤ C.length * 70 := CF.flat_len C _ _ fun x hx => by
    split
    · exact (line_short x (hg x hx)).1
    · simp
  have hb : ∀ h : Int, h ≠ 0 → ((CF.namC C h).flatMap (CF.blockT C h)).length ≤ 64 * (C.length * 70 + 60) := fun h h0 => by
    have h1 := CF.flat_len (CF.namC C h) (CF.blockT C h) (C.length * 70 + 60) fun x hx => block_short C hr h h0 x hx
    have h2 := CF.namC_len C h hr
    exact Nat.le_trans h1 (Nat.mul_le_mul_right _ h2)
  have h1 := hb 1 (by decide)
  have h2 := hb 2 (by decide)
  unfold CF.textC
  rw [if_pos hr]
  simp only [List.length_append]
  omega
theorem fits_num (a n : Nat) (h1 : a ≤ n * 70 + 128 * (n * 70 + 60)) (h2 : n ≤ 64) : a ≤ 2000000 := by
  have h3 : n * 70 ≤ 64 * 70 := Nat.mul_le_mul_right _ h2
  exact Nat.le_trans h1 (Nat.le_trans (Nat.add_le_add h3 (Nat.mul_le_mul_left 128 (Nat.add_le_add_right h3 60))) (Nat.le_of_ble_eq_true rfl))
theorem text_fits (C : List Ln) (hr : CF.RightC C = true) : (CF.textC C).length ≤ 2000000 := by
  have h1 := text_short C hr
  have h2 := ((CF.RightC_iff C).1 hr).2.2
  exact fits_num _ _ h1 h2
theorem other_fits (C : List Ln) (hr : CF.RightC C = true) (L : List Ln) (h1 : ∀ l ∈ L, l ∈ C) (hL : L.length ≤ 64) : (L.flatMap fun x => CF.textC [x]).length ≤ 2000000 := by
  have h0 : ∀ x ∈ L, (CF.textC [x]).length ≤ 17000 := fun x hx => by
    have h3 := text_short [x] (right_one hr x (h1 x hx))
    rw [show ([x] : List Ln).length = 1 from rfl] at h3
    exact Nat.le_trans h3 (by omega)
  have h2 : (L.flatMap fun x => CF.textC [x]).length ≤ L.length * 17000 := CF.flat_len L (fun x => CF.textC [x]) 17000 h0
  generalize (L.flatMap fun x => CF.textC [x]).length = n at *
  omega
/-- the lines from a place on, round about -/
def rotP (C : List Ln) (t i : Nat) : List Ln := (List.range i).map fun j => CF.lnAt C ((j + t) % C.length)
theorem rotP_len (C : List Ln) (t i : Nat) : (rotP C t i).length = i := by unfold rotP; simp
theorem rotP_succ (C : List Ln) (t i : Nat) : rotP C t (i + 1) = rotP C t i ++ [CF.lnAt C ((i + t) % C.length)] := by
  unfold rotP
  rw [List.range_succ, List.map_append]
  rfl
theorem rotP_mem (C : List Ln) (t i : Nat) (hi : i ≤ C.length) (l : Ln) (h : l ∈ rotP C t i) : l ∈ C := by
  unfold rotP at h
  obtain ⟨j, hj, rfl⟩ := List.mem_map.1 h
  have hj := List.mem_range.1 hj
  have hlt : (j + t) % C.length < C.length := Nat.mod_lt _ (by omega)
  rw [CF.lnAt_get C _ hlt]
  exact List.getElem_mem hlt
theorem rotP_all (C : List Ln) (t : Nat) (l : Ln) (h : l ∈ C) : l ∈ rotP C t C.length := by
  obtain ⟨k, hk, rfl⟩ := List.getElem_of_mem h
  have hlt : t % C.length < C.length := Nat.mod_lt _ (by omega)
  refine List.mem_map.2 ⟨(k + (C.length - t % C.length)) % C.length, List.mem_range.2 (Nat.mod_lt _ (by omega)), ?_⟩
  have e : ((k + (C.length - t % C.length)) % C.length + t) % C.length = k := by
    have ht := Nat.div_add_mod t C.length
    have e1 : k + (C.length - t % C.length) + t = k + C.length * (t / C.length + 1) := by
      rw [Nat.mul_add, Nat.mul_one]
      generalize C.length * (t / C.length) = x at *
      omega
    rw [Nat.mod_add_mod, e1, Nat.add_mul_mod_self_left, Nat.mod_eq_of_lt hk]
  show CF.lnAt C _ = _
  rw [e, CF.lnAt_get C k hk]
end PG
end Go.Proofs.YtecfkhgocjbocaaGreatDoor
namespace Go.Proofs.YtecfkhgocjbocaaGreatDoor
set_option linter.unusedVariables false
set_option linter.unusedSimpArgs false
open Go Go.RowKit

namespace PG
open PT
set_option maxRecDepth 100000 in
set_option maxHeartbeats 1600000 in
theorem parseAgain_walk (L : List Ln) (A : Option Addr) (n c : Nat) (x1 : Int) (w : World) (h : Sl w 4 (.slice A n c) (CF.LNS L)) (hL : ∀ l ∈ L, CF.LnOk l) (hen : Env w) :
    Calls Tryz.prog 12 #[.slice A n c, .int .i64 x1] w fun e w' => e = .returned (.bool true) ∧ Below w.heap.size w w' := by
  have HEN : Hid (∀ w', Below w.heap.size w w' → Env w') := fun w' hb => hen.below hb
  have HBD := hid (CF.build_any L A n c w h hL hen)
  have HBL := hid (CF.build_lnb L)
  have HBR : Hid (CF.RightC (CF.buildC L) = true) := CF.build_right L 100
  clear h hL hen
  generalize CF.buildC L = B at *
  have HBO : Hid (∀ x ∈ B, CF.LnOk x) := fun x hx => CF.lnb_ok (HBL.out x hx)
  have HB64 : Hid (B.length ≤ 64) := CF.right_len HBR.out
  have HTF : Hid ((CF.textC B).length ≤ 2000000) := text_fits B HBR.out
  have HTA : Hid (PT.textP (CF.textC B) = (B, 0)) := text_again B HBR.out
  clear HBL
  go_enter Tryz.func12, Tryz.ntmps12
  go_upto_region 1 with fail
  go_wp2_with fail
  refine HBD.out.mono ?_
  rintro e w1 ⟨⟨A1, c1, rfl, hs1⟩, hb1⟩
  have HTX := hid (CF.refText_any B A1 B.length c1 w1 hs1 HBO.out (HEN.out w1 hb1))
  have HSB := hid hs1
  clear HBD hs1
  go_wp2_with fail
  refine HTX.out.mono ?_
  rintro e w2 ⟨rfl, hb2⟩
  have hbw2 := hb1.trans (hb2.mono hb1.size)
  have HSB2 := hid (HSB.out.below hb2)
  have HP1 : Hid (Calls Tryz.prog 47 #[.string (S8 (CF.textC B))] w2 fun e w'' => CF.ConfPost B 0 e w'' ∧ Below w2.heap.size w2 w'') := by
    have := parseText_any (S8 (CF.textC B)) w2 (by rw [← bl_len, bl_S8]; exact HTF.out) (HEN.out w2 hbw2)
    rw [bl_S8, HTA.out] at this
    exact this
  clear HTX HSB hb2 hb1 HTA HTF
  go_wp2_with fail
  refine HP1.out.mono ?_
  rintro e w3 ⟨⟨A3, c3, rfl, hs3⟩, hb3⟩
  have hbw3 := hbw2.trans (hb3.mono hbw2.size)
  have HSB3 := hid (HSB2.out.below hb3)
  have HS3 := hid hs3
  clear HP1 HSB2 hs3 hb3
  go_wp2_with fail
  obtain ⟨t, ht, ht64⟩ : ∃ t : Nat, IntKind.u64.wrap x1 % 64 = (t : Int) ∧ t < 64 := ⟨(IntKind.u64.wrap x1 % 64).toNat, by omega, by omega⟩
  go_loopw [9, 10] (fun o i wr => ∃ k : Nat, k ≤ B.length ∧ i = .int .i64 k ∧ o = .string (S8 ((rotP B t k).flatMap fun x => CF.textC [x])) ∧ Below w.heap.size w wr ∧ Below w3.heap.size w3 wr) (fun _ i _ => B.length - (intOf i).toNat)
  case atStart => exact ⟨0, Nat.zero_le _, rfl, rfl, hbw3, Below.refl _ _⟩
  case round =>
    obtain ⟨k, hk, rfl, rfl, hbr, hb3r⟩ := hrel
    by_cases hlt : k < B.length
    · go_upto_region 8 with fail
      have htm : (IntKind.u64.wrap x1).tmod 64 = (t : Int) := by rw [← ht]; exact Int.tmod_eq_emod_of_nonneg (by rw [IntKind.wrap_u64]; omega)
      have hn64 := HB64.out
      have hix : (wrap64 ((k : Int) + wrap64 (t : Int))).tmod (B.length : Int) = (((k + t) % B.length : Nat) : Int) := by
        rw [show wrap64 (t : Int) = t by unfold wrap64; omega, show wrap64 ((k : Int) + t) = ((k + t : Nat) : Int) by unfold wrap64; omega, Int.tmod_eq_emod_of_nonneg (by omega)]
        rfl
      have hm : (k + t) % B.length < B.length := Nat.mod_lt _ (by omega)
      obtain ⟨b, off, rfl, hbl, hcl⟩ := CF.sl_ln HSB3.out (show (k + t) % B.length < B.length from Nat.mod_lt _ (by omega))
      have hcr := CF.range_below hcl hbl hb3r
      have em : ((k : Int) + (t : Int)) % (B.length : Int) = (((k + t) % B.length : Nat) : Int) := rfl
      have HRS : Hid ((rotP B t (k + 1)).flatMap (fun x => CF.textC [x]) = (rotP B t k).flatMap (fun x => CF.textC [x]) ++ CF.textC [CF.lnAt B ((k + t) % B.length)]) := by
        show _ = _
        rw [rotP_succ, List.flatMap_append, List.flatMap_cons, List.flatMap_nil, List.append_nil]
      have hRB : ((rotP B t (k + 1)).flatMap fun x => CF.textC [x]).length ≤ 2000000 := other_fits B HBR.out _ (fun l hl => rotP_mem B t (k + 1) (by omega) l hl) (by rw [rotP_len]; have := HB64.out; omega)
      rw [HRS.out, List.length_append] at hRB
      generalize (k + t) % B.length = m at *
      have hlm : CF.LnOk (CF.lnAt B m) := HBO.out _ (by rw [CF.lnAt_get B m hm]; exact List.getElem_mem hm)
      generalize CF.lnAt B m = l at *
      have HRS2 := hid HRS.out
      clear HRS
      obtain ⟨R, hR⟩ : ∃ R, R = (rotP B t k).flatMap fun x => CF.textC [x] := ⟨_, rfl⟩
      rw [← hR] at HRS2 hRB ⊢
      clear hR
      obtain ⟨hb2, hg2, hl2⟩ := box1 wr (.cells (lnV l) 48)
      obtain ⟨hb3, hg3, hl3⟩ := box1 (wr.alloc (.cells (lnV l) 48)) (.cells (lnV l) 48)
      have hbw2 := hbr.trans (hb2.mono hbr.size)
      have hbw3 := hbw2.trans (hb3.mono hbw2.size)
      have h3w2 := hb3r.trans (hb2.mono hb3r.size)
      have h3w3 := h3w2.trans (hb3.mono h3w2.size)
      have HRT := hid (CF.refText_any [l] _ 1 1 _ (CF.sl_blkT hg3) (by intro x hx; rw [List.mem_singleton.1 hx]; exact hlm) (HEN.out _ hbw3))
      have hsz : (wr.alloc (.cells (lnV l) 48)).heap.size = wr.heap.size + 1 := by simp
      rw [hsz] at HRT
      clear hsz
      obtain ⟨Y, hY⟩ : ∃ Y, Y = R ++ CF.textC [l] := ⟨_, rfl⟩
      have hRl := hRB
      have a1 := fun w' : World => cat8 (w := w') R (CF.textC [l]) Y hY (by omega)
      rw [← hY] at HRS2
      clear hY hRB hRl hlm
      generalize CF.textC [l] = T at *
      go_upto_region 8 with fail
      go_wp2_with (first | refine wpList_load_mid rfl 48 (.tmp 39) rfl b (off + m * 4) rfl (lnC l) _ hcr Tryz.underlying48 rfl CF.k4 ?_ | refine wpList_store_last rfl 48 (.tmp 11) (.tmp 40) rfl (lnV l) rfl rfl CF.k4 rfl (lnV_one _) ?_ | refine wpList_load_row rfl 48 (.tmp 11) rfl wr.heap.size rfl 48 (lnV l) (0, 0) _ hg2 Tryz.underlying48 rfl CF.k4 ?_ | refine wpList_build1 rfl CF.st_rls (.tmp 42) rfl (lnV l) rfl rfl (by omega) (by omega) ?_)
      refine HRT.out.mono ?_
      rintro e w4 ⟨rfl, hb4⟩
      have hbw4 := hbw3.trans (hb4.mono hbw3.size)
      have h3w4 := h3w3.trans (hb4.mono h3w3.size)
      clear HRT hb2 hb3 hg2 hg3 hl2 hl3 hb4 hbw2 hbw3 h3w2 h3w3 hcr hcl hbl em
      go_wp2_with fail
      go_light
      exact ⟨⟨k + 1, by omega, by go_num, by rw [HRS2.out], hbw4, h3w4⟩, by simp [intOf]; omega⟩
    · obtain rfl : k = B.length := by omega
      have HP2 := parseText_any (S8 ((rotP B t B.length).flatMap fun x => CF.textC [x])) wr (by rw [← bl_len, bl_S8]; exact other_fits B HBR.out _ (fun l hl => rotP_mem B t B.length hk l hl) (by rw [rotP_len]; exact HB64.out)) (HEN.out wr hbr)
      rw [bl_S8, text_other B HBR.out _ (fun l hl => rotP_mem B t B.length hk l hl) (fun l hl => rotP_all B t l hl)] at HP2
      replace HP2 : Hid (Calls Tryz.prog 47 #[.string (S8 ((rotP B t B.length).flatMap fun x => CF.textC [x]))] wr fun e w'' => CF.ConfPost B 0 e w'' ∧ Below wr.heap.size wr w'') := HP2
      have HSr := hid (HSB3.out.below hb3r)
      have HS3r := hid (HS3.out.below hb3r)
      clear HSB3 HS3 hb3r
      go_wp2_with fail
      refine HP2.out.mono ?_
      rintro e w4 ⟨⟨A4, c4, rfl, hs4⟩, hb4⟩
      have hbw4 := hbr.trans (hb4.mono hbr.size)
      have HSB4 := hid (HSr.out.below hb4)
      have HS34 := hid (HS3r.out.below hb4)
      have HS4 := hid hs4
      have HRL := hid (readsLaw_any w4 (HEN.out w4 hbw4))
      clear HP2 HSr HS3r hs4 hb4
      go_wp2_with fail
      refine HRL.out.mono ?_
      rintro e w5 ⟨rfl, hb5⟩
      have hbw5 := hbw4.trans (hb5.mono hbw4.size)
      have hn64 := HB64.out
      have HF := hid (CF.from_any B A3 B.length c3 w5 (HS34.out.below hb5) (by omega))
      have HSB5 := hid (HSB4.out.below hb5)
      have HS45 := hid (HS4.out.below hb5)
      have qe : ((0 : Int) == 0) = true := rfl
      clear HRL HS34 HSB4 HS4 hb5 hn64 hbw4
      go_wp2_with fail
      refine HF.out.mono ?_
      rintro e w6 ⟨A6, c6, rfl, ho6, hb6⟩
      have hbw6 := hbw5.trans (hb6.mono hbw5.size)
      have HSB6 := hid (HSB5.out.below hb6)
      have HS46 := hid (HS45.out.below hb6)
      have HSM := CF.refSame_any B B A6 A1 B.length c6 B.length c1 w6 (own_sl ho6) HSB6.out
      rw [CF.sameC_refl] at HSM
      replace HSM := hid HSM
      clear HF HSB5 HS45 hb6 hbw5 ho6
      go_wp2_with fail
      refine HSM.out.mono ?_
      rintro e w7 ⟨rfl, hb7⟩
      have hbw7 := hbw6.trans (hb7.mono hbw6.size)
      have HF2 := hid (CF.from_any B A4 B.length c4 w7 (HS46.out.below hb7) (by have := HB64.out; omega))
      have HSB7 := hid (HSB6.out.below hb7)
      clear HSM HSB6 HS46 hb7 hbw6
      go_wp2_with fail
      refine HF2.out.mono ?_
      rintro e w8 ⟨A8, c8, rfl, ho8, hb8⟩
      have hbw8 := hbw7.trans (hb8.mono hbw7.size)
      have HSM2 := CF.refSame_any B B A8 A1 B.length c8 B.length c1 w8 (own_sl ho8) (HSB7.out.below hb8)
      rw [CF.sameC_refl] at HSM2
      replace HSM2 := hid HSM2
      clear HF2 HSB7 hb8 hbw7 ho8
      go_wp2_with fail
      refine HSM2.out.mono ?_
      rintro e w9 ⟨rfl, hb9⟩
      have hbw9 := hbw8.trans (hb9.mono hbw8.size)
      clear HSM2 hb9 hbw8
      go_wp2_with fail
      go_ret
      exact ⟨rfl, hbw9⟩
end PG
end Go.Proofs.YtecfkhgocjbocaaGreatDoor
namespace Go.Proofs.YtecfkhgocjbocaaGreatDoor.parseAgain
open Go.ChangeShapes Go.WideShapes Go.ChangeAt Go.RowKit
open Go.ChangeMaps (open_string shut_string)
set_option linter.unusedVariables false

theorem own : ownKnob Tryz.prog.godebug = none := by kernel_rfl
theorem laidOut : laidOutB Tryz.prog = true := by kernel_rfl
theorem one_laid : Rows.parseAgainUptoRow.laid.filter (fun x => x.1 == "internal/strconv.uint64pow10") = [("internal/strconv.uint64pow10", Lib.tabData .u64 Lib.pow10Tab)] := by kernel_rfl
theorem tab_of {W : World} (hL : laidMetH Tryz.prog Rows.parseAgainUptoRow.laid W) : Lib.TabIs Tryz.prog W "internal/strconv.uint64pow10" .u64 Lib.pow10Tab := by
  have h1 := laidMetH.filter (fun x => x.1 == "internal/strconv.uint64pow10") hL
  rw [one_laid, MakeChecks.laidMetH_plain _ _ _ (by kernel_rfl)] at h1
  exact Lib.tabIs_of_head (g := (Tryz.prog.globalNamed "internal/strconv.uint64pow10").getD 0) (t := 230) (e := 30) (n := 20) (by kernel_rfl) (by kernel_rfl) Tryz.underlying230 Tryz.underlying30 (by kernel_rfl) (by kernel_rfl) h1
theorem reads (os : Os) {H : Type} (enc : TypeId × Value → H) : ∃ places, DataW.whole enc Tryz.prog ((World.laidAll Tryz.prog os Rows.parseAgainUptoRow.laid).forCall (fun _ _ => 0) ⟨#[], #[.slice none 0 0, .int .i64 0], []⟩).memory Tryz.f12.params.toList Rows.parseAgainSpec.vars false #[.slice none 0 0, .int .i64 0].toList 8 = some ([.nil, .lit (.int .i64 0)], [], places) :=
  ⟨[], by kernel_rfl⟩
theorem witness_laid {H : Type} {enc : TypeId × Value → H} {C : Checked} {os : Os} {f : FuncId} {fn : Func} {s : OpenSpec} {conds : List PathCond} {apart : Bool} {laid : List (String × DataW Unit)} (w0 : World) (args : Array Value) (hos : w0.os = os)
    (hsh : (w0.forCall (fun _ _ => 0) ⟨#[], args, []⟩).Shaped C.prog)
    (hok : Input.okWideB C.prog (w0.forCall (fun _ _ => 0) ⟨#[], args, []⟩) f ⟨#[], args, []⟩ = true)
    (hrow : s.preRow enc C.prog fn conds apart laid (w0.forCall (fun _ _ => 0) ⟨#[], args, []⟩).memory args) :
    ∃ (w : World) (tape : Tape) (i : Input), w.os = os ∧ (w.forCall tape i).Shaped C.prog ∧ i.vars = [] ∧ Input.okWide C.prog (w.forCall tape i) .any w.heap.size f i ∧
      s.preRow enc C.prog fn conds apart laid (w.forCall tape i).memory i.args ∧ ({} : Assume).holds C.prog (lone (Frame.enter C.prog f i.args .normal) [] (w.forCall tape i)) :=
  ⟨w0, fun _ _ => 0, ⟨#[], args, []⟩, hos, hsh, (Input.okWide_of_okWideB (base := 0) hok).1, (Input.okWide_of_okWideB hok).2, hrow, by
    simp only [Assume.holds]
    exact ⟨by simp, by simp, fun _ => Modest.zero, by simp, by simp⟩⟩
set_option maxRecDepth 100000 in
theorem lifted (os : Os) (started : os.Started) (H : Type) (enc : TypeId × Value → H) (F : Stop.Interp) :
    ReturnsInHanded {} Tryz.checked os 12 .any ((Rows.OpenSpec.upto Rows.parseAgainSpec).preRow enc Tryz.prog Tryz.f12 Rows.parseAgainUptoRow.domain false Rows.parseAgainUptoRow.laid) (((Rows.OpenSpec.upto Rows.parseAgainSpec).at F).post enc Tryz.prog Tryz.f12 false true false false) := by
  obtain ⟨places, hx⟩ := reads os enc
  refine returnsInHanded_of_row (C := Tryz.checked) (s := Rows.OpenSpec.upto Rows.parseAgainSpec) own started (by kernel_rfl) Tryz.func12
    (witness_laid (World.laidAll Tryz.prog os Rows.parseAgainUptoRow.laid) #[.slice none 0 0, .int .i64 0] (World.laidAll_os _ _ _)
      (World.shaped_of_ZipB (by kernel_rfl) (by kernel_rfl)) (by kernel_rfl)
      (OpenSpec.preRow_of_cond 8 hx (by kernel_rfl) (fun k hk => by cases hk; kernel_rfl) (by kernel_rfl) (by rw [MakeChecks.laidMetH_plain _ _ _ (by kernel_rfl)]; exact laidMet_laidAll _ (by kernel_rfl) (by kernel_rfl)))) ?_
  clear hx
  intro W base args ds gs before hval0 hW _ hcond hsz0 hL hsh _
  have hval : ∀ (j : Nat) t v, Tryz.f12.params[j]? = some t → args[j]? = some v → Value.okWide Tryz.prog W .any base t v := hval0
  have hen : Env W := ⟨hsh, tab_of hL⟩
  have hbk := CF.bulk_small (hcond _ rfl)
  have hW' := hW
  obtain ⟨p, q, hA0, hV, rfl, _, _⟩ := hW
  have hA : DataW.TrodAll enc Tryz.prog W 0 (fun _ => true) true Tryz.f12.params.toList args.toList ds p := hA0
  rw [Tryz.params12] at hA hval
  obtain ⟨v0, vs0, d0, ds0, p0, q0, hargs, rfl, rfl, h0, r0⟩ := trodAll_cons hA
  obtain ⟨v1, vs1, d1, ds1, p1, q1, rfl, rfl, rfl, h1, r1⟩ := trodAll_cons r0
  obtain ⟨rfl, rfl, rfl⟩ := trodAll_nil r1
  obtain rfl : args = #[v0, v1] := by cases args; simp_all
  obtain ⟨rfl, rfl⟩ := trodVars_none hV
  have k0 := h0
  have lt0 : ∀ x ∈ p0, x.block < W.heap.size := by obtain ⟨m, hm⟩ := k0; exact DataW.trod_lt m _ _ _ hm
  have bk0 : Rows.uptoBulk d0 ≤ 1048576 := Nat.le_trans (CF.bulk_part (by simp)) hbk
  have k1 := h1
  have lt1 : ∀ x ∈ p1, x.block < W.heap.size := by obtain ⟨m, hm⟩ := k1; exact DataW.trod_lt m _ _ _ hm
  have bk1 : Rows.uptoBulk d1 ≤ 1048576 := Nat.le_trans (CF.bulk_part (by simp)) hbk
  obtain ⟨A0, n0, c0, L0, rfl, hl0, ok0, hd0⟩ := CF.open_lines Tryz.underlying36 Tryz.underlying48 (by kernel_rfl) (by kernel_rfl) (by kernel_rfl) (by kernel_rfl) (by kernel_rfl) (by kernel_rfl) (hval 0 36 v0 rfl rfl) h0 bk0
  obtain ⟨x1, rfl, rfl, rfl, wx1⟩ := open_int Tryz.underlying3 (hval 1 3 v1 rfl rfl) h1
  clear hA0 hval0 hval hcond
  refine (PG.parseAgain_walk L0 A0 n0 c0 x1 W hl0 ok0 hen).mono fun e W' ⟨he, bel⟩ => ?_
  subst he
  exact ⟨_, rfl, _, _, _, [], _, [], hW', trodAll_mk1 (shut_bool Tryz.underlying4 _), (trodAll_cons_mk (Below.trod laidOut (by kernel_rfl) (of_decide_eq_true (by kernel_rfl)) k0 bel lt0) (trodAll_cons_mk (Below.trod laidOut (by kernel_rfl) (of_decide_eq_true (by kernel_rfl)) k1 bel lt1) trodAll_mk0)), rfl, bel.frame _, fun h => by cases h⟩

theorem holds : Rows.ParseAgainUptoSaid :=
  OpenClaim.holds_of_cond 12 Tryz.f12 rfl rfl rfl rfl rfl rfl rfl ⟨rfl, rfl, rfl, rfl, rfl⟩ rfl rfl rfl rfl rfl (by kernel_rfl) Tryz.func12 (by kernel_rfl)
    (of_decide_eq_true (by kernel_rfl)) (by unfold Func.isWrapper; first | (rw [if_pos (by decide +kernel)]; kernel_rfl) | (rw [if_neg (by decide +kernel)]; exact ⟨rfl, rfl⟩))
    (fun os started H enc _ F => by rw [OpenClaim.pre_eq_preRow]; exact lifted os started H enc F)
/-- THE STATEMENT -/
theorem proved : Rows.ParseAgainUptoCardSaid :=
  Claim7.holds_tied_plain_at .later [] Rows.parseAgainUptoCard.laidKinds true Rows.parseAgainUptoCard.stood.harness Rows.parseAgainUptoCard.stood.looks holds (fun _ h => by cases h) (by kernel_rfl) (fun _ h => by cases h) parseAgainUpto_row_tie rfl ⟨rfl, rfl⟩ (by kernel_rfl) rfl
    (fun f fn hf hfn => by
      obtain rfl : f = 12 := Option.some.inj ((show Tryz.prog.funcNamed "waystone/waystonelaw06.ParseAgain" = some 12 by kernel_rfl).symm.trans hf) |>.symm
      obtain rfl : fn = Tryz.f12 := (Option.some.inj (Tryz.func12.symm.trans hfn)).symm
      exact ⟨by kernel_rfl, fun j t ht => by
        rw [Tryz.params12] at ht
        have hm : t ∈ [36, 3] := by simpa using Array.mem_of_getElem? ht
        have hall : ([36, 3].all fun u => !Tryz.prog.wantsStandIn u) = true := by kernel_rfl
        exact (show Tryz.prog.wantsStandIn t = false by simpa using List.all_eq_true.1 hall t hm)⟩)
    (by kernel_rfl)
#print axioms proved
end Go.Proofs.YtecfkhgocjbocaaGreatDoor.parseAgain
