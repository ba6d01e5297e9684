/-
  An argument that is a list of ints, as the frame of a row hands it over.
-/
import Derived.Test.YtaajhkdifliblaaOpen
import Derived.Test.YtaajhkdifliblaaDb7
import Derived.ChangeSlices
namespace Go.Proofs.Ytaajhkdifliblaa
set_option linter.unusedVariables false
set_option linter.unusedSimpArgs false
open Go Go.RowKit Go.ChangeShapes Go.WideShapes Go.Deep
theorem sl_ints {w : World} {x : Addr} {len cap : Nat} {zs : List Int} (hl : len ≤ cap) (hm : cap ≤ maxLen) (hz : zs.length = cap) (hc : ∀ i, i < zs.length → w.cell? (x.add i) = some (.int .i64 (zs.getD i 0))) :
    Sl w 1 (.slice (some x) len cap) (IZ (zs.take len)) := by
  refine ⟨_, _, _, rfl, by simp [IZ]; omega, hl, hm, fun hn => ?_⟩
  obtain ⟨b, off, spot⟩ := x
  have h0 := hc 0 (by omega)
  have hspot : spot = none := by simpa [Addr.add] using World.cell?_spot h0
  subst hspot
  have hb : b < w.heap.size := by
    have := World.block_lt_of_cell? w _ h0
    rw [addr_add] at this
    exact this
  refine ⟨b, off, rfl, hb, fun i hi => ?_⟩
  have hi' : i < len := by omega
  have := hc i (by omega)
  rw [addr_add] at this
  rw [this]
  simp [IZ, List.getElem?_take, hi', List.getD_eq_getElem?_getD, List.getElem?_eq_getElem (show i < zs.length by omega)]
section
variable {H : Type} {enc : TypeId × Value → H} {P : Program} {w : World} {base : Nat} {held : Bool}
theorem open_intsZ {r : Reach} {b0 : Nat} {t e : TypeId} {v : Value} {d : DataW H} {p : List MemPlace} (hu : P.underlying t = some (.slice e)) (he : P.underlying e = some (.int .i64)) (hE : P.cellsOf e = 1)
    (hv : Value.okWide P w r b0 t v) (h : DataW.Trod enc P w base (fun _ => true) held t v d p) : ∃ (A : Option Addr) (n c : Nat) (l : List Int), v = .slice A n c ∧ Sl w 1 (.slice A n c) (IZ l) := by
  obtain ⟨a0, len0, cap0, rfl⟩ := okWide_slice hu hv
  obtain ⟨fuel, hf⟩ := h
  rcases open_ints hu he hE hf with ⟨hcs, _⟩ | ⟨x, l, c, zs, hcs, _, hl, hm, hz, _, hcell, hwz⟩
  · simp [Value.cells] at hcs
    obtain ⟨rfl, rfl, rfl⟩ := hcs
    exact ⟨none, 0, 0, [], rfl, sl_nil w 1⟩
  · simp [Value.cells] at hcs
    obtain ⟨rfl, rfl, rfl⟩ := hcs
    exact ⟨_, _, _, _, rfl, sl_ints hl hm (by simpa using hz) hcell⟩
end
end Go.Proofs.Ytaajhkdifliblaa
