/-
  An argument that is a Key, as the frame of a row hands it over.
-/
import Derived.Test.YtaajhkdifliblaaOpen
namespace Go.Proofs.Ytaajhkdifliblaa
set_option linter.unusedVariables false
set_option linter.unusedSimpArgs false
open Go Go.RowKit Go.ChangeShapes Go.WideShapes Go.Deep
section
variable {H : Type} {enc : TypeId × Value → H} {P : Program} {w : World} {base : Nat} {spare : Nat → Bool} {held : Bool}
theorem open_key {r : Reach} {b0 : Nat} {t : TypeId} {k0 k1 k2 : Field} {v : Value} {d : DataW H} {p : List MemPlace} (hs : P.underlying t = some (.struct #[k0, k1, k2])) (hC : P.cellsOf t = 3)
    (ho : (k0.offset, k1.offset, k2.offset) = (0, 1, 2)) (hc : (P.cellsOf k0.type, P.cellsOf k1.type, P.cellsOf k2.type) = (1, 1, 1))
    (u0 : P.underlying k0.type = some (.int .i64)) (u1 : P.underlying k1.type = some (.int .u32)) (u2 : P.underlying k2.type = some (.int .u32))
    (hv : Value.okWide P w r b0 t v) (h : DataW.Trod enc P w base spare held t v d p) : ∃ a b c : Int, v = .agg #[.int .i64 a, .int .u32 b, .int .u32 c] := by
  obtain ⟨cs, rfl, hsz⟩ := okWide_struct hs hv
  rw [hC] at hsz
  obtain ⟨c0, c1, c2, rfl⟩ : ∃ a b c, cs = #[a, b, c] := by
    obtain ⟨l⟩ := cs
    match l, hsz with
    | [a, b, c], _ => exact ⟨a, b, c, rfl⟩
  obtain ⟨fuel, hf⟩ := h
  obtain ⟨xs, n, _, hx, _, hlen, hg⟩ := DataW.trod_struct hs hf
  simp only [Prod.mk.injEq] at ho hc
  obtain ⟨o0, o1, o2⟩ := ho
  obtain ⟨q0, q1, q2⟩ := hc
  obtain ⟨x0, x1, x2, rfl⟩ : ∃ a b c, xs = [a, b, c] := by
    match xs, (show xs.length = 3 by simpa using hlen) with
    | [a, b, c], _ => exact ⟨a, b, c, rfl⟩
  have g0 := hg 0 k0 rfl
  have g1 := hg 1 k1 rfl
  have g2 := hg 2 k2 rfl
  simp [Value.cells, o0, q0] at g0
  simp [Value.cells, o1, q1] at g1
  simp [Value.cells, o2, q2] at g2
  obtain ⟨z0, e0, _, _⟩ := DataW.trod_int u0 g0
  obtain ⟨z1, e1, _, _⟩ := DataW.trod_int u1 g1
  obtain ⟨z2, e2, _, _⟩ := DataW.trod_int u2 g2
  simp at e0 e1 e2
  subst e0; subst e1; subst e2
  exact ⟨z0, z1, z2, rfl⟩
end
end Go.Proofs.Ytaajhkdifliblaa
