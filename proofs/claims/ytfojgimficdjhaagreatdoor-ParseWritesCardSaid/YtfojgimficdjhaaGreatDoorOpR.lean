/-
  An argument that is a Command (a number, a line of a number and three texts, a number), as the frame of a row hands it over.
-/
import Derived.Test.YtfojgimficdjhaaGreatDoorProg
import Derived.WalkKit
import Derived.ProofKit
import Derived.OpenShut
import Derived.ShutString
import Derived.Deep.Fields
import Derived.ChangeSame
import Derived.SizedLaws
namespace Go.Proofs.YtfojgimficdjhaaGreatDoor
set_option linter.unusedVariables false
set_option linter.unusedSimpArgs false
open Go Go.RowKit Go.ChangeShapes Go.WideShapes Go.Deep

theorem wf64 {n : Int} (h : (Lit.int .i64 n).wf = true) : -9223372036854775808 ≤ n ∧ n ≤ 9223372036854775807 := by
  simp [Lit.wf, IntKind.min, IntKind.max, IntKind.bits, IntKind.signed] at h
  omega
section
variable {H : Type} {enc : TypeId × Value → H} {P : Program} {w : World} {base : Nat} {spare : Nat → Bool} {held : Bool}
theorem open_cmd {r : Reach} {b0 : Nat} {t : TypeId} {f0 f1 f2 k0 k1 k2 k3 : Field} {v : Value} {d : DataW H} {p : List MemPlace} (hs : P.underlying t = some (.struct #[f0, f1, f2])) (hC : P.cellsOf t = 6)
    (ho : (f0.offset, f1.offset, f2.offset) = (0, 1, 5)) (hc : (P.cellsOf f0.type, P.cellsOf f1.type, P.cellsOf f2.type) = (1, 4, 1))
    (u0 : P.underlying f0.type = some (.int .i64)) (u1 : P.underlying f1.type = some (.struct #[k0, k1, k2, k3])) (u2 : P.underlying f2.type = some (.int .i64))
    (hok : (k0.offset, k1.offset, k2.offset, k3.offset) = (0, 1, 2, 3)) (hck : (P.cellsOf k0.type, P.cellsOf k1.type, P.cellsOf k2.type, P.cellsOf k3.type) = (1, 1, 1, 1))
    (v0 : P.underlying k0.type = some (.int .i64)) (v1 : P.underlying k1.type = some .string) (v2 : P.underlying k2.type = some .string) (v3 : P.underlying k3.type = some .string)
    (hv : Value.okWide P w r b0 t v) (h : DataW.Trod enc P w base spare held t v d p) :
    ∃ (what head : Int) (name leaf value : ByteArray) (num : Int), v = .agg #[.int .i64 what, .int .i64 head, .string name, .string leaf, .string value, .int .i64 num] ∧ name.size ≤ 9223372036854775807 ∧ leaf.size ≤ 9223372036854775807 ∧ value.size ≤ 9223372036854775807 ∧ -9223372036854775808 ≤ num ∧ num ≤ 9223372036854775807 := by
  obtain ⟨cs, rfl, hsz⟩ := okWide_struct hs hv
  rw [hC] at hsz
  obtain ⟨c0, c1, c2, c3, c4, c5, rfl⟩ : ∃ a b c d e f, cs = #[a, b, c, d, e, f] := by
    obtain ⟨l⟩ := cs
    match l, hsz with
    | [a, b, c, d, e, f], _ => exact ⟨a, b, c, d, e, f, rfl⟩
  obtain ⟨fuel, hf⟩ := h
  obtain ⟨xs, n, _, hx, _, hlen, hg⟩ := DataW.trod_struct hs hf
  simp only [Prod.mk.injEq] at ho hc hok hck
  obtain ⟨o0, o1, o2⟩ := ho
  obtain ⟨q0, q1, q2⟩ := hc
  obtain ⟨ok0, ok1, ok2, ok3⟩ := hok
  obtain ⟨ck0, ck1, ck2, ck3⟩ := hck
  obtain ⟨x0, x1, x2, rfl⟩ : ∃ a b c, xs = [a, b, c] := by
    match xs, (show xs.length = 3 by simpa using hlen) with
    | [a, b, c], _ => exact ⟨a, b, c, rfl⟩
  have g0 := hg 0 f0 rfl
  have g1 := hg 1 f1 rfl
  have g2 := hg 2 f2 rfl
  simp [Value.cells, o0, q0] at g0
  simp [Value.cells, o1, q1] at g1
  simp [Value.cells, o2, q2] at g2
  obtain ⟨z0, e0, _, _⟩ := DataW.trod_int u0 g0
  obtain ⟨z2, e2, _, b2⟩ := DataW.trod_int u2 g2
  obtain ⟨ys, n', _, _, _, hlk, hgk⟩ := DataW.trod_struct u1 g1
  obtain ⟨y0, y1, y2, y3, rfl⟩ : ∃ a b c d, ys = [a, b, c, d] := by
    match ys, (show ys.length = 4 by simpa using hlk) with
    | [a, b, c, d], _ => exact ⟨a, b, c, d, rfl⟩
  have j0 := hgk 0 k0 rfl
  have j1 := hgk 1 k1 rfl
  have j2 := hgk 2 k2 rfl
  have j3 := hgk 3 k3 rfl
  simp [ok0, ck0] at j0
  simp [ok1, ck1] at j1
  simp [ok2, ck2] at j2
  simp [ok3, ck3] at j3
  obtain ⟨m0, d0, _, _⟩ := DataW.trod_int v0 j0
  obtain ⟨s1, d1, _, b1'⟩ := DataW.trod_string v1 j1
  obtain ⟨s2, d2, _, b2'⟩ := DataW.trod_string v2 j2
  obtain ⟨s3, d3, _, b3'⟩ := DataW.trod_string v3 j3
  simp at e0 e2 d0 d1 d2 d3
  subst e0; subst e2; subst d0; subst d1; subst d2; subst d3
  obtain ⟨l2, h2⟩ := wf64 b2
  simp only [maxLen] at b1' b2' b3'
  exact ⟨z0, m0, s1, s2, s3, z2, rfl, b1', b2', b3', l2, h2⟩
end
end Go.Proofs.YtfojgimficdjhaaGreatDoor
