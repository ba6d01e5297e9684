/-
  An argument that is an Lsa, as the frame of a row hands it over. (open_slice_fields: a lemma that the guide offers to copy.)
-/
import Derived.Test.YtaajhkdifliblaaLsa7
import Derived.Deep.Slices
import Derived.Deep.Fields
import Derived.ChangeSame
import Derived.SizedLaws
namespace Go.Proofs.Ytaajhkdifliblaa
set_option linter.unusedVariables false
set_option linter.unusedSimpArgs false
open Go Go.RowKit SM LM Go.ChangeShapes Go.WideShapes Go.Deep

section
variable {H : Type} {enc : TypeId × Value → H} {P : Program} {w : World} {base : Nat} {spare : Nat → Bool} {held : Bool}
theorem open_slice_fields {t e : TypeId} {fs : Array Field} {fuel : Nat} {cs : List Value} {x : DataW H × List MemPlace} (ht : P.underlying t = some (.slice e)) (he : P.underlying e = some (.struct fs))
    (hone : oneCellFields P fs = true) (hC : P.cellsOf e = fs.size) (h : DataW.trod enc P w base spare held fuel t cs = some x) :
    (cs = [.slice none 0 0] ∧ x = (.nil, [])) ∨
    ∃ (a : Addr) (len cap m : Nat) (D : Nat → DataW H) (Pl : Nat → List MemPlace), cs = [.slice (some a) len cap] ∧ base ≤ a.block ∧ len ≤ cap ∧ cap ≤ maxLen ∧ m = (if spare a.block then cap else len) ∧
      x = (.slice ((List.range len).map D) ((List.range (m - len)).map fun j => D (len + j)), MemPlace.row a (m * fs.size) ++ (List.range m).flatMap Pl) ∧
      ∀ i, i < m → ∃ (ys : List (DataW H × List MemPlace)) (n : Nat), D i = .agg (ys.map (·.1)) ∧ Pl i = ys.flatMap (·.2) ∧ ys.length = fs.size ∧
        ∀ (j : Nat) (f : Field), fs[j]? = some f → ∃ (v : Value) (y : DataW H × List MemPlace), w.cell? (a.add (i * fs.size + j)) = some v ∧ ys[j]? = some y ∧ DataW.trod enc P w base spare held n f.type [v] = some y := by
  rcases open_slice ht h with h0 | ⟨a, len, cap, m, n, D, Pl, hcs, hb, hl, hm, hmm, hx, hi⟩
  · exact .inl h0
  · refine .inr ⟨a, len, cap, m, D, Pl, hcs, hb, hl, hm, hmm, by rw [hC] at hx; exact hx, fun i him => ?_⟩
    obtain ⟨cs', hc, ht'⟩ := hi i him
    rw [hC] at hc
    obtain ⟨ys, n', hn', hy, hlen, hyl, hf⟩ := DataW.trod_struct he ht'
    obtain ⟨_, hcl, hat⟩ := World.cells?_some hc
    simp only [Prod.mk.injEq] at hy
    refine ⟨ys, n', hy.1, hy.2, hyl, fun j f hj => ?_⟩
    obtain ⟨ho, hk⟩ := hone_of hone j f hj
    have hjl : j < fs.size := (Array.getElem?_eq_some_iff.1 hj).1
    have hcell := hat j hjl
    have hv : cs'[j]? = some (cs'[j]'(by omega)) := List.getElem?_eq_getElem (by omega)
    have h1 := hf j f hj
    rw [ho, hk] at h1
    have hone' : (cs'.drop j).take 1 = [cs'[j]'(by omega)] := by
      rw [List.drop_eq_getElem_cons (by omega)]
      rfl
    rw [hone'] at h1
    have hys : ys[j]? = some (ys[j]'(by omega)) := List.getElem?_eq_getElem (by omega)
    refine ⟨_, _, ?_, hys, h1.trans hys⟩
    rw [← Go.Deep.add_add, hcell, hv]
end

/-- the number in a cell -/
def cellInt (w : World) (a : Addr) : Int := match w.cell? a with | some (.int _ z) => z | _ => 0
theorem wf_bd {k : IntKind} {z : Int} (h : (Lit.int k z).wf = true) : k.min ≤ z ∧ z ≤ k.max := by simpa [Lit.wf] using h
theorem u32_bd {z : Int} (h : (Lit.int .u32 z).wf = true) : 0 ≤ z ∧ z < 4294967296 := by
  have := wf_bd h
  simp [IntKind.min, IntKind.max, IntKind.bits, IntKind.signed] at this
  omega
theorem i64_bd {z : Int} (h : (Lit.int .i64 z).wf = true) : -9223372036854775808 ≤ z ∧ z ≤ 9223372036854775807 := wf_i64_bd h

section
variable {H : Type} {enc : TypeId × Value → H} {w : World} {base : Nat} {held : Bool}
/-- a list of structs of four numbers (u32, u32, int, int) -/
theorem open_links {P : Program} {t e : TypeId} {f0 f1 f2 f3 : Field} {fuel : Nat} {cs : List Value} {x : DataW H × List MemPlace} (ht : P.underlying t = some (.slice e)) (he : P.underlying e = some (.struct #[f0, f1, f2, f3]))
    (hone : oneCellFields P #[f0, f1, f2, f3] = true) (hC : P.cellsOf e = 4) (u0 : P.underlying f0.type = some (.int .u32)) (u1 : P.underlying f1.type = some (.int .u32)) (u2 : P.underlying f2.type = some (.int .i64)) (u3 : P.underlying f3.type = some (.int .i64))
    (h : DataW.trod enc P w base (fun _ => true) held fuel t cs = some x) :
    ∃ (A : Option Addr) (n c : Nat) (l : List Link), cs = [.slice A n c] ∧ Sl w 4 (.slice A n c) (LK l) ∧ (∀ y ∈ l, y.wf) ∧ ((n = 0) ∨ ∃ els rest, x.1 = .slice els rest ∧ els.length + rest.length = c) := by
  rcases open_slice_fields ht he hone hC h with ⟨rfl, rfl⟩ | ⟨a, len, cap, m, D, Pl, rfl, hb, hl, hm, hmm, rfl, hi⟩
  · exact ⟨none, 0, 0, [], rfl, sl_nil w 4, by simp, .inl rfl⟩
  · simp only [if_true] at hmm
    subst hmm
    have hi' : ∀ i, i < m → ∃ z0 z1 z2 z3 : Int, w.cell? (a.add (i * 4 + 0)) = some (.int .u32 z0) ∧ w.cell? (a.add (i * 4 + 1)) = some (.int .u32 z1) ∧ w.cell? (a.add (i * 4 + 2)) = some (.int .i64 z2) ∧ w.cell? (a.add (i * 4 + 3)) = some (.int .i64 z3) ∧
        (0 ≤ z0 ∧ z0 < 4294967296) ∧ (0 ≤ z1 ∧ z1 < 4294967296) ∧ (-9223372036854775808 ≤ z2 ∧ z2 ≤ 9223372036854775807) ∧ (-9223372036854775808 ≤ z3 ∧ z3 ≤ 9223372036854775807) := by
      intro i him
      obtain ⟨ys, n, _, _, _, hf⟩ := hi i him
      obtain ⟨v0, y0, c0, _, t0⟩ := hf 0 f0 rfl
      obtain ⟨v1, y1, c1, _, t1⟩ := hf 1 f1 rfl
      obtain ⟨v2, y2, c2, _, t2⟩ := hf 2 f2 rfl
      obtain ⟨v3, y3, c3, _, t3⟩ := hf 3 f3 rfl
      obtain ⟨z0, e0, _, b0⟩ := DataW.trod_int u0 t0
      obtain ⟨z1, e1, _, b1⟩ := DataW.trod_int u1 t1
      obtain ⟨z2, e2, _, b2⟩ := DataW.trod_int u2 t2
      obtain ⟨z3, e3, _, b3⟩ := DataW.trod_int u3 t3
      injection e0 with e0; injection e1 with e1; injection e2 with e2; injection e3 with e3
      subst e0; subst e1; subst e2; subst e3
      exact ⟨z0, z1, z2, z3, c0, c1, c2, c3, u32_bd b0, u32_bd b1, i64_bd b2, i64_bd b3⟩
    let lk : Nat → Link := fun i => ⟨(cellInt w (a.add (i * 4 + 0))).toNat, (cellInt w (a.add (i * 4 + 1))).toNat, cellInt w (a.add (i * 4 + 2)), cellInt w (a.add (i * 4 + 3))⟩
    have hlk : ∀ i, i < m → (lk i).wf ∧ ∀ j, j < 4 → w.cell? (a.add (i * 4 + j)) = (linkC (lk i))[j]? := by
      intro i him
      obtain ⟨z0, z1, z2, z3, c0, c1, c2, c3, b0, b1, b2, b3⟩ := hi' i him
      have e : lk i = ⟨z0.toNat, z1.toNat, z2, z3⟩ := by simp only [lk, cellInt, c0, c1, c2, c3]
      rw [e]
      refine ⟨⟨by simp only; omega, by simp only; omega, b2, b3⟩, fun j hj => ?_⟩
      have k0 : ((z0.toNat : Nat) : Int) = z0 := by omega
      have k1 : ((z1.toNat : Nat) : Int) = z1 := by omega
      match j, hj with
      | 0, _ => rw [c0]; simp [linkC, k0]
      | 1, _ => rw [c1]; simp [linkC, k1]
      | 2, _ => rw [c2]; simp [linkC]
      | 3, _ => rw [c3]; simp [linkC]
    refine ⟨some a, len, m, (List.range len).map lk, rfl, ?_, ?_, .inr ⟨_, _, rfl, by simp; omega⟩⟩
    · refine ⟨some a, len, m, rfl, by rw [LK_length]; simp, hl, hm, fun hn => ?_⟩
      obtain ⟨b, off, spot⟩ := a
      obtain ⟨z0, _, _, _, c0, _⟩ := hi' 0 (by omega)
      have hspot : spot = none := by simpa [Addr.add] using World.cell?_spot c0
      subst hspot
      have hbl : b < w.heap.size := by
        have := World.block_lt_of_cell? w _ c0
        rw [addr_add] at this
        exact this
      refine ⟨b, off, rfl, hbl, fun i hi2 => ?_⟩
      have h1 := (hlk (i / 4) (by omega)).2 (i % 4) (by omega)
      rw [addr_add, show i / 4 * 4 + i % 4 = i by omega] at h1
      rw [h1]
      have h2 := LK_get ((List.range len).map lk) (i / 4) (i % 4) (by simp; omega) (by omega)
      rw [show i / 4 * 4 + i % 4 = i by omega] at h2
      rw [h2]
      congr 2
      unfold linkAt
      rw [List.getD_eq_getElem?_getD, List.getElem?_map, List.getElem?_range (by omega)]
      rfl
    · intro y hy
      obtain ⟨i, hi2, rfl⟩ := List.mem_map.1 hy
      exact (hlk i (by have := List.mem_range.1 hi2; omega)).1
theorem open_u32s {P : Program} {t e : TypeId} {fuel : Nat} {cs : List Value} {x : DataW H × List MemPlace} (ht : P.underlying t = some (.slice e)) (he : P.underlying e = some (.int .u32)) (hC : P.cellsOf e = 1)
    (h : DataW.trod enc P w base (fun _ => true) held fuel t cs = some x) :
    ∃ (A : Option Addr) (n c : Nat) (l : List Nat), cs = [.slice A n c] ∧ Sl w 1 (.slice A n c) (U32 l) ∧ (∀ y ∈ l, y < 4294967296) ∧ ((n = 0) ∨ ∃ els rest, x.1 = .slice els rest ∧ els.length + rest.length = c) := by
  rcases open_ints ht he hC h with ⟨rfl, rfl⟩ | ⟨a, len, cap, zs, rfl, hb, hl, hm, hz, rfl, hc, hwf⟩
  · exact ⟨none, 0, 0, [], rfl, sl_nil w 1, by simp, .inl rfl⟩
  · simp only [if_true] at hz
    refine ⟨some a, len, cap, (zs.take len).map Int.toNat, rfl, ?_, ?_, .inr ⟨_, _, rfl, by simp [lits]; omega⟩⟩
    · refine ⟨some a, len, cap, rfl, by simp [U32]; omega, hl, hm, fun hn => ?_⟩
      obtain ⟨b, off, spot⟩ := a
      have h0 := hc 0 (by omega)
      have hspot : spot = none := by simpa [Addr.add] using World.cell?_spot h0
      subst hspot
      have hbl : b < w.heap.size := by
        have := World.block_lt_of_cell? w _ h0
        rw [addr_add] at this
        exact this
      refine ⟨b, off, rfl, hbl, fun i hi => ?_⟩
      have h1 := hc i (by omega)
      rw [addr_add] at h1
      rw [h1]
      have hi2 : i < zs.length := by omega
      have hw := u32_bd (hwf _ (List.getElem_mem hi2))
      simp [U32, List.getElem?_take, show i < len by omega, List.getElem?_eq_getElem hi2, List.getD_eq_getElem?_getD]
      omega
    · intro y hy
      obtain ⟨z, hz2, rfl⟩ := List.mem_map.1 hy
      have := u32_bd (hwf z (List.mem_of_mem_take hz2))
      omega

theorem list9 {α : Type} (l : List α) (h : l.length = 9) : ∃ c0 c1 c2 c3 c4 c5 c6 c7 c8, l = [c0, c1, c2, c3, c4, c5, c6, c7, c8] := by
  match l, h with
  | [c0, c1, c2, c3, c4, c5, c6, c7, c8], _ => exact ⟨c0, c1, c2, c3, c4, c5, c6, c7, c8, rfl⟩
theorem list7 {α : Type} (l : List α) (h : l.length = 7) : ∃ c0 c1 c2 c3 c4 c5 c6, l = [c0, c1, c2, c3, c4, c5, c6] := by
  match l, h with
  | [c0, c1, c2, c3, c4, c5, c6], _ => exact ⟨c0, c1, c2, c3, c4, c5, c6, rfl⟩
theorem list3 {α : Type} (l : List α) (h : l.length = 3) : ∃ c0 c1 c2, l = [c0, c1, c2] := by
  match l, h with
  | [c0, c1, c2], _ => exact ⟨c0, c1, c2, rfl⟩
theorem sized_struct {P : Program} {ts : List TypeId} {ds : List (DataW H)} (h : (DataW.weightsEach P ts ds).all (· ≤ reachBytes) = true) {j : Nat} {t : TypeId} {fs : Array Field} {parts : List (DataW H)} (ht : ts[j]? = some t) (hd : ds[j]? = some (.agg parts)) (hu : P.underlying t = some (.struct fs)) :
    (DataW.weightsEach P (fs.toList.map (·.type)) parts).all (· ≤ reachBytes) = true := by
  rw [List.all_eq_true] at h ⊢
  intro x hx
  exact h x (DataW.weights_mem_each ht hd x (by simpa [DataW.weights, hu] using hx))

/-- an Lsa as an argument -/
theorem open_lsa {P : Program} {r : Reach} {b0 : Nat} {t tl tr : TypeId} {f0 f1 f2 f3 f4 f5 f6 k0 k1 k2 l0 l1 l2 l3 : Field} {v : Value} {d : DataW H} {p : List MemPlace}
    (hs : P.underlying t = some (.struct #[f0, f1, f2, f3, f4, f5, f6])) (hC : P.cellsOf t = 9)
    (ho : (f0.offset, f1.offset, f2.offset, f3.offset, f4.offset, f5.offset, f6.offset) = (0, 1, 4, 5, 6, 7, 8))
    (hc : (P.cellsOf f0.type, P.cellsOf f1.type, P.cellsOf f2.type, P.cellsOf f3.type, P.cellsOf f4.type, P.cellsOf f5.type, P.cellsOf f6.type) = (1, 3, 1, 1, 1, 1, 1))
    (u0 : P.underlying f0.type = some (.int .i64)) (uk : P.underlying f1.type = some (.struct #[k0, k1, k2])) (u2 : P.underlying f2.type = some (.int .i64)) (u3 : P.underlying f3.type = some (.slice tl)) (u4 : P.underlying f4.type = some (.int .u32)) (u5 : P.underlying f5.type = some (.slice tr)) (u6 : P.underlying f6.type = some (.int .i64))
    (hok : (k0.offset, k1.offset, k2.offset) = (0, 1, 2)) (hck : (P.cellsOf k0.type, P.cellsOf k1.type, P.cellsOf k2.type) = (1, 1, 1))
    (uk0 : P.underlying k0.type = some (.int .i64)) (uk1 : P.underlying k1.type = some (.int .u32)) (uk2 : P.underlying k2.type = some (.int .u32))
    (ul : P.underlying tl = some (.struct #[l0, l1, l2, l3])) (hone : oneCellFields P #[l0, l1, l2, l3] = true) (hCl : P.cellsOf tl = 4) (ul0 : P.underlying l0.type = some (.int .u32)) (ul1 : P.underlying l1.type = some (.int .u32)) (ul2 : P.underlying l2.type = some (.int .i64)) (ul3 : P.underlying l3.type = some (.int .i64))
    (ur : P.underlying tr = some (.int .u32)) (hCr : P.cellsOf tr = 1) (bl : P.bytesOf tl = 24) (br : P.bytesOf tr = 4)
    (hv : Value.okWide P w r b0 t v) (h : DataW.Trod enc P w base (fun _ => true) held t v d p)
    (hz : ∀ parts, d = .agg parts → (DataW.weightsEach P [f0.type, f1.type, f2.type, f3.type, f4.type, f5.type, f6.type] parts).all (· ≤ reachBytes) = true) :
    ∃ (L : Lsa) (A1 : Option Addr) (n1 c1 : Nat) (A2 : Option Addr) (n2 c2 : Nat), v = .agg (lsaC L A1 n1 c1 A2 n2 c2) ∧ IsLsa w L A1 n1 c1 A2 n2 c2 ∧ WfL L ∧ n1 * 24 ≤ 140737488355328 ∧ n2 * 4 ≤ 140737488355328 := by
  obtain ⟨cs, rfl, hsz⟩ := okWide_struct hs hv
  obtain ⟨l⟩ := cs
  obtain ⟨c0, c1, c2, c3, c4, c5, c6, c7, c8, rfl⟩ := list9 l (by simpa [hC] using hsz)
  obtain ⟨fuel, hf⟩ := h
  obtain ⟨xs, n, _, hx, _, hlen, hg⟩ := DataW.trod_struct hs hf
  obtain ⟨x0, x1, x2, x3, x4, x5, x6, rfl⟩ := list7 xs (by simpa using hlen)
  simp only [Prod.mk.injEq] at ho hc hok hck hx
  obtain ⟨o0, o1, o2, o3, o4, o5, o6⟩ := ho
  obtain ⟨q0, q1, q2, q3, q4, q5, q6⟩ := hc
  obtain ⟨ok0, ok1, ok2⟩ := hok
  obtain ⟨ck0, ck1, ck2⟩ := hck
  have g0 := hg 0 f0 rfl
  have g1 := hg 1 f1 rfl
  have g2 := hg 2 f2 rfl
  have g3 := hg 3 f3 rfl
  have g4 := hg 4 f4 rfl
  have g5 := hg 5 f5 rfl
  have g6 := hg 6 f6 rfl
  simp [Value.cells, o0, q0] at g0
  simp [Value.cells, o1, q1] at g1
  simp [Value.cells, o2, q2] at g2
  simp [Value.cells, o3, q3] at g3
  simp [Value.cells, o4, q4] at g4
  simp [Value.cells, o5, q5] at g5
  simp [Value.cells, o6, q6] at g6
  obtain ⟨age, e0, _, b0'⟩ := DataW.trod_int u0 g0
  obtain ⟨ys, n', _, _, _, hlk, hgk⟩ := DataW.trod_struct uk g1
  obtain ⟨y0, y1, y2, rfl⟩ := list3 ys (by simpa using hlk)
  have j0 := hgk 0 k0 rfl
  have j1 := hgk 1 k1 rfl
  have j2 := hgk 2 k2 rfl
  simp [ok0, ck0] at j0
  simp [ok1, ck1] at j1
  simp [ok2, ck2] at j2
  obtain ⟨kty, e1, _, _⟩ := DataW.trod_int uk0 j0
  obtain ⟨kid, e2, _, bk1⟩ := DataW.trod_int uk1 j1
  obtain ⟨kadv, e3, _, bk2⟩ := DataW.trod_int uk2 j2
  obtain ⟨seq, e4, _, _⟩ := DataW.trod_int u2 g2
  obtain ⟨A1, n1, d1, links, e5, hsl, hwl, hzl⟩ := open_links u3 ul hone hCl ul0 ul1 ul2 ul3 g3
  obtain ⟨mask, e6, _, bm⟩ := DataW.trod_int u4 g4
  obtain ⟨A2, n2, d2, routers, e7, hsr, hwr, hzr⟩ := open_u32s u5 ur hCr g5
  obtain ⟨cost, e8, _, _⟩ := DataW.trod_int u6 g6
  injection e0 with e0; injection e1 with e1; injection e2 with e2; injection e3 with e3; injection e4 with e4; injection e5 with e5; injection e6 with e6; injection e7 with e7; injection e8 with e8
  subst e0; subst e1; subst e2; subst e3; subst e4; subst e5; subst e6; subst e7; subst e8
  have bk1 := u32_bd bk1
  have bk2 := u32_bd bk2
  have bm := u32_bd bm
  have i1 : ((kid.toNat : Nat) : Int) = kid := by omega
  have i2 : ((kadv.toNat : Nat) : Int) = kadv := by omega
  have i3 : ((mask.toNat : Nat) : Int) = mask := by omega
  have hw := hz _ hx.1
  refine ⟨⟨age, kty, kid.toNat, kadv.toNat, seq, links, mask.toNat, routers, cost⟩, A1, n1, d1, A2, n2, d2, ?_, ⟨hsl, hsr⟩, ⟨hwl, hwr, by simp only; omega, by simp only; omega, by simp only; omega⟩, ?_, ?_⟩
  · simp [i1, i2, i3]
  · rcases hzl with h0 | ⟨els, rest, hE, hL⟩
    · omega
    · have := sized_slice hw (j := 3) (t := f3.type) (e := tl) (elems := els) (spare := rest) rfl (by simp [hE]) u3
      rw [bl, hL] at this
      have := hsl.lenN.2.1
      simp only [reachBytes] at *
      omega
  · rcases hzr with h0 | ⟨els, rest, hE, hL⟩
    · omega
    · have := sized_slice hw (j := 5) (t := f5.type) (e := tr) (elems := els) (spare := rest) rfl (by simp [hE]) u5
      rw [br, hL] at this
      have := hsr.lenN.2.1
      simp only [reachBytes] at *
      omega
end
end Go.Proofs.Ytaajhkdifliblaa
