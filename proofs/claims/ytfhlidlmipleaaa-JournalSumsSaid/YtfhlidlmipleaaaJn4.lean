/-
  What a journal is in memory; contracts of size, next, noted.
-/
import Derived.Test.YtfhlidlmipleaaaJn3
namespace Go.Proofs.Ytfhlidlmipleaaa
set_option linter.unusedVariables false
set_option linter.unusedSimpArgs false
open Go Go.RowKit LM

theorem st_rows : ST Try.prog 123 27 1 24 := .mk Try.underlying123 (z := .slice none 0 0) (by kernel_rfl) rfl (by omega)
structure Jn where
  gen : Nat
  half : Nat
  all : List (List UInt8)
  used : Nat
  gone : Bool
abbrev jnC (J : Jn) (d : Nat) (Aa : Option Addr) (ca : Nat) : Array Value := #[.pointer (some ⟨d, 0, none⟩), .int .u64 J.gen, .int .i64 J.half, .slice Aa J.all.length ca, .int .i64 J.used, .bool J.gone]
/-- a journal: its block j, its disk's block d, the row of its entries, the entries' blocks E -/
structure JnAt (base : Nat) (w : World) (J : Jn) (j d : Nat) (Aa : Option Addr) (ca : Nat) (vs : List Value) (E : Nat → Prop) : Prop where
  blk : w.heap[j]? = some (.cells (jnC J d Aa ca) 201 (0, 0))
  row : w.ownsRow base 27 1 (.slice Aa J.all.length ca) J.all.length vs
  ent : ∀ k, k < J.all.length → ∃ g off n c, vs[k]? = some (.slice (some ⟨g, off, none⟩) n c) ∧ Sl w 1 (.slice (some ⟨g, off, none⟩) n c) (B8 (J.all.getD k [])) ∧ E g
  ebd : ∀ g, E g → base ≤ g ∧ g < w.heap.size
  jb : base ≤ j
  jr : Value.ownBlock (.slice Aa J.all.length ca) ≠ some j
  je : ¬ E j
  re : ∀ g, Value.ownBlock (.slice Aa J.all.length ca) = some g → ¬ E g
def Jrn (base : Nat) (w : World) (J : Jn) (j d : Nat) (K : Nat → Prop) : Prop := ∃ Aa ca vs E, JnAt base w J j d Aa ca vs E ∧ ∀ b, K b ↔ (b = j ∨ Value.ownBlock (.slice Aa J.all.length ca) = some b ∨ E b)
theorem Jrn.bd {base : Nat} {w : World} {J : Jn} {j d : Nat} {K : Nat → Prop} (h : Jrn base w J j d K) : ∀ b, K b → base ≤ b ∧ b < w.heap.size := by
  obtain ⟨Aa, ca, vs, E, h, hK⟩ := h
  intro b hb
  rcases (hK b).1 hb with rfl | e | e
  · exact ⟨h.jb, (Array.getElem?_eq_some_iff.1 h.blk).1⟩
  · exact h.row.lt b e |> fun x => ⟨x.1, x.2⟩
  · exact h.ebd b e
theorem Jrn.kept {base : Nat} {w w' : World} {J : Jn} {j d : Nat} {K S : Nat → Prop} (h : Jrn base w J j d K) (hk : Kept S w w') (hd : ∀ b, K b → ¬ S b) : Jrn base w' J j d K := by
  obtain ⟨Aa, ca, vs, E, h, hK⟩ := h
  refine ⟨Aa, ca, vs, E, ⟨blk_kept h.blk hk (hd j ((hK j).2 (.inl rfl))), ownsRow_kept h.row hk (fun g hg => hd g ((hK g).2 (.inr (.inl hg)))), fun k hk2 => ?_, fun g hg => ⟨(h.ebd g hg).1, Nat.lt_of_lt_of_le (h.ebd g hg).2 hk.size⟩, h.jb, h.jr, h.je, h.re⟩, hK⟩
  obtain ⟨g, off, n, c, h1, h2, h3⟩ := h.ent k hk2
  exact ⟨g, off, n, c, h1, sl_kept h2 hk (fun ad had => by injection had with had; subst had; exact hd g ((hK g).2 (.inr (.inr h3)))), h3⟩
theorem Jrn.below {base : Nat} {w w' : World} {J : Jn} {j d : Nat} {K : Nat → Prop} (h : Jrn base w J j d K) (hb : Below w.heap.size w w') : Jrn base w' J j d K := h.kept (S := fun _ => False) (Kept.of_below hb) (fun _ _ x => x)
theorem Jrn.mem {base : Nat} {w : World} {J : Jn} {j d : Nat} {K : Nat → Prop} (h : Jrn base w J j d K) : K j := by
  obtain ⟨Aa, ca, vs, E, h, hK⟩ := h
  exact (hK j).2 (.inl rfl)
/-- its own cells -/
theorem Jrn.cells {base : Nat} {w : World} {J : Jn} {j d : Nat} {K : Nat → Prop} (h : Jrn base w J j d K) : ∃ (Aa : Option Addr) (ca : Nat), j < w.heap.size ∧ J.all.length ≤ ca ∧ ca ≤ 9223372036854775807 ∧ w.cell? ⟨j, 0, none⟩ = some (.pointer (some ⟨d, 0, none⟩)) ∧ w.cell? ⟨j, 1, none⟩ = some (.int .u64 J.gen) ∧ w.cell? ⟨j, 2, none⟩ = some (.int .i64 J.half) ∧
    w.cell? ⟨j, 3, none⟩ = some (.slice Aa J.all.length ca) ∧ w.cell? ⟨j, 4, none⟩ = some (.int .i64 J.used) ∧ w.cell? ⟨j, 5, none⟩ = some (.bool J.gone) := by
  obtain ⟨Aa, ca, vs, E, h, hK⟩ := h
  obtain ⟨c, _⟩ := blk_cells h.blk
  have hl := own_lens h.row
  exact ⟨Aa, ca, (Array.getElem?_eq_some_iff.1 h.blk).1, hl.1, hl.2, by simpa using c 0, by simpa using c 1, by simpa using c 2, by simpa using c 3, by simpa using c 4, by simpa using c 5⟩
/-- a disk that a journal may lie on: its order has no sector twice -/
structure FitJ (D : Dk) (n : Nat) : Prop where
  len : D.stay.length = n
  nod : D.order.Nodup
  ok : ∀ x ∈ D.order, 0 ≤ x ∧ x < D.stay.length
  has : ∀ x ∈ D.order, (lookW D.wait x).isSome = true
def sizeJ (D : Dk) : Nat := (D.stay.length - 2) / 2
def nextJ (D : Dk) (J : Jn) : Nat := 2 + J.half * sizeJ D + J.used
set_option maxRecDepth 100000 in
set_option maxHeartbeats 800000 in
theorem size_any' (base : Nat) (w : World) (D : Dk) (J : Jn) (j d : Nat) (I K : Nat → Prop) (hd : Dsk base w D d I) (hj : Jrn base w J j d K) (h2 : 2 ≤ D.stay.length) (h3 : D.stay.length ≤ 1024) :
    Calls Try.prog 122 #[.pointer (some ⟨j, 0, none⟩)] w fun e w' => e = .returned (.int .i64 (sizeJ D)) ∧ w' = w := by
  obtain ⟨Aa, ca, hjl, _, _, q0, q1, q2, q3, q4, q5⟩ := hj.cells
  clear q1 q2 q3 q4 q5
  go_enter Try.func122, Try.ntmps122
  go_wp2_with fail
  refine (dsk_size base w D d I hd).mono ?_
  rintro e w' ⟨rfl, rfl⟩
  go_wp2_with fail
  go_ret
  exact ⟨ret_int (by unfold sizeJ; omega), rfl⟩
set_option maxRecDepth 100000 in
set_option maxHeartbeats 800000 in
theorem next_any (base : Nat) (w : World) (D : Dk) (J : Jn) (j d : Nat) (I K : Nat → Prop) (hd : Dsk base w D d I) (hj : Jrn base w J j d K) (h2 : 2 ≤ D.stay.length) (h3 : D.stay.length ≤ 1024) (hh : J.half < 2) (hu : J.used ≤ 1099511627776) :
    Calls Try.prog 117 #[.pointer (some ⟨j, 0, none⟩)] w fun e w' => e = .returned (.int .i64 (nextJ D J)) ∧ Below w.heap.size w w' := by
  obtain ⟨Aa, ca, hjl, _, _, q0, q1, q2, q3, q4, q5⟩ := hj.cells
  have z2 := fun (z : WK (fun _ => False) w) => (wat_cell (p := ⟨j, 2, none⟩) hjl (fun e => e) z).trans q2
  have z4 := fun (z : WK (fun _ => False) w) => (wat_cell (p := ⟨j, 4, none⟩) hjl (fun e => e) z).trans q4
  clear q0 q1 q2 q3 q4 q5
  have hs : sizeJ D ≤ 511 := by unfold sizeJ; omega
  have HN : Hid (nextJ D J = 2 + J.half * sizeJ D + J.used) := hid rfl
  have hmul : ∃ m : Nat, m ≤ 511 ∧ J.half * sizeJ D = m := by
    rcases (by omega : J.half = 0 ∨ J.half = 1) with h | h
    · exact ⟨0, by omega, by rw [h]; omega⟩
    · exact ⟨sizeJ D, hs, by rw [h]; omega⟩
  obtain ⟨m, hm, hmm⟩ := hmul
  go_enter Try.func117, Try.ntmps117
  go_wp2_with fail
  refine wp_region_loud (fun _ => False) [(5, plainL [] (.int .i64 (sizeJ D)))] (fun _ => Fact.none) (by kernel_rfl) (by kernel_rfl) (.cons (plainL_ok _ _) .nil) good_nothing sat_none (WX.out ?_)
  repeat (first | (refine wx_quietU (by rfl) (by rfl) (by rfl) (fun K hK => ?_); go_big_quiet_op; refine hK _ ?_; clear hK K) | (refine wx_quietG (by rfl) (by rfl) (by rfl) (by rfl) (by rfl) (fun K hK => ?_); go_big_quiet_op; refine hK _ ?_; clear hK K) | (refine wx_skipG (by rfl) (by rfl) (by rfl) (fun K hK => ?_); go_simp; refine hK _ ?_; clear hK K) | (refine wx_skipN (by rfl) (by rfl) (by rfl) (fun K hK => ?_); go_simp; refine hK _ ?_; clear hK K))
  refine wx_loudU (us := []) (by rfl) (by rfl) (fun S wS hC hS hU => runs_enter (f := 122) (by go_simp <;> rfl) ?_) (fun v hv K hK => ?_)
  · refine (size_any' base wS D J j d I K (hd.below hC.below) (hj.below hC.below) h2 h3).mono ?_
    rintro e w9 ⟨rfl, rfl⟩
    exact ⟨_, rfl, rfl, Kept.refl _ _, trivial⟩
  obtain rfl := hv; (go_simp; refine hK _ ?_; clear hK K)
  have em : (J.half : Int) * (sizeJ D : Int) = (m : Int) := by rw [← hmm]; simp
  repeat (first | (refine wx_quietU (by rfl) (by rfl) (by rfl) (fun K hK => ?_); go_big_quiet_op; refine hK _ ?_; clear hK K) | (refine wx_quietG (by rfl) (by rfl) (by rfl) (by rfl) (by rfl) (fun K hK => ?_); go_big_quiet_op; refine hK _ ?_; clear hK K) | (refine wx_skipG (by rfl) (by rfl) (by rfl) (fun K hK => ?_); go_simp; refine hK _ ?_; clear hK K) | (refine wx_skipN (by rfl) (by rfl) (by rfl) (fun K hK => ?_); go_simp; refine hK _ ?_; clear hK K))
  refine wx_nil fun w9 hsat => ?_
  have hb9 := sat_below hsat
  clear hsat z2 z4
  go_wp2_with fail
  go_ret
  exact ⟨ret_int (by rw [HN.out]; omega), hb9⟩
end Go.Proofs.Ytfhlidlmipleaaa
