/-
  Contracts of package conf: right, Right; lines in memory.
-/
import Derived.Test.YtecfkhgocjbocaaGreatDoorCf1
import Derived.Deep.MidRow
namespace Go.Proofs.YtecfkhgocjbocaaGreatDoor
set_option linter.unusedVariables false
set_option linter.unusedSimpArgs false
open Go Go.RowKit

namespace CF
/-- lines as cells -/
def LNS (C : List Ln) : List Value := C.flatMap lnC
theorem LNS_length (C : List Ln) : (LNS C).length = C.length * 4 := by
  induction C with
  | nil => rfl
  | cons x r ih =>
    show (lnC x ++ LNS r).length = _
    rw [List.length_append, ih]
    simp [lnC]; omega
theorem LNS_append (C D : List Ln) : LNS (C ++ D) = LNS C ++ LNS D := by simp [LNS]
theorem LNS_one (C : List Ln) : ∀ u ∈ LNS C, u.oneCell' = true := by
  intro u hu
  obtain ⟨l, _, h⟩ := List.mem_flatMap.1 hu
  simp [lnC] at h
  rcases h with rfl | rfl | rfl | rfl <;> rfl
theorem LNS_get (C : List Ln) (k : Nat) (hk : k < C.length) (j : Nat) (hj : j < 4) : (LNS C)[k * 4 + j]? = (lnC (lnAt C k))[j]? := by
  induction C generalizing k with
  | nil => simp at hk
  | cons x r ih =>
    show (lnC x ++ LNS r)[k * 4 + j]? = _
    have hx : (lnC x).length = 4 := rfl
    cases k with
    | zero =>
      rw [Nat.zero_mul, Nat.zero_add, List.getElem?_append_left (by omega)]
      rfl
    | succ k =>
      rw [List.getElem?_append_right (by omega), show (k + 1) * 4 + j - (lnC x).length = k * 4 + j by omega, ih k (by simpa using hk)]
      rfl
theorem sl_lns {w : World} {A : Option Addr} {n c : Nat} {C : List Ln} (h : Sl w 4 (.slice A n c) (LNS C)) : C.length = n ∧ n ≤ c ∧ c ≤ 9223372036854775807 := by
  obtain ⟨A', n', c', he, hl, h2, h3, hr⟩ := h
  injection he with h4 h5 h6
  subst h4; subst h5; subst h6
  rw [LNS_length] at hl
  exact ⟨by omega, h2, by simpa [maxLen] using h3⟩
theorem sl_ln {w : World} {A : Option Addr} {n c : Nat} {C : List Ln} (h : Sl w 4 (.slice A n c) (LNS C)) {k : Nat} (hk : k < n) :
    ∃ b off, A = some ⟨b, off, none⟩ ∧ b < w.heap.size ∧ w.rangeAt b (off + k * 4) (lnC (lnAt C k)) := by
  have hl := (sl_lns h).1
  obtain ⟨A', n', c', he, _, h2, h3, hr⟩ := h
  injection he with h4 h5 h6
  subst h4; subst h5; subst h6
  obtain ⟨b, off, rfl, hb, hc⟩ := hr (by omega)
  refine ⟨b, off, rfl, hb, fun j v hj => ?_⟩
  have hj4 : j < 4 := (List.getElem?_eq_some_iff.1 hj).1
  rw [Nat.add_assoc, hc (k * 4 + j) (by omega), LNS_get C k (by omega) j hj4]
  exact hj
theorem sl_nil (w : World) (A : Option Addr) (c : Nat) (hc : c ≤ 9223372036854775807) : Sl w 4 (.slice A 0 c) (LNS []) := ⟨A, 0, c, rfl, rfl, Nat.zero_le _, by simpa [maxLen] using hc, fun h => absurd h (by omega)⟩
theorem range_below {w w' : World} {b o : Nat} {cs : List Value} (h : w.rangeAt b o cs) (hlt : b < w.heap.size) (hb : Below w.heap.size w w') : w'.rangeAt b o cs := fun j v hv => (hb.cell (p := ⟨b, o + j, none⟩) hlt).trans (h j v hv)
theorem runs_load_mid {P : Program} {o : Oper} {a : Act} {w : World} {R : Value → World → Prop} (ty : TypeId) (x : Operand) (ho : o.op = .load ty x) (b off : Nat) (hx : a.eval x = .pointer (some ⟨b, off, none⟩)) (cs : List Value) (d : TypeDesc)
    (hc : w.rangeAt b off cs) (hu : P.underlying ty = some d) (hd : d.isRow = true) (hi : (P.info? ty).map (·.size) = some cs.length) (h : R (.agg cs.toArray) w) : runs P o a w R := by
  unfold runs execOp
  simp only [ho, hx, Sem.run_bind, run_loadAt_mid w b off ty cs d hc hu hd hi, Result.andThen_ok, Sem.run_pure]
  exact h
theorem wpList_load_rowG {P : Program} {ops : Array Oper} {rest : List Oper} {o : Oper} {a : Act} {w : World} {Q : Exit → Act → World → Prop} (hw : Region.wanted o (yielded ops a.tmps) = true) (ty : TypeId) (x : Operand) (ho : o.op = .load ty x)
    (g : Nat) (hx : a.eval x = .pointer (some ⟨g, 0, none⟩)) (t : TypeId) (cs : Array Value) (fr : Nat × Nat) (d : TypeDesc) (hg : w.heap[g]? = some (.cells cs t fr))
    (hu : P.underlying ty = some d) (hd : (match d with | .struct _ | .array _ _ => true | _ => false) = true) (hi : (P.info? ty).map (·.size) = some cs.size)
    (h : wpList P ops Q rest (a.put o.dst (.agg cs)) w) : wpList P ops Q (o :: rest) a w :=
  wpList_step fun K hK => by
    simp only [hw, if_true]
    exact wp_load_row ty x ho g hx t cs fr d hg hu hd hi (hK _ _ h)
/-- no text of it is beyond reason -/
def LnOk (l : Ln) : Prop := l.name.length ≤ 2000000 ∧ l.leaf.length ≤ 2000000 ∧ l.value.length ≤ 2000000
set_option maxRecDepth 100000 in
set_option maxHeartbeats 1600000 in
theorem right_any (l : Ln) (w : World) (hl : LnOk l) (hen : Env w) :
    Calls Tryz.prog 50 #[.agg (lnV l)] w fun e w' => e = .returned (.bool (rightL l)) ∧ Below w.heap.size w w' := by
  obtain ⟨head, name, leaf, value⟩ := l
  obtain ⟨hn, hf, hv⟩ := hl
  simp only at hn hf hv
  show Calls _ _ #[.agg #[.int .i64 head, .string (S8 name), .string (S8 leaf), .string (S8 value)]] _ _
  have hR : rightL ⟨head, name, leaf, value⟩ = ((findR head leaf).2 && namedR head name && rightR (findR head leaf).1 value) := rfl
  have HF : Hid (∀ w', Calls Tryz.prog 55 #[.int .i64 head, .string (S8 leaf)] w' fun e w'' => ∃ A, e = .returned (.tuple #[.agg (rwV (findR head leaf).1 A), .bool (findR head leaf).2]) ∧ Below w'.heap.size w' w'' ∧ Cho w'' (findR head leaf).1 A) :=
    fun w' => (find_new head (S8 leaf) w').mono fun e w'' ⟨A, h1, h2, h3, _⟩ => ⟨A, h1, h2, h3⟩
  have HN : Hid (∀ w', Below w.heap.size w w' → Calls Tryz.prog 85 #[.int .i64 head, .string (S8 name)] w' fun e w'' => e = .returned (.bool (namedR head name)) ∧ Below w'.heap.size w' w'') :=
    fun w' hb => named_any head (S8 name) w' (by rw [S8_size]; omega) (hen.below hb)
  have hcn := findR_cho head leaf
  have hkd := findR_kind head leaf
  have HV : Hid (∀ A w', Below w.heap.size w w' → Cho w' (findR head leaf).1 A → Calls Tryz.prog 86 #[.agg (rwV (findR head leaf).1 A), .string (S8 value)] w' fun e w'' => e = .returned (.bool (rightR (findR head leaf).1 value)) ∧ Below w'.heap.size w' w'') :=
    fun A w' hb hch => Go.Proofs.YtecfkhgocjbocaaGreatDoor.right_any _ A (S8 value) w' (by rw [S8_size]; omega) (hen.below hb) hch (by omega) hkd
  rw [hR]
  clear hR hkd hcn hen
  generalize rightR (findR head leaf).1 value = b3 at *
  generalize findR head leaf = FR at *
  obtain ⟨r, b1⟩ := FR
  simp only at HF HV
  generalize namedR head name = b2 at *
  generalize S8 name = nm at *
  generalize S8 leaf = lf at *
  generalize S8 value = vl at *
  obtain ⟨hb0, hx0, hl0⟩ := box1 w (.cells #[.int .i64 head, .string nm, .string lf, .string vl] 29)
  go_enter Tryz.func50, Tryz.ntmps50
  go_upto_region 1 with fail
  generalize w.alloc (.cells #[.int .i64 head, .string nm, .string lf, .string vl] 29) = w1 at *
  have q0 := blkCell hx0 0
  have q1 := blkCell hx0 1
  have q2 := blkCell hx0 2
  have q3 := blkCell hx0 3
  simp only [List.getElem?_toArray, List.getElem?_cons_zero, List.getElem?_cons_succ] at q0 q1 q2 q3
  go_wp2_with fail
  refine (HF.out w1).mono ?_
  rintro e w2 ⟨A, rfl, hb2, hcho⟩
  clear q0 q1 q2 q3 HF
  have hx2 := blk_below hx0 hb2 hl0
  have hbw2 := hb0.trans (hb2.mono hb0.size)
  have hlt2 := Nat.lt_of_lt_of_le hl0 hb2.size
  clear hb2 hb0 hx0 hl0
  obtain ⟨hb3, hg3, hl3⟩ := box1 w2 (.cells (rwV r A) 93)
  have hi8 : (Tryz.prog.info? 93).map (·.size) = some (rwV r A).size := i8
  go_upto_region 2 with (refine wpList_store_last rfl 93 (.tmp 3) (.tmp 11) rfl (rwV r A) rfl rfl hi8 rfl (rwV_one _ _) ?_)
  generalize w2.alloc (.cells (rwV r A) 93) = w3 at *
  have hx3 := blk_below hx2 hb3 hlt2
  have hc3 := hcho.below hb3
  have hbw3 := hbw2.trans (hb3.mono hbw2.size)
  clear hx2 hcho hb3 hbw2
  cases b1 with
  | false =>
    go_wp2_with fail
    go_ret
    exact ⟨rfl, hbw3⟩
  | true =>
    have q0 := blkCell hx3 0
    have q1 := blkCell hx3 1
    simp only [List.getElem?_toArray, List.getElem?_cons_zero, List.getElem?_cons_succ] at q0 q1
    go_wp2_with fail
    refine (HN.out w3 hbw3).mono ?_
    rintro e w4 ⟨rfl, hb4⟩
    clear q0 q1 HN
    have hx4 := blk_below hx3 hb4 (blk_lt hx3)
    have hg4 := blk_below hg3 hb4 hl3
    have hc4 := hc3.below hb4
    have hbw4 := hbw3.trans (hb4.mono hbw3.size)
    clear hx3 hg3 hc3 hb4 hbw3
    cases b2 with
    | false =>
      go_wp2_with fail
      go_ret
      exact ⟨rfl, hbw4⟩
    | true =>
      have q3 := blkCell hx4 3
      simp only [List.getElem?_toArray, List.getElem?_cons_zero, List.getElem?_cons_succ] at q3
      go_wp2_with (refine wpList_load_rowG (by rfl) 93 (.tmp 3) rfl w2.heap.size rfl 93 (rwV r A) (0, 0) _ hg4 Tryz.underlying93 rfl hi8 ?_)
      refine (HV.out A w4 hbw4 hc4).mono ?_
      rintro e w5 ⟨rfl, hb5⟩
      have hbw5 := hbw4.trans (hb5.mono hbw4.size)
      clear q3 hx4 hg4 hc4 hb5 hbw4 HV
      go_wp2_with fail
      go_ret
      exact ⟨rfl, hbw5⟩
end CF
end Go.Proofs.YtecfkhgocjbocaaGreatDoor
