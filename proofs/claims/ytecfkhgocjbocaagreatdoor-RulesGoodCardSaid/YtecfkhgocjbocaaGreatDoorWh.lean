/-
  Whole structs by value within regions that draw their order (beside XRw1: seats with XRg1).
-/
import Derived.Test.YtecfkhgocjbocaaGreatDoorRw1
namespace Go.Proofs.YtecfkhgocjbocaaGreatDoor
set_option linter.unusedVariables false
set_option linter.unusedSimpArgs false
open Go Go.RowKit

/-! ### more labels -/
def addL (n : Nat) (ρ : Fact) (Γ : Nat → Fact) : Nat → Fact := fun l => if l = n then ρ else Γ l
theorem sat_add {w : World} {S0 S1 : Nat → Prop} {ρ : Fact} {Γ : Nat → Fact} (n : Nat) (h : Sat w S0 Γ w) (hd : ∀ b, S1 b → S0 b → False) (h1 : ∀ b, S1 b → b < w.heap.size) (hρ : ρ S1 w) : Sat w (fun b => S0 b ∨ S1 b) (addL n ρ Γ) w := by
  obtain ⟨_, own, p1, p2, p3⟩ := h
  have p4 : ∀ l b, own l b → S0 b := fun l b hb => by
    rcases (p2 l b hb).1 with h | h
    · exact h
    · have := (p2 l b hb).2; omega
  refine ⟨Kept.refl _ _, fun l b => (l = n ∧ S1 b) ∨ (l ≠ n ∧ own l b), ?_, ?_, ?_⟩
  · intro l l' b h h'
    rcases h with ⟨e, h⟩ | ⟨e, h⟩ <;> rcases h' with ⟨e', h'⟩ | ⟨e', h'⟩
    · rw [e, e']
    · exact (hd b h (p4 _ _ h')).elim
    · exact (hd b h' (p4 _ _ h)).elim
    · exact p1 l l' b h h'
  · intro l b h
    rcases h with ⟨e, h⟩ | ⟨e, h⟩
    · exact ⟨.inl (.inr h), h1 b h⟩
    · exact ⟨.inl (.inl (p4 l b h)), (p2 l b h).2⟩
  · intro l
    unfold addL
    by_cases e : l = n
    · subst e
      have : (fun b => (l = l ∧ S1 b) ∨ (l ≠ l ∧ own l b)) = S1 := by funext b; simp
      rw [if_pos rfl]
      dsimp only
      rw [this]
      exact hρ
    · have : (fun b => (l = n ∧ S1 b) ∨ (l ≠ n ∧ own l b)) = own l := by funext b; simp [e]
      rw [if_neg e]
      dsimp only
      rw [this]
      exact p3 l
theorem good_add {ρ : Fact} {Γ : Nat → Fact} (n : Nat) (h : Good ρ) (k : ∀ l, Good (Γ l)) : ∀ l, Good (addL n ρ Γ l) := fun l => by
  unfold addL
  split
  · exact h
  · exact k l

/-- a block that was laid, as a pointer's fact -/
def NewB (T : TypeId) (cs : Array Value) : Value → Fact := fun v S w => ∃ g, v = .pointer (some ⟨g, 0, none⟩) ∧ S g ∧ w.heap[g]? = some (.cells cs T (0, 0))
theorem good_newB (T : TypeId) (cs : Array Value) (v : Value) : Good (NewB T cs v) := fun S S' w w' h1 h2 ⟨g, h3, h4, h5⟩ => ⟨g, h3, h1 g h4, (h2 g h4).trans h5⟩
def IsPtr (v : Value) : Prop := ∃ g, v = .pointer (some ⟨g, 0, none⟩)
theorem isPtr_any : ∃ v, IsPtr v := ⟨.pointer (some ⟨0, 0, none⟩), 0, rfl⟩
def newL (T : TypeId) (cs : Array Value) : Loud := factL [] IsPtr (NewB T cs)
theorem newL_ok (T : TypeId) (cs : Array Value) : (newL T cs).Ok := factL_ok isPtr_any (good_newB T cs)
theorem newB_x {S : Nat → Prop} {w w' : World} {T : TypeId} {cs : Array Value} (hw : w' = w.alloc (.cells cs T)) :
    IsPtr (.pointer (some ⟨w.heap.size, 0, none⟩)) ∧ Kept S w w' ∧ NewB T cs (.pointer (some ⟨w.heap.size, 0, none⟩)) (fun b => S b ∨ (w.heap.size ≤ b ∧ b < w'.heap.size)) w' := by
  subst hw
  exact ⟨⟨_, rfl⟩, (Kept.refl _ _).alloc _, _, rfl, .inr (by simp), heap_alloc_new w _⟩
/-- a whole struct stored into a block of the region's own -/
def storeC (us : List Nat) (T : TypeId) (cs : Array Value) : Loud := argL us (fun _ _ => True) (fun xs _ S w => ∃ g, xs = [.pointer (some ⟨g, 0, none⟩), .agg cs] ∧ BlkF g T cs S w)
theorem storeC_ok (us : List Nat) (T : TypeId) (cs : Array Value) : (storeC us T cs).Ok :=
  argL_ok (fun _ => ⟨undef, trivial⟩) (fun xs _ S S' w w' h1 h2 ⟨g, h3, h4⟩ => ⟨g, h3, good_blk _ _ _ S S' w w' h1 h2 h4⟩)
theorem storeC_get {S : Nat → Prop} {w : World} {g : Nat} {T : TypeId} {cs cs' : Array Value} (h : ∃ g', [Value.pointer (some ⟨g, 0, none⟩), .agg cs'] = [.pointer (some ⟨g', 0, none⟩), .agg cs] ∧ BlkF g' T cs S w) : BlkF g T cs S w := by
  obtain ⟨g', h1, h2⟩ := h
  injection h1 with h1 _
  injection h1 with h1
  injection h1 with h1
  injection h1 with h1
  subst h1
  exact h2
theorem newB_get {S : Nat → Prop} {w : World} {g : Nat} {T : TypeId} {cs : Array Value} (h : NewB T cs (.pointer (some ⟨g, 0, none⟩)) S w) : BlkF g T cs S w := by
  obtain ⟨g', e1, k3, k4⟩ := h
  injection e1 with e1
  injection e1 with e1
  injection e1 with e1
  subst e1
  exact ⟨k3, k4⟩
theorem runs_load_whole {P : Program} {o : Oper} {a : Act} {w : World} {R : Value → World → Prop} (ty : TypeId) (x : Operand) (ho : o.op = .load ty x) (g : Nat) (hx : a.eval x = .pointer (some ⟨g, 0, none⟩)) (t : TypeId) (cs : Array Value) (fr : Nat × Nat) (d : TypeDesc)
    (hg : w.heap[g]? = some (.cells cs t fr)) (hu : P.underlying ty = some d) (hd : (match d with | .struct _ | .array _ _ => true | _ => false) = true) (hi : (P.info? ty).map (·.size) = some cs.size) (h : R (.agg cs) w) : runs P o a w R :=
  runs_value (v := .agg cs) (w' := w) (by
    have hl := run_loadVar_row (P := P) w g t ty cs fr d hg hu hd hi
    unfold execOp
    simp only [ho, hx, Instr.loadAt, Instr.sureAddr, Sem.run_bind, Sem.run_pure, Result.andThen_ok, hl]) h
theorem results_cell_tmp2 {fn : Func} {p u v : Tmp} {ty : TypeId} (h : fn.results = #[.cell p ty, .tmp u, .tmp v]) (tmps : Array Value) (P : Program) (w : World) :
    (results fn tmps).run P w = ((asAddr (tmps.getD p undef)).run P w).andThen fun a w₁ => ((loadVar ty a).run P w₁).andThen fun x w₂ => .ok (.tuple #[x, tmps.getD u undef, tmps.getD v undef]) w₂ := by
  simp only [results, h]
  simp [Sem.run_bind, Result.andThen]
/-- a struct and two values as results -/
theorem ret_row3 {P : Program} {fn : Func} {R : Ending → World → Prop} {a : Act} {w : World} {p u v : Tmp} {ty : TypeId} (h : fn.results = #[.cell p ty, .tmp u, .tmp v]) {g : Nat} {cs : Array Value} {x y : Value} {d : TypeDesc}
    (hp : a.tmps.getD p undef = .pointer (some ⟨g, 0, none⟩)) (hx : a.tmps.getD u undef = x) (hy : a.tmps.getD v undef = y) (hg : w.heap[g]? = some (.cells cs ty (0, 0)))
    (hu : P.underlying ty = some d) (hd : (match d with | .struct _ | .array _ _ => true | _ => false) = true) (hi : (P.info? ty).map (·.size) = some cs.size)
    (hdf : a.defers = []) (hR : R (.returned (.tuple #[.agg cs, x, y])) w) : bodyPost P fn R .ret a w := by
  refine bodyPost_ret (v := .tuple #[.agg cs, x, y]) ?_ hdf hR
  rw [results_cell_tmp2 h, hp, hx, hy]
  have hl := run_loadVar_row w g ty ty cs (0, 0) d hg hu hd hi
  simp [asAddr, hl, Result.andThen]
/-- one cell of a block of the region's own is stored -/
theorem blkF_set {g i : Nat} {T : TypeId} {cs : Array Value} {S : Nat → Prop} {w : World} (h : BlkF g T cs S w) (v : Value) :
    Kept S w (w.setCell ⟨g, i, none⟩ v) ∧ BlkF g T (cs.setIfInBounds i v) (fun b => S b ∨ (w.heap.size ≤ b ∧ b < (w.setCell ⟨g, i, none⟩ v).heap.size)) (w.setCell ⟨g, i, none⟩ v) :=
  ⟨Kept.setCell (Kept.refl _ _) (.inl h.1) _, .inl h.1, blk_set h.2 i v⟩
theorem blk_lt {w : World} {g : Nat} {o : Obj} (h : w.heap[g]? = some o) : g < w.heap.size := (Array.getElem?_eq_some_iff.1 h).1
theorem blk_below {w w' : World} {g B : Nat} {o : Obj} (h : w.heap[g]? = some o) (hb : Below B w w') (hg : g < B) : w'.heap[g]? = some o := (hb.block g hg).trans h
/-- a whole struct stored into a block that was made last -/
theorem wpList_store_last {P : Program} {ops : Array Oper} {rest : List Oper} {op : Oper} {a : Act} {w : World} {Q : Exit → Act → World → Prop} (hgd : op.guard = none) (ty : TypeId) (x y : Operand) (ho : op.op = .store ty x y)
    {c : Array Value} (c' : Array Value) (hx : a.eval x = .pointer (some ⟨w.heap.size, 0, none⟩)) (hy : a.eval y = .agg c') (hi : (P.info? ty).map (·.size) = some c'.size) (hs : c.size = c'.size) (h1 : c'.all (·.oneCell') = true)
    (h : wpList P ops Q rest (a.put op.dst undef) (w.alloc (.cells c' ty))) : wpList P ops Q (op :: rest) a (w.alloc (.cells c ty)) :=
  wpList_plain hgd fun _ hK => by
    unfold Oper.wp execOp
    simp only [ho, hx, hy, Sem.run_bind, run_storeAt_new w ty c c' hi hs h1, Result.andThen_ok]
    exact hK _ _ h
end Go.Proofs.YtecfkhgocjbocaaGreatDoor
