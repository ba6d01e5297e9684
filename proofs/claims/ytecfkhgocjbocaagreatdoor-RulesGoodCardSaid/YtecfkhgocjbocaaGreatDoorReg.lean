/-
  A region that draws its order, walked once in the order of the text, though its operations make memory and call functions that do.
  Each operation that makes or writes memory ('loud') bears a label, its number; what it has made is a fact on the blocks that it owns. An operation names the labels whose blocks it takes over.
-/
import Derived.Test.YtecfkhgocjbocaaGreatDoorBase
namespace Go.Proofs.YtecfkhgocjbocaaGreatDoor
set_option linter.unusedVariables false
set_option linter.unusedSimpArgs false
open Go Go.RowKit

/-- all blocks that were there, but those of S, are as they were -/
structure Kept (S : Nat → Prop) (w w' : World) : Prop where
  os : w'.os = w.os
  tape : w'.tape = w.tape
  output : w'.output = w.output
  size : w.heap.size ≤ w'.heap.size
  block : ∀ b, b < w.heap.size → ¬ S b → w'.heap[b]? = w.heap[b]?
theorem Kept.refl (S : Nat → Prop) (w : World) : Kept S w w := ⟨rfl, rfl, rfl, Nat.le_refl _, fun _ _ _ => rfl⟩
theorem Kept.of_below {S : Nat → Prop} {w w' : World} (h : Below w.heap.size w w') : Kept S w w' := ⟨h.os, h.tape, h.output, h.size, fun b hb _ => h.block b hb⟩
theorem Kept.of_grown {S : Nat → Prop} {w w' : World} {row : Option Nat} (h : w.grownBy w' row) (hr : ∀ g, row = some g → S g) : Kept S w w' :=
  ⟨h.os, h.tape, h.output, h.size, fun b hb hs => h.block b hb fun e => hs (hr b e.symm)⟩
theorem Kept.below {w w' : World} (h : Kept (fun _ => False) w w') : Below w.heap.size w w' := ⟨h.os, h.tape, h.output, h.size, fun b hb => h.block b hb (by simp)⟩
theorem Kept.below_of {S : Nat → Prop} {B : Nat} {w w' : World} (h : Kept S w w') (hB : B ≤ w.heap.size) (hS : ∀ b, S b → B ≤ b) : Below B w w' :=
  ⟨h.os, h.tape, h.output, h.size, fun b hb => h.block b (by omega) (fun hs => by have := hS b hs; omega)⟩
theorem Kept.grown {w w' : World} {row : Option Nat} (h : Kept (fun b => some b = row) w w') : w.grownBy w' row := ⟨h.os, h.tape, h.output, h.size, fun b hb hne => h.block b hb hne⟩
theorem Kept.step {S S0 : Nat → Prop} {w0 w w' : World} (h : Kept S0 w0 w) (k : Kept S w w') (hS : ∀ b, S b → S0 b ∨ w0.heap.size ≤ b) : Kept S0 w0 w' :=
  ⟨k.os.trans h.os, k.tape.trans h.tape, k.output.trans h.output, Nat.le_trans h.size k.size, fun b hb hs => (k.block b (by have := h.size; omega) (fun hsb => by rcases hS b hsb with h1 | h1 <;> first | exact hs h1 | omega)).trans (h.block b hb hs)⟩
theorem Kept.alloc {S : Nat → Prop} {w w' : World} (h : Kept S w w') (o : Obj) : Kept S w (w'.alloc o) :=
  ⟨h.os, h.tape, h.output, Nat.le_trans h.size (by simp), fun b hb hs => (Below.heap_alloc w' o b (by have := h.size; omega)).trans (h.block b hb hs)⟩
theorem Kept.drew {S : Nat → Prop} {w w' : World} (h : Kept S w w') : Kept S w w'.drew := ⟨h.os, h.tape, h.output, h.size, h.block⟩
theorem Kept.setCell {S : Nat → Prop} {w w' : World} (h : Kept S w w') {p : Addr} (hp : S p.block ∨ w.heap.size ≤ p.block) (u : Value) : Kept S w (w'.setCell p u) :=
  ⟨h.os, h.tape, h.output, by simpa [World.setCell] using h.size, fun b hb hs => (Below.heap_setCell w' p u b (fun e => by subst e; rcases hp with hp | hp <;> first | exact hs hp | omega)).trans (h.block b hb hs)⟩
theorem Kept.cell {S : Nat → Prop} {w w' : World} (h : Kept S w w') {p : Addr} (hp : p.block < w.heap.size) (hs : ¬ S p.block) : w'.cell? p = w.cell? p := World.cell?_of_block (h.block p.block hp hs)

/-- what is said of the blocks of a label, and of a world -/
abbrev Fact := (Nat → Prop) → World → Prop
def Good (ρ : Fact) : Prop := ∀ (S S' : Nat → Prop) (w w' : World), (∀ b, S b → S' b) → (∀ b, S b → w'.heap[b]? = w.heap[b]?) → ρ S w → ρ S' w'
def Fact.none : Fact := fun _ _ => True
theorem Good.none : Good Fact.none := fun _ _ _ _ _ _ _ => trivial
def upd (Γ : Nat → Fact) (k : Nat) (us : List Nat) (ρ : Fact) : Nat → Fact := fun l => if l = k then ρ else if l ∈ us then Fact.none else Γ l
theorem upd_comm (Γ : Nat → Fact) (i j : Nat) (us vs : List Nat) (ρ σ : Fact) (hij : i ≠ j) (hi : i ∉ vs) (hj : j ∉ us) : upd (upd Γ i us ρ) j vs σ = upd (upd Γ j vs σ) i us ρ := by
  funext l
  unfold upd
  by_cases h1 : l = i
  · subst h1
    simp [hij, hi]
  · by_cases h2 : l = j
    · subst h2
      simp [h1, hj]
    · simp only [h1, h2, if_false]
      by_cases h3 : l ∈ us <;> by_cases h4 : l ∈ vs <;> simp [h3, h4]

/-- how one operation goes -/
def runs (P : Program) (o : Oper) (a : Act) (w : World) (R : Value → World → Prop) : Prop :=
  match (execOp a.eval o).run P w with
  | .ok (.value v) w' => R v w'
  | .ok .skip w' => R undef w'
  | .ok (.enter f args) w' => Calls P f args w' fun e w'' => ∃ v, e = .returned v ∧ R v w''
  | _ => False

/-- the operands' values -/
def argsOf (o : Oper) (a : Act) : List Value := o.op.operands.toList.map a.eval
theorem argsOf_put {ops : Array Oper} (o : Oper) (a : Act) (dst : Option Tmp) (v : Value) (h : ∀ d, dst = some d → d ∉ o.looksAt ops) : argsOf o (a.put dst v) = argsOf o a := by
  unfold argsOf
  refine List.map_congr_left fun x hx => Act.eval_put fun d hd hxd => h d hd ?_
  subst hxd
  exact List.mem_append_left _ (List.mem_filterMap.2 ⟨.tmp d, hx, rfl⟩)

section
variable (P : Program) (ops : Array Oper) (w0 : World) (S0 : Nat → Prop) (U : Nat → Option (List Nat)) (φ : Nat → List Value → Value → Prop) (ρ : Nat → List Value → Value → Fact)

/-- a loud operation: what it needs, what it leaves -/
def trip (o : Oper) (us : List Nat) (k : Nat) (Γ : Nat → Fact) (a : Act) : Prop :=
  ∀ (S : Nat → Prop) (w : World), Kept S0 w0 w → (∀ b, S b → (S0 b ∨ w0.heap.size ≤ b) ∧ b < w.heap.size) → (∀ u ∈ us, Γ u S w) →
    runs P o a w fun v w' => φ k (argsOf o a) v ∧ Kept S w w' ∧ ρ k (argsOf o a) v (fun b => S b ∨ (w.heap.size ≤ b ∧ b < w'.heap.size)) w'
/-- a quiet one -/
def calm (o : Oper) (a : Act) (v : Value) : Prop :=
  ∀ w, Kept S0 w0 w → (execOp a.eval o).run P w = .ok (.value v) w ∨ ((execOp a.eval o).run P w = .ok .skip w ∧ v = undef)

def opX' (o : Oper) (k : Nat) (Γ : Nat → Fact) (a : Act) (K : (Nat → Fact) → Act → Prop) : Prop :=
  if Region.wanted o (yielded ops a.tmps) = true then
    match U k with
    | none => ∃ v, calm P w0 S0 o a v ∧ K Γ (a.put o.dst v)
    | some us => trip P w0 S0 φ ρ o us k Γ a ∧ ∀ v, φ k (argsOf o a) v → K (upd Γ k us (ρ k (argsOf o a) v)) (a.put o.dst v)
  else K Γ (a.put o.dst undef)
def opX (k : Nat) (Γ : Nat → Fact) (a : Act) (K : (Nat → Fact) → Act → Prop) : Prop :=
  match ops[k]? with
  | none => K Γ a
  | some o => opX' P ops w0 S0 U φ ρ o k Γ a K
def wpX (Fin : (Nat → Fact) → Act → Prop) : Nat → List Oper → (Nat → Fact) → Act → Prop
  | _, [], Γ, a => Fin Γ a
  | k, o :: l, Γ, a => opX' P ops w0 S0 U φ ρ o k Γ a (wpX Fin (k + 1) l)
def wpAnyX (md : Region.Mode) (Fin : (Nat → Fact) → Act → Prop) : Nat → Array Bool → (Nat → Fact) → Act → Prop
  | 0, listed, Γ, a => Region.ready md ops listed = [] ∧ Fin Γ a
  | n + 1, listed, Γ, a => (Region.ready md ops listed = [] → Fin Γ a) ∧ ∀ i ∈ Region.ready md ops listed, opX P ops w0 S0 U φ ρ i Γ a (wpAnyX md Fin n (listed.setIfInBounds i true))
end

section
variable {P : Program} {ops : Array Oper} {w0 : World} {S0 : Nat → Prop} {U : Nat → Option (List Nat)} {φ : Nat → List Value → Value → Prop} {ρ : Nat → List Value → Value → Fact} {md : Region.Mode}

theorem opX'_mono {o : Oper} {k : Nat} {Γ : Nat → Fact} {a : Act} {K K' : (Nat → Fact) → Act → Prop} (h : ∀ Γ a, K Γ a → K' Γ a) (hh : opX' P ops w0 S0 U φ ρ o k Γ a K) : opX' P ops w0 S0 U φ ρ o k Γ a K' := by
  unfold opX' at *
  by_cases hw : Region.wanted o (yielded ops a.tmps) = true
  · rw [if_pos hw] at hh ⊢
    cases hU : U k with
    | none => rw [hU] at hh; obtain ⟨v, h1, h2⟩ := hh; exact ⟨v, h1, h _ _ h2⟩
    | some us => rw [hU] at hh; exact ⟨hh.1, fun v hv => h _ _ (hh.2 v hv)⟩
  · rw [if_neg hw] at hh ⊢
    exact h _ _ hh
theorem opX_mono {k : Nat} {Γ : Nat → Fact} {a : Act} {K K' : (Nat → Fact) → Act → Prop} (h : ∀ Γ a, K Γ a → K' Γ a) (hh : opX P ops w0 S0 U φ ρ k Γ a K) : opX P ops w0 S0 U φ ρ k Γ a K' := by
  unfold opX at *
  cases ho : ops[k]? with
  | none => rw [ho] at hh; exact h _ _ hh
  | some o => rw [ho] at hh; exact opX'_mono h hh

/-- the labels that an operation takes over -/
def usesOf (U : Nat → Option (List Nat)) (k : Nat) : List Nat := (U k).getD []

theorem trip_same {o : Oper} {us : List Nat} {k : Nat} {Γ Γ' : Nat → Fact} {a a' : Act} (h : trip P w0 S0 φ ρ o us k Γ a) (he : execOp a'.eval o = execOp a.eval o) (hx : argsOf o a' = argsOf o a) (hΓ : ∀ u ∈ us, ∀ S w, Γ' u S w → Γ u S w) : trip P w0 S0 φ ρ o us k Γ' a' := by
  intro S w h1 h2 h3
  have := h S w h1 h2 (fun u hu => hΓ u hu S w (h3 u hu))
  unfold runs at *
  rw [he, hx]
  exact this
theorem calm_same {o : Oper} {a a' : Act} {v : Value} (h : calm P w0 S0 o a v) (he : execOp a'.eval o = execOp a.eval o) : calm P w0 S0 o a' v := by
  intro w hw
  rw [he]
  exact h w hw
theorem calm_unique {o : Oper} {a : Act} {v u : Value} (h : calm P w0 S0 o a v) (k : calm P w0 S0 o a u) : v = u := by
  rcases h w0 (Kept.refl _ _) with h1 | ⟨h1, rfl⟩ <;> rcases k w0 (Kept.refl _ _) with k1 | ⟨k1, rfl⟩
  · rw [h1] at k1; injection k1 with k1; injection k1
  · rw [h1] at k1; injection k1 with k1; cases k1
  · rw [h1] at k1; injection k1 with k1; cases k1
  · rfl

theorem opX_comm {i j : Nat} {oi oj : Oper} (hj : ops[j]? = some oj) (hap : oi.apart ops oj = true) (hsi : ∀ cs b, oi.op ≠ .select cs b) (hsj : ∀ cs b, oj.op ≠ .select cs b)
    (hij : i ≠ j) (hUi : j ∉ usesOf U i) (hUj : i ∉ usesOf U j) (hd : ∀ u ∈ usesOf U i, u ∉ usesOf U j) (hne : ∀ k us xs, U k = some us → ∃ v, φ k xs v) {Γ : Nat → Fact} {a : Act} {K : (Nat → Fact) → Act → Prop}
    (h : opX' P ops w0 S0 U φ ρ oi i Γ a (fun Γ' a' => opX P ops w0 S0 U φ ρ j Γ' a' K)) : opX P ops w0 S0 U φ ρ j Γ a (fun Γ' a' => opX' P ops w0 S0 U φ ρ oi i Γ' a' K) := by
  obtain ⟨h1, h2, h3⟩ := Oper.apart_spec hap
  have ei : ∀ (a : Act) u, execOp (a.put oj.dst u).eval oi = execOp a.eval oi := fun a u => execOp_put oi hsi a oj.dst u h3
  have ej : ∀ (a : Act) u, execOp (a.put oi.dst u).eval oj = execOp a.eval oj := fun a u => execOp_put oj hsj a oi.dst u h1
  have xi : ∀ (a : Act) u, argsOf oi (a.put oj.dst u) = argsOf oi a := fun a u => argsOf_put oi a oj.dst u h3
  have xj : ∀ (a : Act) u, argsOf oj (a.put oi.dst u) = argsOf oj a := fun a u => argsOf_put oj a oi.dst u h1
  have wi : ∀ (a : Act) u, Region.wanted oi (yielded ops (a.put oj.dst u).tmps) = Region.wanted oi (yielded ops a.tmps) := fun a u => wanted_put oi a oj.dst u h3
  have wj : ∀ (a : Act) u, Region.wanted oj (yielded ops (a.put oi.dst u).tmps) = Region.wanted oj (yielded ops a.tmps) := fun a u => wanted_put oj a oi.dst u h1
  have pc : ∀ (a : Act) v u, (a.put oj.dst u).put oi.dst v = (a.put oi.dst v).put oj.dst u := fun a v u => (Act.put_comm a v u h2).symm
  unfold opX at *
  simp only [hj] at *
  unfold opX' at *
  by_cases hwi : Region.wanted oi (yielded ops a.tmps) = true
  · rw [if_pos hwi] at h
    cases hUi' : U i with
    | none =>
      rw [hUi'] at h
      obtain ⟨v, hv, h⟩ := h
      rw [wj] at h
      by_cases hwj : Region.wanted oj (yielded ops a.tmps) = true
      · rw [if_pos hwj] at h ⊢
        cases hUj' : U j with
        | none =>
          rw [hUj'] at h
          obtain ⟨u, hu, h⟩ := h
          refine ⟨u, calm_same hu (ej a v).symm, ?_⟩
          dsimp only
          rw [wi, if_pos hwi]
          exact ⟨v, calm_same hv (ei a u), by rw [pc]; exact h⟩
        | some vs =>
          rw [hUj'] at h
          refine ⟨trip_same h.1 (ej a v).symm (xj a v).symm (fun _ _ _ _ x => x), fun u hu => ?_⟩
          dsimp only
          rw [wi, if_pos hwi]
          exact ⟨v, calm_same hv (ei a u), by rw [pc, ← xj a v]; exact h.2 u (by rw [xj a v]; exact hu)⟩
      · rw [if_neg hwj] at h ⊢
        dsimp only
        rw [wi, if_pos hwi]
        exact ⟨v, calm_same hv (ei a _), by rw [pc]; exact h⟩
    | some us =>
      rw [hUi'] at h
      obtain ⟨ht, h⟩ := h
      simp only [usesOf, hUi', Option.getD_some] at hUi hd
      obtain ⟨v0, hv0⟩ := hne i us (argsOf oi a) hUi'
      simp only [wj] at h
      have keep : ∀ (vs : List Nat) (u : Value), U j = some vs → trip P w0 S0 φ ρ oi us i (upd Γ j vs (ρ j (argsOf oj a) u)) (a.put oj.dst u) := fun vs u hvs =>
        trip_same ht (ei a u) (xi a u) (fun x hx S w hΓ => by
          simp only [usesOf, hvs, Option.getD_some] at hd
          unfold upd at hΓ
          rw [if_neg (fun e : x = j => hUi (e ▸ hx)), if_neg (hd x hx)] at hΓ
          exact hΓ)
      by_cases hwj : Region.wanted oj (yielded ops a.tmps) = true
      · rw [if_pos hwj]
        simp only [hwj, if_true] at h
        cases hUj' : U j with
        | none =>
          simp only [hUj'] at h
          obtain ⟨u, hu, _⟩ := h v0 hv0
          refine ⟨u, calm_same hu (ej a v0).symm, ?_⟩
          dsimp only
          rw [wi, if_pos hwi]
          rw [xi]
          refine ⟨trip_same ht (ei a u) (xi a u) (fun _ _ _ _ x => x), fun v hv => ?_⟩
          obtain ⟨u', hu', h'⟩ := h v hv
          have : u = u' := calm_unique (calm_same hu (ej a v0).symm) (calm_same hu' (ej a v).symm)
          subst this
          rw [pc]
          exact h'
        | some vs =>
          simp only [hUj'] at h
          simp only [usesOf, hUj', Option.getD_some] at hUj
          refine ⟨trip_same (h v0 hv0).1 (ej a v0).symm (xj a v0).symm (fun x hx S w hΓ => ?_), fun u hu => ?_⟩
          · unfold upd
            rw [if_neg (fun e : x = i => hUj (e ▸ hx))]
            split
            · trivial
            · exact hΓ
          · dsimp only
            rw [wi, if_pos hwi]
            rw [xi]
            refine ⟨keep vs u hUj', fun v hv => ?_⟩
            rw [pc, ← upd_comm Γ i j us vs _ _ hij hUj hUi, ← xj a v]
            exact (h v hv).2 u (by rw [xj a v]; exact hu)
      · rw [if_neg hwj]
        simp only [hwj] at h
        dsimp only
        rw [wi, if_pos hwi]
        rw [xi]
        refine ⟨trip_same ht (ei a _) (xi a _) (fun _ _ _ _ x => x), fun v hv => ?_⟩
        rw [pc]
        exact h v hv
  · rw [if_neg hwi] at h
    rw [wj] at h
    by_cases hwj : Region.wanted oj (yielded ops a.tmps) = true
    · rw [if_pos hwj] at h ⊢
      cases hUj' : U j with
      | none =>
        rw [hUj'] at h
        obtain ⟨u, hu, h⟩ := h
        refine ⟨u, calm_same hu (ej a _).symm, ?_⟩
        dsimp only
        rw [wi, if_neg hwi, pc]
        exact h
      | some vs =>
        rw [hUj'] at h
        refine ⟨trip_same h.1 (ej a _).symm (xj a _).symm (fun _ _ _ _ x => x), fun u hu => ?_⟩
        dsimp only
        rw [wi, if_neg hwi, pc, ← xj a undef]
        exact h.2 u (by rw [xj a undef]; exact hu)
    · rw [if_neg hwj] at h ⊢
      dsimp only
      rw [wi, if_neg hwi, pc]
      exact h

/-! ### the order -/
def waits (md : Region.Mode) (ops : Array Oper) : Nat → Nat → Nat → Bool
  | 0, _, _ => false
  | n + 1, j, i => match ops[j]? with
    | some oj => (oj.after.any fun e => Region.binds md e && e.on == i) || (oj.after.any fun e => Region.binds md e && waits md ops n e.on i)
    | none => false
/-- whoever is listed, all that it waits for is -/
def Closed (md : Region.Mode) (ops : Array Oper) (listed : Array Bool) : Prop :=
  ∀ k ok, ops[k]? = some ok → listed.getD k false = true → ∀ e ∈ ok.after, Region.binds md e = true → listed.getD e.on false = true
theorem waits_listed {listed : Array Bool} (hc : Closed md ops listed) : ∀ (n j i : Nat) (oj : Oper), ops[j]? = some oj → (∀ e ∈ oj.after, Region.binds md e = true → listed.getD e.on false = true) →
    waits md ops n j i = true → listed.getD i false = true
  | 0, _, _, _, _, _, h => by simp [waits] at h
  | n + 1, j, i, oj, hj, hall, h => by
    simp only [waits, hj, Bool.or_eq_true] at h
    rcases h with h | h
    · obtain ⟨e, he, hb⟩ := Array.any_eq_true'.1 h
      simp only [Bool.and_eq_true, beq_iff_eq] at hb
      rw [← hb.2]
      exact hall e he hb.1
    · obtain ⟨e, he, hb⟩ := Array.any_eq_true'.1 h
      simp only [Bool.and_eq_true] at hb
      have hl := hall e he hb.1
      cases ho : ops[e.on]? with
      | none =>
        cases n with
        | zero => simp [waits] at hb
        | succ n => simp [waits, ho] at hb
      | some oe => exact waits_listed hc n e.on i oe ho (hc e.on oe ho hl) hb.2
theorem Closed.set {listed : Array Bool} {i : Nat} (hc : Closed md ops listed) (hi : i ∈ Region.ready md ops listed) : Closed md ops (listed.setIfInBounds i true) := by
  obtain ⟨_, oi, hoi, hall⟩ := mem_ready.1 hi
  intro k ok hk hl e he hb
  by_cases hik : i = k
  · subst hik
    have : ok = oi := Option.some.inj (hk.symm.trans hoi)
    subst this
    exact getD_set_true (hall e he hb)
  · rw [getD_set_ne false hik] at hl
    exact getD_set_true (hc k ok hk hl e he hb)
def labsB (U : Nat → Option (List Nat)) (i j : Nat) : Bool := !(usesOf U j).contains i && !(usesOf U i).contains j && (usesOf U i).all fun u => !(usesOf U j).contains u
def freeX (U : Nat → Option (List Nat)) (md : Region.Mode) (ops : Array Oper) (listed : Array Bool) (i : Nat) : Bool :=
  match ops[i]? with
  | none => false
  | some oi => (List.range ops.size).all fun j => j == i || listed.getD j true || match ops[j]? with
    | some oj => (oi.apart ops oj && labsB U i j) || waits md ops 5 j i
    | none => true
def lexFromX (U : Nat → Option (List Nat)) (md : Region.Mode) (ops : Array Oper) : Nat → Nat → Array Bool → Bool
  | 0, _, listed => (Region.ready md ops listed).isEmpty
  | n + 1, k, listed => (Region.ready md ops listed).contains k && freeX U md ops listed k && lexFromX U md ops n (k + 1) (listed.setIfInBounds k true)
/-- one walk serves: by reckoning -/
def lexX (U : Nat → Option (List Nat)) (md : Region.Mode) (ops : Array Oper) : Bool := Region.noSelect ops && lexFromX U md ops ops.size 0 (Array.replicate ops.size false)

theorem first_X {Fin : (Nat → Fact) → Act → Prop} {i : Nat} {oi : Oper} (hi : ops[i]? = some oi) (hsel : ∀ (j : Nat) (o : Oper) cs b, ops[j]? = some o → o.op ≠ .select cs b) (hne : ∀ k us xs, U k = some us → ∃ v, φ k xs v) :
    ∀ (n : Nat) (listed : Array Bool) (Γ : Nat → Fact) (a : Act), Closed md ops listed →
      (∀ j oj, ops[j]? = some oj → j ≠ i → listed.getD j true = false → (oi.apart ops oj = true ∧ labsB U i j = true) ∨ waits md ops 5 j i = true) →
      i ∈ Region.ready md ops listed → opX' P ops w0 S0 U φ ρ oi i Γ a (wpAnyX P ops w0 S0 U φ ρ md Fin n (listed.setIfInBounds i true)) →
      wpAnyX P ops w0 S0 U φ ρ md Fin (n + 1) listed Γ a := by
  intro n
  have self : ∀ {Γ a K}, opX' P ops w0 S0 U φ ρ oi i Γ a K → opX P ops w0 S0 U φ ρ i Γ a K := fun h => by unfold opX; simp only [hi]; exact h
  -- an operation beside i
  have other : ∀ (listed : Array Bool) (j : Nat), Closed md ops listed → (∀ j oj, ops[j]? = some oj → j ≠ i → listed.getD j true = false → (oi.apart ops oj = true ∧ labsB U i j = true) ∨ waits md ops 5 j i = true) →
      i ∈ Region.ready md ops listed → j ∈ Region.ready md ops listed → j ≠ i → ∃ oj, ops[j]? = some oj ∧ oi.apart ops oj = true ∧ labsB U i j = true := by
    intro listed j hcl hfree hr hj hji
    obtain ⟨hjun, oj, hoj, hall⟩ := mem_ready.1 hj
    rcases hfree j oj hoj hji hjun with h | h
    · exact ⟨oj, hoj, h⟩
    · have h1 := waits_listed hcl 5 j i oj hoj hall h
      have h0 := (mem_ready.1 hr).1
      rcases Nat.lt_or_ge i listed.size with h' | h'
      · simp [h'] at h0 h1; rw [h0] at h1; cases h1
      · simp [Array.getElem?_eq_none h'] at h1
  induction n with
  | zero =>
    intro listed Γ a hcl hfree hr H
    refine ⟨fun h => (by rw [h] at hr; cases hr), fun j hj => ?_⟩
    by_cases hji : j = i
    · subst hji; exact self H
    · exfalso
      have hj' := ready_mono hj hji
      unfold opX' at H
      by_cases hw : Region.wanted oi (yielded ops a.tmps) = true
      · rw [if_pos hw] at H
        cases hU : U i with
        | none => rw [hU] at H; obtain ⟨v, _, h⟩ := H; rw [h.1] at hj'; cases hj'
        | some us => rw [hU] at H; obtain ⟨v, hv⟩ := hne i us (argsOf oi a) hU; rw [(H.2 v hv).1] at hj'; cases hj'
      · rw [if_neg hw] at H
        rw [H.1] at hj'; cases hj'
  | succ n ih =>
    intro listed Γ a hcl hfree hr H
    refine ⟨fun h => (by rw [h] at hr; cases hr), fun j hj => ?_⟩
    by_cases hji : j = i
    · subst hji; exact self H
    · obtain ⟨oj, hoj, hap, hlab⟩ := other listed j hcl hfree hr hj hji
      simp only [labsB, Bool.and_eq_true, Bool.not_eq_true', List.all_eq_true] at hlab
      have h1 : opX' P ops w0 S0 U φ ρ oi i Γ a (fun Γ' a' => opX P ops w0 S0 U φ ρ j Γ' a' (wpAnyX P ops w0 S0 U φ ρ md Fin n ((listed.setIfInBounds i true).setIfInBounds j true))) :=
        opX'_mono (fun Γ' a' h => h.2 j (ready_mono hj hji)) H
      have h2 := opX_comm hoj hap (fun cs b => hsel i oi cs b hi) (fun cs b => hsel j oj cs b hoj) (Ne.symm hji) (by simpa using hlab.1.2) (by simpa using hlab.1.1) (fun u hu => by simpa using hlab.2 u hu) hne h1
      refine opX_mono (fun Γ' a' h3 => ih (listed.setIfInBounds j true) Γ' a' (hcl.set hj) ?_ (ready_mono hr (Ne.symm hji)) ?_) h2
      · intro k ok hk hki hun
        refine hfree k ok hk hki ?_
        by_cases hjk : j = k
        · subst hjk; exact (mem_ready.1 hj).1
        · rw [getD_set_ne true hjk] at hun; exact hun
      · rw [Array.setIfInBounds_comm _ _ hji]
        exact h3

theorem lex_X {Fin : (Nat → Fact) → Act → Prop} (hs : Region.noSelect ops = true) (hne : ∀ k us xs, U k = some us → ∃ v, φ k xs v) : ∀ (l : List Oper) (k : Nat) (listed : Array Bool) (Γ : Nat → Fact) (a : Act), (∀ j, l[j]? = ops[k + j]?) → Closed md ops listed →
    lexFromX U md ops l.length k listed = true → wpX P ops w0 S0 U φ ρ Fin k l Γ a → wpAnyX P ops w0 S0 U φ ρ md Fin l.length listed Γ a
  | [], _, _, _, _, _, _, hB, h => ⟨by simpa [lexFromX] using hB, h⟩
  | o :: l, k, listed, Γ, a, hl, hc, hB, h => by
    have h0 : ops[k]? = some o := by simpa using (hl 0).symm
    simp only [List.length_cons, lexFromX, Bool.and_eq_true] at hB
    obtain ⟨⟨hr, hf⟩, hB'⟩ := hB
    have hr' : k ∈ Region.ready md ops listed := by simpa using hr
    refine first_X h0 (Region.noSelect_spec hs) hne l.length listed Γ a hc ?_ hr' ?_
    · intro j oj hj hne' hun
      simp only [freeX, h0, List.all_eq_true, List.mem_range] at hf
      have h1 := hf j (Array.getElem?_eq_some_iff.1 hj).1
      simp only [hj, Bool.or_eq_true, beq_iff_eq, hne', false_or, hun, Bool.false_eq_true, Bool.and_eq_true] at h1
      exact h1
    · exact opX'_mono (fun Γ' a' h' => lex_X hs hne l (k + 1) _ Γ' a' (fun j => by have := hl (j + 1); simpa [Nat.add_assoc, Nat.add_comm 1 j] using this) (hc.set hr') hB' h') h

/-! ### it is so -/
def Sat (w0 : World) (S0 : Nat → Prop) (Γ : Nat → Fact) (w : World) : Prop :=
  Kept S0 w0 w ∧ ∃ own : Nat → Nat → Prop, (∀ l l' b, own l b → own l' b → l = l') ∧ (∀ l b, own l b → (S0 b ∨ w0.heap.size ≤ b) ∧ b < w.heap.size) ∧ ∀ l, Γ l (own l) w
theorem sat_step {Γ : Nat → Fact} {w w' : World} {k : Nat} {us : List Nat} {σ : Fact} (hΓ : ∀ l, Good (Γ l)) (hσ : Good σ) (h : Kept S0 w0 w) (own : Nat → Nat → Prop)
    (hd : ∀ l l' b, own l b → own l' b → l = l') (hb : ∀ l b, own l b → (S0 b ∨ w0.heap.size ≤ b) ∧ b < w.heap.size) (hf : ∀ l, Γ l (own l) w)
    (hk : Kept (fun b => ∃ u ∈ us, own u b) w w') (hnew : σ (fun b => (∃ u ∈ us, own u b) ∨ (w.heap.size ≤ b ∧ b < w'.heap.size)) w') : Sat w0 S0 (upd Γ k us σ) w' := by
  have hsz := hk.size
  have hsz0 := h.size
  refine ⟨h.step hk (fun b ⟨u, _, hu⟩ => (hb u b hu).1), fun l b => if l = k then ((∃ u ∈ us, own u b) ∨ (w.heap.size ≤ b ∧ b < w'.heap.size)) else l ∉ us ∧ own l b, ?_, ?_, ?_⟩
  · intro l l' b h1 h2
    by_cases e1 : l = k <;> by_cases e2 : l' = k
    · rw [e1, e2]
    · rw [if_pos e1] at h1
      rw [if_neg e2] at h2
      exfalso
      rcases h1 with ⟨u, hu, h1⟩ | h1
      · exact h2.1 (hd u l' b h1 h2.2 ▸ hu)
      · have := (hb l' b h2.2).2; omega
    · rw [if_neg e1] at h1
      rw [if_pos e2] at h2
      exfalso
      rcases h2 with ⟨u, hu, h2⟩ | h2
      · exact h1.1 (hd u l b h2 h1.2 ▸ hu)
      · have := (hb l b h1.2).2; omega
    · rw [if_neg e1] at h1
      rw [if_neg e2] at h2
      exact hd l l' b h1.2 h2.2
  · intro l b h1
    by_cases e1 : l = k
    · rw [if_pos e1] at h1
      rcases h1 with ⟨u, hu, h1⟩ | h1
      · have := hb u b h1; exact ⟨this.1, by omega⟩
      · exact ⟨.inr (by omega), h1.2⟩
    · rw [if_neg e1] at h1
      have := hb l b h1.2
      exact ⟨this.1, by omega⟩
  · intro l
    unfold upd
    by_cases e1 : l = k
    · simp only [e1, if_true]
      exact hnew
    · simp only [e1, if_false]
      by_cases e2 : l ∈ us
      · rw [if_pos e2]; trivial
      · rw [if_neg e2]
        refine hΓ l (own l) _ w w' (fun b h1 => ⟨e2, h1⟩) (fun b h1 => hk.block b (hb l b h1).2 (fun ⟨u, hu, h2⟩ => e2 (hd u l b h2 h1 ▸ hu))) (hf l)
theorem good_upd {Γ : Nat → Fact} {k : Nat} {us : List Nat} {σ : Fact} (hΓ : ∀ l, Good (Γ l)) (hσ : Good σ) : ∀ l, Good (upd Γ k us σ l) := by
  intro l
  unfold upd
  split
  · exact hσ
  · split
    · exact Good.none
    · exact hΓ l

theorem wpOp_of_X {Q : Exit → Act → World → Prop} (hρ : ∀ k xs v, Good (ρ k xs v)) {k : Nat} {Γ : Nat → Fact} {a : Act} {w : World} {K : (Nat → Fact) → Act → Prop} {K' : Act → World → Prop} (hΓ : ∀ l, Good (Γ l)) (hs : Sat w0 S0 Γ w)
    (h : ∀ Γ' a' w', (∀ l, Good (Γ' l)) → Sat w0 S0 Γ' w' → K Γ' a' → K' a' w') (hh : opX P ops w0 S0 U φ ρ k Γ a K) : wpOp P ops Q k K' a w := by
  unfold opX at hh
  unfold wpOp
  cases ho : ops[k]? with
  | none => rw [ho] at hh; exact h _ _ _ hΓ hs hh
  | some o =>
    rw [ho] at hh
    simp only [opX'] at hh
    by_cases hw : Region.wanted o (yielded ops a.tmps) = true
    · simp only [hw, if_true] at hh ⊢
      refine .inl ?_
      unfold Oper.wp
      cases hU : U k with
      | none =>
        rw [hU] at hh
        obtain ⟨v, hv, hh⟩ := hh
        rcases hv w hs.1 with h1 | ⟨h1, rfl⟩
        · rw [h1]; exact h _ _ _ hΓ hs hh
        · rw [h1]; exact h _ _ _ hΓ hs hh
      | some us =>
        rw [hU] at hh
        obtain ⟨ht, hh⟩ := hh
        obtain ⟨hk, own, hd, hb, hf⟩ := hs
        have h1 := ht (fun b => ∃ u ∈ us, own u b) w hk (fun b ⟨u, _, hu⟩ => hb u b hu) (fun u hu => hΓ u (own u) _ w w (fun b hb => ⟨u, hu, hb⟩) (fun _ _ => rfl) (hf u))
        have fin : ∀ v w', φ k (argsOf o a) v ∧ Kept (fun b => ∃ u ∈ us, own u b) w w' ∧ ρ k (argsOf o a) v (fun b => (∃ u ∈ us, own u b) ∨ (w.heap.size ≤ b ∧ b < w'.heap.size)) w' → K' (a.put o.dst v) w' := fun v w' ⟨p1, p2, p3⟩ =>
          h _ _ _ (good_upd hΓ (hρ k _ v)) (sat_step hΓ (hρ k _ v) hk own hd hb hf p2 p3) (hh v p1)
        unfold runs at h1
        generalize (execOp a.eval o).run P w = r at h1 ⊢
        cases r with
        | ok n w' =>
          cases n <;> simp only [Oper.upon] <;> try (exact h1.elim)
          case value v => exact fin v w' h1
          case skip => exact fin undef w' h1
          case enter f args => exact Calls.mono h1 fun e w'' ⟨v, he, h2⟩ => by subst he; exact fin v w'' h2
        | halt x w' => exact h1.elim
    · simp only [hw] at hh ⊢
      exact h _ _ _ hΓ hs hh
theorem wpAny_of_X {Fin : (Nat → Fact) → Act → Prop} {Q : Exit → Act → World → Prop} (hρ : ∀ k xs v, Good (ρ k xs v)) (hQ : ∀ Γ a w, Sat w0 S0 Γ w → Fin Γ a → Q .normal a w) : ∀ (n : Nat) (listed : Array Bool) (Γ : Nat → Fact) (a : Act) (w : World),
    (∀ l, Good (Γ l)) → Sat w0 S0 Γ w → wpAnyX P ops w0 S0 U φ ρ md Fin n listed Γ a → wpAny P md ops Q n listed a w
  | 0, _, Γ, a, w, _, hs, h => ⟨h.1, hQ Γ a w hs h.2⟩
  | n + 1, _, Γ, a, w, hg, hs, h => ⟨fun h0 => hQ Γ a w hs (h.1 h0), fun i hi => wpOp_of_X hρ hg hs (fun Γ' a' w' hg' hs' h' => wpAny_of_X hρ hQ n _ Γ' a' w' hg' hs' h') (h.2 i hi)⟩

/-- **one walk, in the order of the text** -/
theorem wp_region_x {id : Nat} {Q : Exit → Act → World → Prop} {a : Act} {w : World} {l : List Oper} (S0 : Nat → Prop) (U : Nat → Option (List Nat)) (φ : Nat → List Value → Value → Prop) (ρ : Nat → List Value → Value → Fact) (Γ : Nat → Fact)
    (hm : P.follows .mixedOrders = true) (hB : lexX U .any l.toArray = true) (hne : ∀ k us xs, U k = some us → ∃ v, φ k xs v) (hρ : ∀ k xs v, Good (ρ k xs v)) (hΓ : ∀ l, Good (Γ l)) (hs : Sat w S0 Γ w)
    (h : wpX P l.toArray w S0 U φ ρ (fun Γ' a' => ∀ w', Sat w S0 Γ' w' → Q .normal a' w') 0 l Γ a) : (Code.region id l.toArray true).wp P Q a w := by
  simp only [lexX, Bool.and_eq_true] at hB
  have hs' : Sat w S0 Γ w.drew := by
    obtain ⟨_, own, h1, h2, h3⟩ := hs
    exact ⟨(Kept.refl _ _).drew, own, h1, h2, fun l => hΓ l _ _ w w.drew (fun _ x => x) (fun _ _ => rfl) (h3 l)⟩
  refine wp_region_any hm (wpAny_of_X (w0 := w) (S0 := S0) (U := U) (φ := φ) (ρ := ρ) (Fin := fun Γ' a' => ∀ w', Sat w S0 Γ' w' → Q .normal a' w') hρ (fun Γ a w' h1 h2 => h2 w' h1) _ _ Γ a _ hΓ hs' ?_)
  have := lex_X (md := .any) (P := P) (w0 := w) (S0 := S0) (φ := φ) (ρ := ρ) (Fin := fun Γ' a' => ∀ w', Sat w S0 Γ' w' → Q .normal a' w') hB.1 hne l 0 (Array.replicate l.toArray.size false) Γ a (by simp)
    (fun k ok _ hl => by
      exfalso
      rcases Nat.lt_or_ge k l.toArray.size with h' | h'
      · have h'' : k < l.length := by simpa using h'
        simp [h''] at hl
      · have h'' : ¬ k < l.length := by simpa using h'
        simp [h''] at hl) (by simpa using hB.2) h
  simpa using this
end

/-! ### for use -/
def noCall (o : Oper) : Bool :=
  match o.op with
  | .move _ | .assign _ | .build .. | .load .. | .binOp .. | .unOp .. | .convert .. | .slice .. | .fieldAddr .. | .field .. | .indexAddr .. | .index .. | .lookup .. | .extract .. => true
  | .nilCheck _ => true
  | .call { callee := .builtin b, .. } => match b with | .len | .cap | .min | .max => true | _ => false
  | _ => false
theorem run_value_only {P : Program} {w w' : World} {s : Sem Value} {n : Next} (h : (do let x ← s; pure (Next.value x) : Sem Next).run P w = .ok n w') : ∃ x, n = .value x := by
  simp only [Sem.run_bind, Sem.run_pure] at h
  cases hs : s.run P w with
  | ok x w1 => rw [hs] at h; simp only [Result.andThen_ok] at h; injection h with h1 h2; exact ⟨x, h1.symm⟩
  | halt x w1 => rw [hs] at h; cases h
theorem no_enter {ρ : Operand → Value} {o : Oper} {P : Program} {w w' : World} {f : FuncId} {args : Array Value} (h : noCall o = true) : (execOp ρ o).run P w ≠ .ok (.enter f args) w' := by
  intro he
  obtain ⟨dst, op, ty, x1, x2, x3⟩ := o
  unfold noCall at h
  unfold execOp at he
  cases op with
  | call c =>
    obtain ⟨callee, cargs, ct⟩ := c
    cases callee with
    | builtin b =>
      simp only [resolve, invoke, Sem.run_bind, Sem.run_pure, Result.andThen_ok] at he
      cases b <;> first | (cases h; done) | (simp only [builtin] at he; obtain ⟨x, hx⟩ := run_value_only he; cases hx)
    | _ => simp at h
  | nilCheck x =>
    dsimp only at he
    split at he <;> try (simp only [Sem.run_pure] at he; injection he with h1 h2; cases h1; done)
    · simp [runtimePanic] at he
    · simp [runtimePanic] at he
    · simp [runtimePanic] at he
    · split at he
      · simp [runtimePanic] at he
      · simp only [Sem.run_bind] at he
        cases hp : Sem.run P program w with
        | halt x w1 => rw [hp] at he; cases he
        | ok pg w1 =>
          rw [hp, Result.andThen_ok] at he
          generalize Sem.run P (nilAhead _ _ _ _) w1 = r at he
          cases r with
          | halt x w2 => cases he
          | ok b w2 =>
            rw [Result.andThen_ok] at he
            by_cases hb : (b != some false) = true
            · rw [if_pos hb] at he
              simp [unsupported] at he
            · rw [if_neg hb] at he
              simp only [Sem.run_pure] at he; injection he with h1 h2; cases h1
      · simp only [Sem.run_pure] at he; injection he with h1 h2; cases h1
  | _ =>
    first
      | (cases h; done)
      | (obtain ⟨x, hx⟩ := run_value_only he; cases hx; done)
      | (simp only [Sem.run_pure] at he; injection he with h1 h2; cases h1; done)
      | skip

/-- a world that may stand there, as a letter -/
def WK (S0 : Nat → Prop) (w0 : World) : Type := { w : World // Kept S0 w0 w }
instance wk_some {S0 : Nat → Prop} {w0 : World} : Nonempty (WK S0 w0) := ⟨⟨w0, Kept.refl _ _⟩⟩
def wat {S0 : Nat → Prop} {w0 : World} (x : WK S0 w0) : World := x.1
theorem wat_kept {S0 : Nat → Prop} {w0 : World} (x : WK S0 w0) : Kept S0 w0 (wat x) := x.2
theorem wat_cell {S0 : Nat → Prop} {w0 : World} {p : Addr} (hp : p.block < w0.heap.size) (hs : ¬ S0 p.block) : ∀ x : WK S0 w0, (wat x).cell? p = w0.cell? p := fun x => (wat_kept x).cell hp hs
theorem wat_frozen {S0 : Nat → Prop} {w0 : World} {p : Addr} (hp : p.block < w0.heap.size) (hs : ¬ S0 p.block) : ∀ x : WK S0 w0, (wat x).frozen? p = w0.frozen? p := fun x => by
  have := (wat_kept x).block p.block hp hs
  simp [World.frozen?, this]

section
variable {P : Program} {ops : Array Oper} {w0 : World} {S0 : Nat → Prop} {U : Nat → Option (List Nat)} {φ : Nat → List Value → Value → Prop} {ρ : Nat → List Value → Value → Fact} {Fin : (Nat → Fact) → Act → Prop}
  {k : Nat} {o : Oper} {rest : List Oper} {Γ : Nat → Fact} {a : Act}
theorem wpX_quiet (hw : Region.wanted o (yielded ops a.tmps) = true) (hk : U k = none) (hnc : noCall o = true)
    (h : ∀ K : Act → Prop, (∀ a, wpX P ops w0 S0 U φ ρ Fin (k + 1) rest Γ a → K a) → o.quiet P a (fun w' => ∃ x : WK S0 w0, w' = wat x) K) : wpX P ops w0 S0 U φ ρ Fin k (o :: rest) Γ a := by
  simp only [wpX, opX', hw, if_true, hk]
  obtain ⟨v, h1, h2⟩ := h _ (fun _ h => h)
  refine ⟨v, fun w hw => ?_, h2⟩
  have h3 := h1 w ⟨⟨w, hw⟩, rfl⟩
  unfold Oper.quietAt at h3
  generalize hr : (execOp a.eval o).run P w = r at h3
  cases r with
  | ok n w' =>
    cases n <;> simp only [Oper.quietUpon] at h3
    case value u => obtain ⟨rfl, rfl⟩ := h3; exact .inl rfl
    case skip => obtain ⟨rfl, rfl⟩ := h3; exact .inr ⟨rfl, rfl⟩
    case enter f args => exact absurd hr (no_enter hnc)
  | halt x w' => simp only [Oper.quietUpon] at h3
theorem wpX_skip (hw : Region.wanted o (yielded ops a.tmps) = false) (h : wpX P ops w0 S0 U φ ρ Fin (k + 1) rest Γ (a.put o.dst undef)) : wpX P ops w0 S0 U φ ρ Fin k (o :: rest) Γ a := by
  simp only [wpX, opX', hw]
  exact h
theorem wpX_loud {us : List Nat} (hw : Region.wanted o (yielded ops a.tmps) = true) (hk : U k = some us) (h1 : trip P w0 S0 φ ρ o us k Γ a)
    (h2 : ∀ v, φ k (argsOf o a) v → ∀ K : Act → Prop, (∀ a', wpX P ops w0 S0 U φ ρ Fin (k + 1) rest (upd Γ k us (ρ k (argsOf o a) v)) a' → K a') → K (a.put o.dst v)) : wpX P ops w0 S0 U φ ρ Fin k (o :: rest) Γ a := by
  simp only [wpX, opX', hw, if_true, hk]
  exact ⟨h1, fun v hv => h2 v hv _ (fun _ h => h)⟩
theorem wpX_nil (h : Fin Γ a) : wpX P ops w0 S0 U φ ρ Fin k [] Γ a := h
end

/-- what 'runs' wants at a call that has come up: the contract's end -/
theorem runs_enter {P : Program} {o : Oper} {a : Act} {w : World} {R : Value → World → Prop} {f : FuncId} {args : Array Value} (hr : (execOp a.eval o).run P w = .ok (.enter f args) w)
    (h : Calls P f args w fun e w'' => ∃ v, e = .returned v ∧ R v w'') : runs P o a w R := by
  unfold runs
  rw [hr]
  exact h
theorem runs_value {P : Program} {o : Oper} {a : Act} {w w' : World} {R : Value → World → Prop} {v : Value} (hr : (execOp a.eval o).run P w = .ok (.value v) w') (h : R v w') : runs P o a w R := by
  unfold runs
  rw [hr]
  exact h
theorem runs_skip {P : Program} {o : Oper} {a : Act} {w w' : World} {R : Value → World → Prop} (hr : (execOp a.eval o).run P w = .ok .skip w') (h : R undef w') : runs P o a w R := by
  unfold runs
  rw [hr]
  exact h
theorem runs_app {P : Program} {w : World} {o : Oper} {a : Act} {R : Value → World → Prop} (s x : Operand)
    {t e : TypeId} {size bytes : Nat} (hT : ST P t e size bytes) (ho : o.op = .call { callee := .builtin .append, args := #[s, x], argTypes := #[t, t] })
    (base : Nat) {n c : Nat} {A : Option Addr} {xs : List Value} (hs : a.eval s = .slice A n c) (hown : w.ownsRow base e size (.slice A n c) n xs)
    {m c2 : Nat} {A2 : Option Addr} {news : List Value} (hx : a.eval x = .slice A2 m c2) (hr : Sl w size (.slice A2 m c2) news) (h1 : ∀ u ∈ news, u.oneCell' = true)
    (h63 : n + m ≤ maxLen) (hby : (n + m) * bytes ≤ 140737488355328) (hbase : base ≤ w.heap.size)
    (h : ∀ A' c' w', w'.ownsRow base e size (.slice A' (n + m) c') (n + m) (xs ++ news) → w.grownBy w' (Value.ownBlock (.slice A n c)) →
      (Value.ownBlock (.slice A' (n + m) c') = Value.ownBlock (.slice A n c) ∨ Value.ownBlock (.slice A' (n + m) c') = some w.heap.size) → R (.slice A' (n + m) c') w') : runs P o a w R := by
  obtain ⟨A', c', w', hrun, h2, h3, h4⟩ := append_run (P := P) w hT o.type base n c A xs hown m c2 A2 news hr h1 h63 hby hbase
  unfold runs execOp
  simp only [ho, resolve, invoke, builtin, Sem.run_bind, Sem.run_pure, Result.andThen_ok, List.map_toArray, List.map_cons, List.map_nil, hs, hx, hrun]
  exact h A' c' w' h2 h3 h4

/-- a row of the region's own -/
def OwnF (base : Nat) (e : TypeId) (size n : Nat) (xs : List Value) (v : Value) : Fact := fun S w => (∀ g, v.ownBlock = some g → S g) ∧ w.ownsRow base e size v n xs
theorem good_own (base : Nat) (e : TypeId) (size n : Nat) (xs : List Value) (v : Value) : Good (OwnF base e size n xs v) := by
  intro S S' w w' h1 h2 ⟨h3, h4⟩
  refine ⟨fun g hg => h1 g (h3 g hg), ?_⟩
  obtain ⟨h5, h6⟩ := h4
  refine ⟨h5, ?_⟩
  rcases h6 with h6 | ⟨g, cap, cur, hv, hb, hg, r⟩
  · exact .inl h6
  · exact .inr ⟨g, cap, cur, hv, hb, (h2 g (h3 g (by rw [hv]; rfl))).trans hg, r⟩
/-- behind a call that makes a row -/
theorem own_fresh {S : Nat → Prop} {w w' : World} {base n : Nat} {e : TypeId} {size : Nat} {v : Value} {xs : List Value} (h : w'.ownsRow w.heap.size e size v n xs) (hb : base ≤ w.heap.size) :
    OwnF base e size n xs v (fun b => S b ∨ (w.heap.size ≤ b ∧ b < w'.heap.size)) w' :=
  ⟨fun g hg => .inr ⟨(h.lt g hg).1, (h.lt g hg).2⟩, own_base h hb⟩
/-- behind an append -/
theorem own_app {S : Nat → Prop} {w w' : World} {base n m : Nat} {e : TypeId} {size : Nat} {v v' : Value} {xs ys : List Value} (h : OwnF base e size n xs v S w) (h' : w'.ownsRow base e size v' m ys)
    (hf : v'.ownBlock = v.ownBlock ∨ v'.ownBlock = some w.heap.size) : OwnF base e size m ys v' (fun b => S b ∨ (w.heap.size ≤ b ∧ b < w'.heap.size)) w' := by
  refine ⟨fun g hg => ?_, h'⟩
  rcases hf with hf | hf
  · exact .inl (h.1 g (hf ▸ hg))
  · have : g = w.heap.size := by rw [hf] at hg; injection hg with hg; exact hg.symm
    exact .inr ⟨by omega, (h'.lt g hg).2⟩
theorem own_kept {S : Nat → Prop} {w w' : World} {base n : Nat} {e : TypeId} {size : Nat} {v : Value} {xs : List Value} (h : OwnF base e size n xs v S w) (hg : w.grownBy w' v.ownBlock) : Kept S w w' :=
  Kept.of_grown hg (fun g hgg => h.1 g hgg)
/-- a slice, of any address -/
def IsSlice (n : Nat) (v : Value) : Prop := ∃ A c, v = .slice A n c
theorem isSlice_any (n : Nat) : ∃ v, IsSlice n v := ⟨.slice none n 0, none, 0, rfl⟩
/-- a loud operation's word: the labels that it takes over; what its value is; what it leaves -/
structure Loud where
  us : List Nat
  ph : List Value → Value → Prop
  rh : List Value → Value → Fact
structure Loud.Ok (s : Loud) : Prop where
  some_ : ∀ xs, ∃ v, s.ph xs v
  good : ∀ xs v, Good (s.rh xs v)
/-- it makes a row -/
def rowL (us : List Nat) (base : Nat) (e : TypeId) (size n : Nat) (xs : List Value) : Loud := ⟨us, fun _ => IsSlice n, fun _ => OwnF base e size n xs⟩
theorem rowL_ok (us : List Nat) (base : Nat) (e : TypeId) (size n : Nat) (xs : List Value) : (rowL us base e size n xs).Ok := ⟨fun _ => isSlice_any n, fun _ => good_own _ _ _ _ _⟩
/-- it makes memory, and hands back a value that leads to none of it -/
def plainL (us : List Nat) (v : Value) : Loud := ⟨us, fun _ u => u = v, fun _ _ => Fact.none⟩
theorem plainL_ok (us : List Nat) (v : Value) : (plainL us v).Ok := ⟨fun _ => ⟨v, rfl⟩, fun _ _ => Good.none⟩
/-- a word of one's own -/
def factL (us : List Nat) (ph : Value → Prop) (rh : Value → Fact) : Loud := ⟨us, fun _ => ph, fun _ => rh⟩
theorem factL_ok {us : List Nat} {ph : Value → Prop} {rh : Value → Fact} (h : ∃ v, ph v) (k : ∀ v, Good (rh v)) : (factL us ph rh).Ok := ⟨fun _ => h, fun _ => k⟩
/-- .. that looks at the operands -/
def argL (us : List Nat) (ph : List Value → Value → Prop) (rh : List Value → Value → Fact) : Loud := ⟨us, ph, rh⟩
theorem argL_ok {us : List Nat} {ph : List Value → Value → Prop} {rh : List Value → Value → Fact} (h : ∀ xs, ∃ v, ph xs v) (k : ∀ xs v, Good (rh xs v)) : (argL us ph rh).Ok := ⟨h, k⟩
/-- all are in order -/
def Louds (sp : List (Nat × Loud)) : Prop := ∀ x ∈ sp, x.2.Ok
theorem Louds.nil : Louds [] := fun _ h => by cases h
theorem Louds.cons {k : Nat} {s : Loud} {l : List (Nat × Loud)} (h : s.Ok) (t : Louds l) : Louds ((k, s) :: l) := fun x hx => by
  rcases List.mem_cons.1 hx with rfl | hx
  · exact h
  · exact t x hx
def loudAt : List (Nat × Loud) → Nat → Option Loud
  | [], _ => none
  | (i, s) :: l, k => if i = k then some s else loudAt l k
theorem loudAt_mem : ∀ (l : List (Nat × Loud)) (k : Nat) (s : Loud), loudAt l k = some s → ∃ i, (i, s) ∈ l
  | [], _, _, h => by cases h
  | (i, t) :: l, k, s, h => by
    unfold loudAt at h
    split at h
    · injection h with h; subst h; exact ⟨i, by simp⟩
    · obtain ⟨j, hj⟩ := loudAt_mem l k s h; exact ⟨j, by simp [hj]⟩
def spU (sp : List (Nat × Loud)) (k : Nat) : Option (List Nat) := (loudAt sp k).map Loud.us
def spP (sp : List (Nat × Loud)) (k : Nat) (xs : List Value) (v : Value) : Prop := match loudAt sp k with | some s => s.ph xs v | none => True
def spR (sp : List (Nat × Loud)) (k : Nat) (xs : List Value) (v : Value) : Fact := match loudAt sp k with | some s => s.rh xs v | none => Fact.none

theorem sat_none {w : World} : Sat w (fun _ => False) (fun _ => Fact.none) w :=
  ⟨Kept.refl _ _, fun _ _ => False, fun _ _ _ h => h.elim, fun _ _ h => h.elim, fun _ => trivial⟩
/-- one row that is there already goes into the region, under the label n -/
def labelled (n : Nat) (ρ : Fact) : Nat → Fact := fun l => if l = n then ρ else Fact.none
theorem sat_one {w : World} {ρ : Fact} (n : Nat) (S0 : Nat → Prop) (hS : ∀ b, S0 b → b < w.heap.size) (h : ρ S0 w) : Sat w S0 (labelled n ρ) w :=
  ⟨Kept.refl _ _, fun l b => l = n ∧ S0 b, fun l l' b h h' => h.1.trans h'.1.symm, fun l b h => ⟨.inl h.2, hS b h.2⟩, fun l => by
    unfold labelled
    by_cases e : l = n
    · subst e; simpa using h
    · simp only [e, if_false]; trivial⟩
theorem good_one {ρ : Fact} (n : Nat) (h : Good ρ) : ∀ l, Good (labelled n ρ l) := fun l => by
  unfold labelled
  by_cases e : l = n
  · simp only [e, if_true]; exact h
  · simp only [e, if_false]; exact Good.none
theorem good_nothing : ∀ l : Nat, Good ((fun _ => Fact.none) l) := fun _ => Good.none
/-- at the end: a label's fact -/
theorem sat_get {w0 w : World} {S0 : Nat → Prop} {Γ : Nat → Fact} (h : Sat w0 S0 Γ w) (l : Nat) : ∃ S : Nat → Prop, (∀ b, S b → (S0 b ∨ w0.heap.size ≤ b) ∧ b < w.heap.size) ∧ Γ l S w := by
  obtain ⟨_, own, _, h1, h2⟩ := h
  exact ⟨own l, h1 l, h2 l⟩
/-- a row that the region has made -/
theorem sat_row {w0 w : World} {S0 : Nat → Prop} {Γ : Nat → Fact} (h : Sat w0 S0 Γ w) (l : Nat) {base n : Nat} {e : TypeId} {size : Nat} {xs : List Value} {v : Value} (hl : Γ l = OwnF base e size n xs v) :
    w.ownsRow base e size v n xs := by
  obtain ⟨S, _, h2⟩ := sat_get h l
  rw [hl] at h2
  exact h2.2
theorem sat_below {w0 w : World} {Γ : Nat → Fact} (h : Sat w0 (fun _ => False) Γ w) : Below w0.heap.size w0 w := h.1.below

/-- **the region's walk**: sp lists the loud operations by their numbers -/
theorem wp_region_loud {P : Program} {id : Nat} {Q : Exit → Act → World → Prop} {a : Act} {w : World} {l : List Oper} (S0 : Nat → Prop) (sp : List (Nat × Loud)) (Γ : Nat → Fact)
    (hm : P.follows .mixedOrders = true) (hB : lexX (spU sp) .any l.toArray = true) (hsp : Louds sp) (hΓ : ∀ l, Good (Γ l)) (hs : Sat w S0 Γ w)
    (h : wpX P l.toArray w S0 (spU sp) (spP sp) (spR sp) (fun Γ' a' => ∀ w', Sat w S0 Γ' w' → Q .normal a' w') 0 l Γ a) : (Code.region id l.toArray true).wp P Q a w := by
  refine wp_region_x S0 (spU sp) (spP sp) (spR sp) Γ hm hB ?_ ?_ hΓ hs h
  · intro k us xs hk
    unfold spU at hk
    unfold spP
    cases hl : loudAt sp k with
    | none => rw [hl] at hk; cases hk
    | some s =>
      obtain ⟨i, hi⟩ := loudAt_mem sp k s hl
      exact (hsp _ hi).some_ xs
  · intro k xs v
    unfold spR
    cases hl : loudAt sp k with
    | none => exact Good.none
    | some s =>
      obtain ⟨i, hi⟩ := loudAt_mem sp k s hl
      exact (hsp _ hi).good xs v

end Go.Proofs.YtecfkhgocjbocaaGreatDoor
