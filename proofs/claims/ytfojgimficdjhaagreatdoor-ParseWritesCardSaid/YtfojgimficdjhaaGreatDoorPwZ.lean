/-
  A region that draws its order, walked once (XReg), with loud operations that READ a label's facts without taking the label over.
  Contract of package parse: words.
  Contract of package parse: Write.
  Contract of package parse: Write, walked.
  Contracts of layer 6's reference: digits, Write.
-/
import Derived.Test.YtfojgimficdjhaaGreatDoorWh
import Derived.Test.YtfojgimficdjhaaGreatDoorPrB
import Derived.Test.YtfojgimficdjhaaGreatDoorPrN
import Derived.Test.YtfojgimficdjhaaGreatDoorSc4
namespace Go.Proofs.YtfojgimficdjhaaGreatDoor.RD
set_option linter.unusedVariables false
set_option linter.unusedSimpArgs false
open Go Go.RowKit

section
variable (P : Program) (ops : Array Oper) (w0 : World) (S0 : Nat → Prop) (U : Nat → Option (List Nat)) (R : Nat → List Nat) (φ : Nat → List Value → Value → Prop) (ρ : Nat → List Value → Value → Fact)

/-- a loud operation: what it needs, what it leaves -/
def trip (o : Oper) (us : List Nat) (k : Nat) (Γ : Nat → Fact) (a : Act) : Prop :=
  ∀ (S : Nat → Prop) (w : World), Kept S0 w0 w → (∀ b, S b → (S0 b ∨ w0.heap.size ≤ b) ∧ b < w.heap.size) → (∀ u ∈ us, Γ u S w) → (∀ u ∈ R k, ∃ S', Γ u S' w) →
    runs P o a w fun v w' => φ k (argsOf o a) v ∧ Kept S w w' ∧ ρ k (argsOf o a) v (fun b => S b ∨ (w.heap.size ≤ b ∧ b < w'.heap.size)) w'
/-- a quiet one -/
def calm (o : Oper) (a : Act) (v : Value) : Prop :=
  ∀ w, Kept S0 w0 w → (execOp a.eval o).run P w = .ok (.value v) w ∨ ((execOp a.eval o).run P w = .ok .skip w ∧ v = undef)

def opX' (o : Oper) (k : Nat) (Γ : Nat → Fact) (a : Act) (K : (Nat → Fact) → Act → Prop) : Prop :=
  if Region.wanted o (yielded ops a.tmps) = true then
    match U k with
    | none => ∃ v, calm P w0 S0 o a v ∧ K Γ (a.put o.dst v)
    | some us => trip P w0 S0 R φ ρ o us k Γ a ∧ ∀ v, φ k (argsOf o a) v → K (upd Γ k us (ρ k (argsOf o a) v)) (a.put o.dst v)
  else K Γ (a.put o.dst undef)
def opX (k : Nat) (Γ : Nat → Fact) (a : Act) (K : (Nat → Fact) → Act → Prop) : Prop :=
  match ops[k]? with
  | none => K Γ a
  | some o => opX' P ops w0 S0 U R φ ρ o k Γ a K
def wpX (Fin : (Nat → Fact) → Act → Prop) : Nat → List Oper → (Nat → Fact) → Act → Prop
  | _, [], Γ, a => Fin Γ a
  | k, o :: l, Γ, a => opX' P ops w0 S0 U R φ ρ o k Γ a (wpX Fin (k + 1) l)
def wpAnyX (md : Region.Mode) (Fin : (Nat → Fact) → Act → Prop) : Nat → Array Bool → (Nat → Fact) → Act → Prop
  | 0, listed, Γ, a => Region.ready md ops listed = [] ∧ Fin Γ a
  | n + 1, listed, Γ, a => (Region.ready md ops listed = [] → Fin Γ a) ∧ ∀ i ∈ Region.ready md ops listed, opX P ops w0 S0 U R φ ρ i Γ a (wpAnyX md Fin n (listed.setIfInBounds i true))
end

section
variable {P : Program} {ops : Array Oper} {w0 : World} {S0 : Nat → Prop} {U : Nat → Option (List Nat)} {R : Nat → List Nat} {φ : Nat → List Value → Value → Prop} {ρ : Nat → List Value → Value → Fact} {md : Region.Mode}

theorem opX'_mono {o : Oper} {k : Nat} {Γ : Nat → Fact} {a : Act} {K K' : (Nat → Fact) → Act → Prop} (h : ∀ Γ a, K Γ a → K' Γ a) (hh : opX' P ops w0 S0 U R φ ρ o k Γ a K) : opX' P ops w0 S0 U R φ ρ o k Γ a K' := by
  unfold opX' at *
  by_cases hw : Region.wanted o (yielded ops a.tmps) = true
  · rw [if_pos hw] at hh ⊢
    cases hU : U k with
    | none => rw [hU] at hh; obtain ⟨v, h1, h2⟩ := hh; exact ⟨v, h1, h _ _ h2⟩
    | some us => rw [hU] at hh; exact ⟨hh.1, fun v hv => h _ _ (hh.2 v hv)⟩
  · rw [if_neg hw] at hh ⊢
    exact h _ _ hh
theorem opX_mono {k : Nat} {Γ : Nat → Fact} {a : Act} {K K' : (Nat → Fact) → Act → Prop} (h : ∀ Γ a, K Γ a → K' Γ a) (hh : opX P ops w0 S0 U R φ ρ k Γ a K) : opX P ops w0 S0 U R φ ρ k Γ a K' := by
  unfold opX at *
  cases ho : ops[k]? with
  | none => rw [ho] at hh; exact h _ _ hh
  | some o => rw [ho] at hh; exact opX'_mono h hh

theorem trip_same {o : Oper} {us : List Nat} {k : Nat} {Γ Γ' : Nat → Fact} {a a' : Act} (h : trip P w0 S0 R φ ρ o us k Γ a) (he : execOp a'.eval o = execOp a.eval o) (hx : argsOf o a' = argsOf o a) (hΓ : ∀ u ∈ us, ∀ S w, Γ' u S w → Γ u S w) (hR : ∀ u ∈ R k, ∀ S w, Γ' u S w → Γ u S w) : trip P w0 S0 R φ ρ o us k Γ' a' := by
  intro S w h1 h2 h3 h4
  have := h S w h1 h2 (fun u hu => hΓ u hu S w (h3 u hu)) (fun u hu => by obtain ⟨S', h5⟩ := h4 u hu; exact ⟨S', hR u hu S' w h5⟩)
  unfold runs at *
  rw [he, hx]
  exact this
theorem calm_same {o : Oper} {a a' : Act} {v : Value} (h : calm P w0 S0 o a v) (he : execOp a'.eval o = execOp a.eval o) : calm P w0 S0 o a' v := by
  intro w hw
  rw [he]
  exact h w hw
theorem calm_unique {o : Oper} {a : Act} {v u : Value} (h : calm P w0 S0 o a v) (k : calm P w0 S0 o a u) : v = u := by
  rcases h w0 (Kept.refl _ _) with h1 | ⟨h1, rfl⟩ <;> rcases k w0 (Kept.refl _ _) with k1 | ⟨k1, rfl⟩
  · rw [h1] at k1; injection k1 with k1; injection k1
  · rw [h1] at k1; injection k1 with k1; cases k1
  · rw [h1] at k1; injection k1 with k1; cases k1
  · rfl

theorem opX_comm {i j : Nat} {oi oj : Oper} (hj : ops[j]? = some oj) (hap : oi.apart ops oj = true) (hsi : ∀ cs b, oi.op ≠ .select cs b) (hsj : ∀ cs b, oj.op ≠ .select cs b)
    (hij : i ≠ j) (hUi : j ∉ usesOf U i) (hUj : i ∉ usesOf U j) (hd : ∀ u ∈ usesOf U i, u ∉ usesOf U j) (hRi : j ∉ R i) (hRj : i ∉ R j) (hr1 : ∀ u ∈ R i, u ∉ usesOf U j) (hr2 : ∀ u ∈ R j, u ∉ usesOf U i) (hne : ∀ k us xs, U k = some us → ∃ v, φ k xs v) {Γ : Nat → Fact} {a : Act} {K : (Nat → Fact) → Act → Prop}
    (h : opX' P ops w0 S0 U R φ ρ oi i Γ a (fun Γ' a' => opX P ops w0 S0 U R φ ρ j Γ' a' K)) : opX P ops w0 S0 U R φ ρ j Γ a (fun Γ' a' => opX' P ops w0 S0 U R φ ρ oi i Γ' a' K) := by
  obtain ⟨h1, h2, h3⟩ := Oper.apart_spec hap
  have ei : ∀ (a : Act) u, execOp (a.put oj.dst u).eval oi = execOp a.eval oi := fun a u => execOp_put oi hsi a oj.dst u h3
  have ej : ∀ (a : Act) u, execOp (a.put oi.dst u).eval oj = execOp a.eval oj := fun a u => execOp_put oj hsj a oi.dst u h1
  have xi : ∀ (a : Act) u, argsOf oi (a.put oj.dst u) = argsOf oi a := fun a u => argsOf_put oi a oj.dst u h3
  have xj : ∀ (a : Act) u, argsOf oj (a.put oi.dst u) = argsOf oj a := fun a u => argsOf_put oj a oi.dst u h1
  have wi : ∀ (a : Act) u, Region.wanted oi (yielded ops (a.put oj.dst u).tmps) = Region.wanted oi (yielded ops a.tmps) := fun a u => wanted_put oi a oj.dst u h3
  have wj : ∀ (a : Act) u, Region.wanted oj (yielded ops (a.put oi.dst u).tmps) = Region.wanted oj (yielded ops a.tmps) := fun a u => wanted_put oj a oi.dst u h1
  have pc : ∀ (a : Act) v u, (a.put oj.dst u).put oi.dst v = (a.put oi.dst v).put oj.dst u := fun a v u => (Act.put_comm a v u h2).symm
  unfold opX at *
  simp only [hj] at *
  unfold opX' at *
  by_cases hwi : Region.wanted oi (yielded ops a.tmps) = true
  · rw [if_pos hwi] at h
    cases hUi' : U i with
    | none =>
      rw [hUi'] at h
      obtain ⟨v, hv, h⟩ := h
      rw [wj] at h
      by_cases hwj : Region.wanted oj (yielded ops a.tmps) = true
      · rw [if_pos hwj] at h ⊢
        cases hUj' : U j with
        | none =>
          rw [hUj'] at h
          obtain ⟨u, hu, h⟩ := h
          refine ⟨u, calm_same hu (ej a v).symm, ?_⟩
          dsimp only
          rw [wi, if_pos hwi]
          exact ⟨v, calm_same hv (ei a u), by rw [pc]; exact h⟩
        | some vs =>
          rw [hUj'] at h
          refine ⟨trip_same h.1 (ej a v).symm (xj a v).symm (fun _ _ _ _ x => x) (fun _ _ _ _ x => x), fun u hu => ?_⟩
          dsimp only
          rw [wi, if_pos hwi]
          exact ⟨v, calm_same hv (ei a u), by rw [pc, ← xj a v]; exact h.2 u (by rw [xj a v]; exact hu)⟩
      · rw [if_neg hwj] at h ⊢
        dsimp only
        rw [wi, if_pos hwi]
        exact ⟨v, calm_same hv (ei a _), by rw [pc]; exact h⟩
    | some us =>
      rw [hUi'] at h
      obtain ⟨ht, h⟩ := h
      simp only [usesOf, hUi', Option.getD_some] at hUi hd
      obtain ⟨v0, hv0⟩ := hne i us (argsOf oi a) hUi'
      simp only [wj] at h
      have keep : ∀ (vs : List Nat) (u : Value), U j = some vs → trip P w0 S0 R φ ρ oi us i (upd Γ j vs (ρ j (argsOf oj a) u)) (a.put oj.dst u) := fun vs u hvs =>
        trip_same ht (ei a u) (xi a u) (fun x hx S w hΓ => by
          simp only [usesOf, hvs, Option.getD_some] at hd
          unfold upd at hΓ
          rw [if_neg (fun e : x = j => hUi (e ▸ hx)), if_neg (hd x hx)] at hΓ
          exact hΓ) (fun x hx S w hΓ => by
          simp only [usesOf, hvs, Option.getD_some] at hr1
          unfold upd at hΓ
          rw [if_neg (fun e : x = j => hRi (e ▸ hx)), if_neg (hr1 x hx)] at hΓ
          exact hΓ)
      by_cases hwj : Region.wanted oj (yielded ops a.tmps) = true
      · rw [if_pos hwj]
        simp only [hwj, if_true] at h
        cases hUj' : U j with
        | none =>
          simp only [hUj'] at h
          obtain ⟨u, hu, _⟩ := h v0 hv0
          refine ⟨u, calm_same hu (ej a v0).symm, ?_⟩
          dsimp only
          rw [wi, if_pos hwi]
          rw [xi]
          refine ⟨trip_same ht (ei a u) (xi a u) (fun _ _ _ _ x => x) (fun _ _ _ _ x => x), fun v hv => ?_⟩
          obtain ⟨u', hu', h'⟩ := h v hv
          have : u = u' := calm_unique (calm_same hu (ej a v0).symm) (calm_same hu' (ej a v).symm)
          subst this
          rw [pc]
          exact h'
        | some vs =>
          simp only [hUj'] at h
          simp only [usesOf, hUj', Option.getD_some] at hUj
          refine ⟨trip_same (h v0 hv0).1 (ej a v0).symm (xj a v0).symm (fun x hx S w hΓ => ?_) (fun x hx S w hΓ => ?_), fun u hu => ?_⟩
          · unfold upd
            rw [if_neg (fun e : x = i => hUj (e ▸ hx))]
            split
            · trivial
            · exact hΓ
          · unfold upd
            rw [if_neg (fun e : x = i => hRj (e ▸ hx))]
            split
            · trivial
            · exact hΓ
          · dsimp only
            rw [wi, if_pos hwi]
            rw [xi]
            refine ⟨keep vs u hUj', fun v hv => ?_⟩
            rw [pc, ← upd_comm Γ i j us vs _ _ hij hUj hUi, ← xj a v]
            exact (h v hv).2 u (by rw [xj a v]; exact hu)
      · rw [if_neg hwj]
        simp only [hwj] at h
        dsimp only
        rw [wi, if_pos hwi]
        rw [xi]
        refine ⟨trip_same ht (ei a _) (xi a _) (fun _ _ _ _ x => x) (fun _ _ _ _ x => x), fun v hv => ?_⟩
        rw [pc]
        exact h v hv
  · rw [if_neg hwi] at h
    rw [wj] at h
    by_cases hwj : Region.wanted oj (yielded ops a.tmps) = true
    · rw [if_pos hwj] at h ⊢
      cases hUj' : U j with
      | none =>
        rw [hUj'] at h
        obtain ⟨u, hu, h⟩ := h
        refine ⟨u, calm_same hu (ej a _).symm, ?_⟩
        dsimp only
        rw [wi, if_neg hwi, pc]
        exact h
      | some vs =>
        rw [hUj'] at h
        refine ⟨trip_same h.1 (ej a _).symm (xj a _).symm (fun _ _ _ _ x => x) (fun _ _ _ _ x => x), fun u hu => ?_⟩
        dsimp only
        rw [wi, if_neg hwi, pc, ← xj a undef]
        exact h.2 u (by rw [xj a undef]; exact hu)
    · rw [if_neg hwj] at h ⊢
      dsimp only
      rw [wi, if_neg hwi, pc]
      exact h

def labsB (U : Nat → Option (List Nat)) (R : Nat → List Nat) (i j : Nat) : Bool := (!(usesOf U j).contains i && !(usesOf U i).contains j && (usesOf U i).all fun u => !(usesOf U j).contains u) && (!(R j).contains i && !(R i).contains j && ((R i).all fun u => !(usesOf U j).contains u) && (R j).all fun u => !(usesOf U i).contains u)
def freeX (U : Nat → Option (List Nat)) (R : Nat → List Nat) (md : Region.Mode) (ops : Array Oper) (listed : Array Bool) (i : Nat) : Bool :=
  match ops[i]? with
  | none => false
  | some oi => (List.range ops.size).all fun j => j == i || listed.getD j true || match ops[j]? with
    | some oj => (oi.apart ops oj && labsB U R i j) || waits md ops 5 j i
    | none => true
def lexFromX (U : Nat → Option (List Nat)) (R : Nat → List Nat) (md : Region.Mode) (ops : Array Oper) : Nat → Nat → Array Bool → Bool
  | 0, _, listed => (Region.ready md ops listed).isEmpty
  | n + 1, k, listed => (Region.ready md ops listed).contains k && freeX U R md ops listed k && lexFromX U R md ops n (k + 1) (listed.setIfInBounds k true)
/-- one walk serves: by reckoning -/
def lexX (U : Nat → Option (List Nat)) (R : Nat → List Nat) (md : Region.Mode) (ops : Array Oper) : Bool := Region.noSelect ops && lexFromX U R md ops ops.size 0 (Array.replicate ops.size false)

theorem first_X {Fin : (Nat → Fact) → Act → Prop} {i : Nat} {oi : Oper} (hi : ops[i]? = some oi) (hsel : ∀ (j : Nat) (o : Oper) cs b, ops[j]? = some o → o.op ≠ .select cs b) (hne : ∀ k us xs, U k = some us → ∃ v, φ k xs v) :
    ∀ (n : Nat) (listed : Array Bool) (Γ : Nat → Fact) (a : Act), Closed md ops listed →
      (∀ j oj, ops[j]? = some oj → j ≠ i → listed.getD j true = false → (oi.apart ops oj = true ∧ labsB U R i j = true) ∨ waits md ops 5 j i = true) →
      i ∈ Region.ready md ops listed → opX' P ops w0 S0 U R φ ρ oi i Γ a (wpAnyX P ops w0 S0 U R φ ρ md Fin n (listed.setIfInBounds i true)) →
      wpAnyX P ops w0 S0 U R φ ρ md Fin (n + 1) listed Γ a := by
  intro n
  have self : ∀ {Γ a K}, opX' P ops w0 S0 U R φ ρ oi i Γ a K → opX P ops w0 S0 U R φ ρ i Γ a K := fun h => by unfold opX; simp only [hi]; exact h
  -- an operation beside i
  have other : ∀ (listed : Array Bool) (j : Nat), Closed md ops listed → (∀ j oj, ops[j]? = some oj → j ≠ i → listed.getD j true = false → (oi.apart ops oj = true ∧ labsB U R i j = true) ∨ waits md ops 5 j i = true) →
      i ∈ Region.ready md ops listed → j ∈ Region.ready md ops listed → j ≠ i → ∃ oj, ops[j]? = some oj ∧ oi.apart ops oj = true ∧ labsB U R i j = true := by
    intro listed j hcl hfree hr hj hji
    obtain ⟨hjun, oj, hoj, hall⟩ := mem_ready.1 hj
    rcases hfree j oj hoj hji hjun with h | h
    · exact ⟨oj, hoj, h⟩
    · have h1 := waits_listed hcl 5 j i oj hoj hall h
      have h0 := (mem_ready.1 hr).1
      rcases Nat.lt_or_ge i listed.size with h' | h'
      · simp [h'] at h0 h1; rw [h0] at h1; cases h1
      · simp [Array.getElem?_eq_none h'] at h1
  induction n with
  | zero =>
    intro listed Γ a hcl hfree hr H
    refine ⟨fun h => (by rw [h] at hr; cases hr), fun j hj => ?_⟩
    by_cases hji : j = i
    · subst hji; exact self H
    · exfalso
      have hj' := ready_mono hj hji
      unfold opX' at H
      by_cases hw : Region.wanted oi (yielded ops a.tmps) = true
      · rw [if_pos hw] at H
        cases hU : U i with
        | none => rw [hU] at H; obtain ⟨v, _, h⟩ := H; rw [h.1] at hj'; cases hj'
        | some us => rw [hU] at H; obtain ⟨v, hv⟩ := hne i us (argsOf oi a) hU; rw [(H.2 v hv).1] at hj'; cases hj'
      · rw [if_neg hw] at H
        rw [H.1] at hj'; cases hj'
  | succ n ih =>
    intro listed Γ a hcl hfree hr H
    refine ⟨fun h => (by rw [h] at hr; cases hr), fun j hj => ?_⟩
    by_cases hji : j = i
    · subst hji; exact self H
    · obtain ⟨oj, hoj, hap, hlab⟩ := other listed j hcl hfree hr hj hji
      simp only [labsB, Bool.and_eq_true, Bool.not_eq_true', List.all_eq_true] at hlab
      have h1 : opX' P ops w0 S0 U R φ ρ oi i Γ a (fun Γ' a' => opX P ops w0 S0 U R φ ρ j Γ' a' (wpAnyX P ops w0 S0 U R φ ρ md Fin n ((listed.setIfInBounds i true).setIfInBounds j true))) :=
        opX'_mono (fun Γ' a' h => h.2 j (ready_mono hj hji)) H
      have h2 := opX_comm hoj hap (fun cs b => hsel i oi cs b hi) (fun cs b => hsel j oj cs b hoj) (Ne.symm hji) (by simpa using hlab.1.1.2) (by simpa using hlab.1.1.1) (fun u hu => by simpa using hlab.1.2 u hu) (by simpa using hlab.2.1.1.2) (by simpa using hlab.2.1.1.1) (fun u hu => by simpa using hlab.2.1.2 u hu) (fun u hu => by simpa using hlab.2.2 u hu) hne h1
      refine opX_mono (fun Γ' a' h3 => ih (listed.setIfInBounds j true) Γ' a' (hcl.set hj) ?_ (ready_mono hr (Ne.symm hji)) ?_) h2
      · intro k ok hk hki hun
        refine hfree k ok hk hki ?_
        by_cases hjk : j = k
        · subst hjk; exact (mem_ready.1 hj).1
        · rw [getD_set_ne true hjk] at hun; exact hun
      · rw [Array.setIfInBounds_comm _ _ hji]
        exact h3

theorem lex_X {Fin : (Nat → Fact) → Act → Prop} (hs : Region.noSelect ops = true) (hne : ∀ k us xs, U k = some us → ∃ v, φ k xs v) : ∀ (l : List Oper) (k : Nat) (listed : Array Bool) (Γ : Nat → Fact) (a : Act), (∀ j, l[j]? = ops[k + j]?) → Closed md ops listed →
    lexFromX U R md ops l.length k listed = true → wpX P ops w0 S0 U R φ ρ Fin k l Γ a → wpAnyX P ops w0 S0 U R φ ρ md Fin l.length listed Γ a
  | [], _, _, _, _, _, _, hB, h => ⟨by simpa [lexFromX] using hB, h⟩
  | o :: l, k, listed, Γ, a, hl, hc, hB, h => by
    have h0 : ops[k]? = some o := by simpa using (hl 0).symm
    simp only [List.length_cons, lexFromX, Bool.and_eq_true] at hB
    obtain ⟨⟨hr, hf⟩, hB'⟩ := hB
    have hr' : k ∈ Region.ready md ops listed := by simpa using hr
    refine first_X h0 (Region.noSelect_spec hs) hne l.length listed Γ a hc ?_ hr' ?_
    · intro j oj hj hne' hun
      simp only [freeX, h0, List.all_eq_true, List.mem_range] at hf
      have h1 := hf j (Array.getElem?_eq_some_iff.1 hj).1
      simp only [hj, Bool.or_eq_true, beq_iff_eq, hne', false_or, hun, Bool.false_eq_true, Bool.and_eq_true] at h1
      exact h1
    · exact opX'_mono (fun Γ' a' h' => lex_X hs hne l (k + 1) _ Γ' a' (fun j => by have := hl (j + 1); simpa [Nat.add_assoc, Nat.add_comm 1 j] using this) (hc.set hr') hB' h') h

theorem wpOp_of_X {Q : Exit → Act → World → Prop} (hρ : ∀ k xs v, Good (ρ k xs v)) {k : Nat} {Γ : Nat → Fact} {a : Act} {w : World} {K : (Nat → Fact) → Act → Prop} {K' : Act → World → Prop} (hΓ : ∀ l, Good (Γ l)) (hs : Sat w0 S0 Γ w)
    (h : ∀ Γ' a' w', (∀ l, Good (Γ' l)) → Sat w0 S0 Γ' w' → K Γ' a' → K' a' w') (hh : opX P ops w0 S0 U R φ ρ k Γ a K) : wpOp P ops Q k K' a w := by
  unfold opX at hh
  unfold wpOp
  cases ho : ops[k]? with
  | none => rw [ho] at hh; exact h _ _ _ hΓ hs hh
  | some o =>
    rw [ho] at hh
    simp only [opX'] at hh
    by_cases hw : Region.wanted o (yielded ops a.tmps) = true
    · simp only [hw, if_true] at hh ⊢
      refine .inl ?_
      unfold Oper.wp
      cases hU : U k with
      | none =>
        rw [hU] at hh
        obtain ⟨v, hv, hh⟩ := hh
        rcases hv w hs.1 with h1 | ⟨h1, rfl⟩
        · rw [h1]; exact h _ _ _ hΓ hs hh
        · rw [h1]; exact h _ _ _ hΓ hs hh
      | some us =>
        rw [hU] at hh
        obtain ⟨ht, hh⟩ := hh
        obtain ⟨hk, own, hd, hb, hf⟩ := hs
        have h1 := ht (fun b => ∃ u ∈ us, own u b) w hk (fun b ⟨u, _, hu⟩ => hb u b hu) (fun u hu => hΓ u (own u) _ w w (fun b hb => ⟨u, hu, hb⟩) (fun _ _ => rfl) (hf u)) (fun u _ => ⟨own u, hf u⟩)
        have fin : ∀ v w', φ k (argsOf o a) v ∧ Kept (fun b => ∃ u ∈ us, own u b) w w' ∧ ρ k (argsOf o a) v (fun b => (∃ u ∈ us, own u b) ∨ (w.heap.size ≤ b ∧ b < w'.heap.size)) w' → K' (a.put o.dst v) w' := fun v w' ⟨p1, p2, p3⟩ =>
          h _ _ _ (good_upd hΓ (hρ k _ v)) (sat_step hΓ (hρ k _ v) hk own hd hb hf p2 p3) (hh v p1)
        unfold runs at h1
        generalize (execOp a.eval o).run P w = r at h1 ⊢
        cases r with
        | ok n w' =>
          cases n <;> simp only [Oper.upon] <;> try (exact h1.elim)
          case value v => exact fin v w' h1
          case skip => exact fin undef w' h1
          case enter f args => exact Calls.mono h1 fun e w'' ⟨v, he, h2⟩ => by subst he; exact fin v w'' h2
        | halt x w' => exact h1.elim
    · simp only [hw] at hh ⊢
      exact h _ _ _ hΓ hs hh
theorem wpAny_of_X {Fin : (Nat → Fact) → Act → Prop} {Q : Exit → Act → World → Prop} (hρ : ∀ k xs v, Good (ρ k xs v)) (hQ : ∀ Γ a w, Sat w0 S0 Γ w → Fin Γ a → Q .normal a w) : ∀ (n : Nat) (listed : Array Bool) (Γ : Nat → Fact) (a : Act) (w : World),
    (∀ l, Good (Γ l)) → Sat w0 S0 Γ w → wpAnyX P ops w0 S0 U R φ ρ md Fin n listed Γ a → wpAny P md ops Q n listed a w
  | 0, _, Γ, a, w, _, hs, h => ⟨h.1, hQ Γ a w hs h.2⟩
  | n + 1, _, Γ, a, w, hg, hs, h => ⟨fun h0 => hQ Γ a w hs (h.1 h0), fun i hi => wpOp_of_X hρ hg hs (fun Γ' a' w' hg' hs' h' => wpAny_of_X hρ hQ n _ Γ' a' w' hg' hs' h') (h.2 i hi)⟩

/-- **one walk, in the order of the text** -/
theorem wp_region_x {id : Nat} {Q : Exit → Act → World → Prop} {a : Act} {w : World} {l : List Oper} (S0 : Nat → Prop) (U : Nat → Option (List Nat)) (R : Nat → List Nat) (φ : Nat → List Value → Value → Prop) (ρ : Nat → List Value → Value → Fact) (Γ : Nat → Fact)
    (hm : P.follows .mixedOrders = true) (hB : lexX U R .any l.toArray = true) (hne : ∀ k us xs, U k = some us → ∃ v, φ k xs v) (hρ : ∀ k xs v, Good (ρ k xs v)) (hΓ : ∀ l, Good (Γ l)) (hs : Sat w S0 Γ w)
    (h : wpX P l.toArray w S0 U R φ ρ (fun Γ' a' => ∀ w', Sat w S0 Γ' w' → Q .normal a' w') 0 l Γ a) : (Code.region id l.toArray true).wp P Q a w := by
  simp only [lexX, Bool.and_eq_true] at hB
  have hs' : Sat w S0 Γ w.drew := by
    obtain ⟨_, own, h1, h2, h3⟩ := hs
    exact ⟨(Kept.refl _ _).drew, own, h1, h2, fun l => hΓ l _ _ w w.drew (fun _ x => x) (fun _ _ => rfl) (h3 l)⟩
  refine wp_region_any hm (wpAny_of_X (w0 := w) (S0 := S0) (U := U) (R := R) (φ := φ) (ρ := ρ) (Fin := fun Γ' a' => ∀ w', Sat w S0 Γ' w' → Q .normal a' w') hρ (fun Γ a w' h1 h2 => h2 w' h1) _ _ Γ a _ hΓ hs' ?_)
  have := lex_X (md := .any) (P := P) (w0 := w) (S0 := S0) (φ := φ) (ρ := ρ) (Fin := fun Γ' a' => ∀ w', Sat w S0 Γ' w' → Q .normal a' w') hB.1 hne l 0 (Array.replicate l.toArray.size false) Γ a (by simp)
    (fun k ok _ hl => by
      exfalso
      rcases Nat.lt_or_ge k l.toArray.size with h' | h'
      · have h'' : k < l.length := by simpa using h'
        simp [h''] at hl
      · have h'' : ¬ k < l.length := by simpa using h'
        simp [h''] at hl) (by simpa using hB.2) h
  simpa using this
end

section
variable {P : Program} {ops : Array Oper} {w0 : World} {S0 : Nat → Prop} {U : Nat → Option (List Nat)} {R : Nat → List Nat} {φ : Nat → List Value → Value → Prop} {ρ : Nat → List Value → Value → Fact} {Fin : (Nat → Fact) → Act → Prop}
  {k : Nat} {o : Oper} {rest : List Oper} {Γ : Nat → Fact} {a : Act}
theorem wpX_skip (hw : Region.wanted o (yielded ops a.tmps) = false) (h : wpX P ops w0 S0 U R φ ρ Fin (k + 1) rest Γ (a.put o.dst undef)) : wpX P ops w0 S0 U R φ ρ Fin k (o :: rest) Γ a := by
  simp only [wpX, opX', hw]
  exact h
theorem wpX_loud {us : List Nat} (hw : Region.wanted o (yielded ops a.tmps) = true) (hk : U k = some us) (h1 : trip P w0 S0 R φ ρ o us k Γ a)
    (h2 : ∀ v, φ k (argsOf o a) v → ∀ K : Act → Prop, (∀ a', wpX P ops w0 S0 U R φ ρ Fin (k + 1) rest (upd Γ k us (ρ k (argsOf o a) v)) a' → K a') → K (a.put o.dst v)) : wpX P ops w0 S0 U R φ ρ Fin k (o :: rest) Γ a := by
  simp only [wpX, opX', hw, if_true, hk]
  exact ⟨h1, fun v hv => h2 v hv _ (fun _ h => h)⟩
theorem wpX_nil (h : Fin Γ a) : wpX P ops w0 S0 U R φ ρ Fin k [] Γ a := h
theorem wpX_quietP (hw : Region.wanted o (yielded ops a.tmps) = true) (hk : U k = none) (hnc : noCallP o = true)
    (h : ∀ K : Act → Prop, (∀ a, wpX P ops w0 S0 U R φ ρ Fin (k + 1) rest Γ a → K a) → o.quiet P a (fun w' => ∃ x : WK S0 w0, w' = wat x) K) : wpX P ops w0 S0 U R φ ρ Fin k (o :: rest) Γ a := by
  simp only [wpX, opX', hw, if_true, hk]
  obtain ⟨v, h1, h2⟩ := h _ (fun _ h => h)
  refine ⟨v, fun w hw => ?_, h2⟩
  have h3 := h1 w ⟨⟨w, hw⟩, rfl⟩
  unfold Oper.quietAt at h3
  generalize hr : (execOp a.eval o).run P w = r at h3
  cases r with
  | ok n w' =>
    cases n <;> simp only [Oper.quietUpon] at h3
    case value u => obtain ⟨rfl, rfl⟩ := h3; exact .inl rfl
    case skip => obtain ⟨rfl, rfl⟩ := h3; exact .inr ⟨rfl, rfl⟩
    case enter f args => exact absurd hr (no_enterP hnc)
  | halt x w' => simp only [Oper.quietUpon] at h3
theorem wpX_skipK (hw : Region.wanted o (yielded ops a.tmps) = false) (h : ∀ K : Act → Prop, (∀ a, wpX P ops w0 S0 U R φ ρ Fin (k + 1) rest Γ a → K a) → K (a.put o.dst undef)) : wpX P ops w0 S0 U R φ ρ Fin k (o :: rest) Γ a :=
  wpX_skip hw (h _ fun _ h => h)

/-- 'wpX', sealed: a tactic that looks at the goal's type does not unfold it (a long row of operations passed over is dear to unfold) -/
structure WD (P : Program) (ops : Array Oper) (w0 : World) (S0 : Nat → Prop) (U : Nat → Option (List Nat)) (R : Nat → List Nat) (φ : Nat → List Value → Value → Prop) (ρ : Nat → List Value → Value → Fact) (Fin : (Nat → Fact) → Act → Prop) (k : Nat) (l : List Oper) (Γ : Nat → Fact) (a : Act) : Prop where
  out : wpX P ops w0 S0 U R φ ρ Fin k l Γ a
theorem wd_quietU (hg : o.guard = none) (hk : U k = none) (hnc : noCallP o = true)
    (h : ∀ K : Act → Prop, (∀ a, WD P ops w0 S0 U R φ ρ Fin (k + 1) rest Γ a → K a) → o.quiet P a (fun w' => ∃ x : WK S0 w0, w' = wat x) K) : WD P ops w0 S0 U R φ ρ Fin k (o :: rest) Γ a :=
  ⟨wpX_quietP (wanted_u hg) hk hnc fun K hK => h K fun a h => hK a h.out⟩
theorem wd_quietG {g d : Nat} {b : Bool} (hg : o.guard = some (g, b)) (hd : (ops[g]?).bind (·.dst) = some d) (hv : a.tmps[d]? = some (.bool b)) (hk : U k = none) (hnc : noCallP o = true)
    (h : ∀ K : Act → Prop, (∀ a, WD P ops w0 S0 U R φ ρ Fin (k + 1) rest Γ a → K a) → o.quiet P a (fun w' => ∃ x : WK S0 w0, w' = wat x) K) : WD P ops w0 S0 U R φ ρ Fin k (o :: rest) Γ a :=
  ⟨wpX_quietP ((wanted_g hg hd hv).trans (by simp)) hk hnc fun K hK => h K fun a h => hK a h.out⟩
theorem wd_skipG {g d : Nat} {b : Bool} (hg : o.guard = some (g, b)) (hd : (ops[g]?).bind (·.dst) = some d) (hv : a.tmps[d]? = some (.bool (!b)))
    (h : ∀ K : Act → Prop, (∀ a, WD P ops w0 S0 U R φ ρ Fin (k + 1) rest Γ a → K a) → K (a.put o.dst undef)) : WD P ops w0 S0 U R φ ρ Fin k (o :: rest) Γ a :=
  ⟨wpX_skipK ((wanted_g hg hd hv).trans (by cases b <;> rfl)) fun K hK => h K fun a h => hK a h.out⟩
theorem wd_skipN {g d : Nat} {b : Bool} (hg : o.guard = some (g, b)) (hd : (ops[g]?).bind (·.dst) = some d) (hv : a.tmps[d]? = some undef)
    (h : ∀ K : Act → Prop, (∀ a, WD P ops w0 S0 U R φ ρ Fin (k + 1) rest Γ a → K a) → K (a.put o.dst undef)) : WD P ops w0 S0 U R φ ρ Fin k (o :: rest) Γ a :=
  ⟨wpX_skipK (wanted_n hg hd hv) fun K hK => h K fun a h => hK a h.out⟩
theorem wd_loudU {us : List Nat} (hg : o.guard = none) (hk : U k = some us) (h1 : trip P w0 S0 R φ ρ o us k Γ a)
    (h2 : ∀ v, φ k (argsOf o a) v → ∀ K : Act → Prop, (∀ a', WD P ops w0 S0 U R φ ρ Fin (k + 1) rest (upd Γ k us (ρ k (argsOf o a) v)) a' → K a') → K (a.put o.dst v)) : WD P ops w0 S0 U R φ ρ Fin k (o :: rest) Γ a :=
  ⟨wpX_loud (wanted_u hg) hk h1 fun v hv K hK => h2 v hv K fun a h => hK a h.out⟩
theorem wd_loudG {us : List Nat} {g d : Nat} {b : Bool} (hg : o.guard = some (g, b)) (hd : (ops[g]?).bind (·.dst) = some d) (hv : a.tmps[d]? = some (.bool b)) (hk : U k = some us) (h1 : trip P w0 S0 R φ ρ o us k Γ a)
    (h2 : ∀ v, φ k (argsOf o a) v → ∀ K : Act → Prop, (∀ a', WD P ops w0 S0 U R φ ρ Fin (k + 1) rest (upd Γ k us (ρ k (argsOf o a) v)) a' → K a') → K (a.put o.dst v)) : WD P ops w0 S0 U R φ ρ Fin k (o :: rest) Γ a :=
  ⟨wpX_loud ((wanted_g hg hd hv).trans (by simp)) hk h1 fun v hv K hK => h2 v hv K fun a h => hK a h.out⟩
theorem wd_nil (h : Fin Γ a) : WD P ops w0 S0 U R φ ρ Fin k [] Γ a := ⟨wpX_nil h⟩
end
def rdR (rd : List (Nat × List Nat)) (k : Nat) : List Nat := match rd.find? (fun x => x.1 == k) with | some x => x.2 | none => []
theorem wp_region_read {P : Program} {id : Nat} {Q : Exit → Act → World → Prop} {a : Act} {w : World} {l : List Oper} (S0 : Nat → Prop) (sp : List (Nat × Loud)) (rd : List (Nat × List Nat)) (Γ : Nat → Fact)
    (hm : P.follows .mixedOrders = true) (hB : lexX (spU sp) (rdR rd) .any l.toArray = true) (hsp : Louds sp) (hΓ : ∀ l, Good (Γ l)) (hs : Sat w S0 Γ w)
    (h : wpX P l.toArray w S0 (spU sp) (rdR rd) (spP sp) (spR sp) (fun Γ' a' => ∀ w', Sat w S0 Γ' w' → Q .normal a' w') 0 l Γ a) : (Code.region id l.toArray true).wp P Q a w := by
  refine wp_region_x S0 (spU sp) (rdR rd) (spP sp) (spR sp) Γ hm hB ?_ ?_ hΓ hs h
  · intro k us xs hk
    unfold spU at hk
    unfold spP
    cases hl : loudAt sp k with
    | none => rw [hl] at hk; cases hk
    | some s =>
      obtain ⟨i, hi⟩ := loudAt_mem sp k s hl
      exact (hsp _ hi).some_ xs
  · intro k xs v
    unfold spR
    cases hl : loudAt sp k with
    | none => exact Good.none
    | some s =>
      obtain ⟨i, hi⟩ := loudAt_mem sp k s hl
      exact (hsp _ hi).good xs v

end Go.Proofs.YtfojgimficdjhaaGreatDoor.RD
namespace Go.Proofs.YtfojgimficdjhaaGreatDoor
set_option linter.unusedVariables false
set_option linter.unusedSimpArgs false
open Go Go.RowKit

theorem itoaI_any (n : Int) (h0 : -9223372036854775808 ≤ n) (h1 : n ≤ 9223372036854775807) (w : World) (he : Env w) : Calls Tryz.prog 82 #[.int .i64 n] w fun e w' => e = .returned (.string (S8 (Lib.itoa n))) ∧ Below w.heap.size w w' := by
  refine (Any.strconv_Itoa Tryz.lays171 n h0 h1 w he.tab).mono ?_
  rintro e w' ⟨rfl, k, os, rfl⟩
  exact ⟨rfl, Lib.below_grow _ _ (Nat.le_refl _) _ _⟩
theorem itoa_len (n : Int) (h0 : -9223372036854775808 ≤ n) (h1 : n ≤ 9223372036854775807) : (Lib.itoa n).length ≤ 21 := by
  unfold Lib.itoa
  split
  · rw [SC.decDigits_digs, List.length_cons]
    have := SC.digs_len n.natAbs 19 (by omega)
    omega
  · rw [SC.decDigits_digs]
    have := SC.digs_len n.toNat 19 (by omega)
    omega
theorem own_madeG (w : World) (base : Nat) (e : TypeId) (size n : Nat) (cs : Array Value) (xs : List Value) (g : Nat) (hg : g = w.heap.size) (hb : base ≤ w.heap.size) (hcs : cs = xs.toArray) (hn : xs.length = n * size) (hm : n ≤ 1099511627776) (hsz : 0 < size) :
    (w.alloc (.cells cs e)).ownsRow base e size (.slice (some ⟨g, 0, none⟩) n n) n xs := by subst hg; exact own_made w base e size n cs xs hb hcs hn hm hsz
def preW (BL : List (List UInt8)) (leaf value : List UInt8) (k : Nat) : List (List UInt8) := BL ++ (if 1 ≤ k then optL leaf else []) ++ (if 2 ≤ k then optL value else [])
theorem preW_0 (BL : List (List UInt8)) (leaf value : List UInt8) : preW BL leaf value 0 = BL := by simp [preW]
theorem preW_2 (BL : List (List UInt8)) (leaf value : List UInt8) : preW BL leaf value 2 = BL ++ optL leaf ++ optL value := by simp [preW]
theorem preW_step (BL : List (List UInt8)) (leaf value : List UInt8) (k : Nat) (h : k < 2) : preW BL leaf value (k + 1) = preW BL leaf value k ++ optL ([leaf, value].getD k []) := by
  match k, h with
  | 0, _ => simp [preW]
  | 1, _ => simp [preW]
/-- what 'words' leaves -/
def WordsPost (L : List (List UInt8)) (w : World) (e : Ending) (w' : World) : Prop := ∃ A c, e = .returned (.slice A L.length c) ∧ Sl w' 1 (.slice A L.length c) (STR L) ∧ Below w.heap.size w w'
theorem words_3 (head : Int) (name leaf value : List UInt8) (num : Int) (w : World) : Calls Tryz.prog 48 #[.agg #[.int .i64 3, .int .i64 head, .string (S8 name), .string (S8 leaf), .string (S8 value), .int .i64 num]] w (WordsPost [wShow] w) := by
  obtain ⟨hb0, hp0, hl0⟩ := box1 w (.cells #[.int .i64 3, .int .i64 head, .string (S8 name), .string (S8 leaf), .string (S8 value), .int .i64 num] 25)
  go_enter Tryz.func48, Tryz.ntmps48
  go_upto_region 1 with fail
  generalize w.alloc (.cells #[.int .i64 3, .int .i64 head, .string (S8 name), .string (S8 leaf), .string (S8 value), .int .i64 num] 25) = w0 at *
  have q0 : w0.cell? ⟨w.heap.size, 0, none⟩ = some (.int .i64 3) := blkCell hp0 0
  clear hp0
  go_wp2_with fail
  go_ret
  exact ⟨_, _, rfl, own_sl (own_made w0 0 9 1 1 _ (STR [wShow]) (Nat.zero_le _) rfl rfl (by omega) (by omega)), hb0.alloc hb0.size _⟩
theorem words_4 (head : Int) (name leaf value : List UInt8) (num : Int) (w : World) : Calls Tryz.prog 48 #[.agg #[.int .i64 4, .int .i64 head, .string (S8 name), .string (S8 leaf), .string (S8 value), .int .i64 num]] w (WordsPost [wCompare] w) := by
  obtain ⟨hb0, hp0, hl0⟩ := box1 w (.cells #[.int .i64 4, .int .i64 head, .string (S8 name), .string (S8 leaf), .string (S8 value), .int .i64 num] 25)
  go_enter Tryz.func48, Tryz.ntmps48
  go_upto_region 1 with fail
  generalize w.alloc (.cells #[.int .i64 4, .int .i64 head, .string (S8 name), .string (S8 leaf), .string (S8 value), .int .i64 num] 25) = w0 at *
  have q0 : w0.cell? ⟨w.heap.size, 0, none⟩ = some (.int .i64 4) := blkCell hp0 0
  clear hp0
  go_wp2_with fail
  go_ret
  exact ⟨_, _, rfl, own_sl (own_made w0 0 9 1 1 _ (STR [wCompare]) (Nat.zero_le _) rfl rfl (by omega) (by omega)), hb0.alloc hb0.size _⟩
theorem words_5 (head : Int) (name leaf value : List UInt8) (num : Int) (w : World) : Calls Tryz.prog 48 #[.agg #[.int .i64 5, .int .i64 head, .string (S8 name), .string (S8 leaf), .string (S8 value), .int .i64 num]] w (WordsPost [wCheck] w) := by
  obtain ⟨hb0, hp0, hl0⟩ := box1 w (.cells #[.int .i64 5, .int .i64 head, .string (S8 name), .string (S8 leaf), .string (S8 value), .int .i64 num] 25)
  go_enter Tryz.func48, Tryz.ntmps48
  go_upto_region 1 with fail
  generalize w.alloc (.cells #[.int .i64 5, .int .i64 head, .string (S8 name), .string (S8 leaf), .string (S8 value), .int .i64 num] 25) = w0 at *
  have q0 : w0.cell? ⟨w.heap.size, 0, none⟩ = some (.int .i64 5) := blkCell hp0 0
  clear hp0
  go_wp2_with fail
  go_ret
  exact ⟨_, _, rfl, own_sl (own_made w0 0 9 1 1 _ (STR [wCheck]) (Nat.zero_le _) rfl rfl (by omega) (by omega)), hb0.alloc hb0.size _⟩
theorem words_6 (head : Int) (name leaf value : List UInt8) (num : Int) (w : World) : Calls Tryz.prog 48 #[.agg #[.int .i64 6, .int .i64 head, .string (S8 name), .string (S8 leaf), .string (S8 value), .int .i64 num]] w (WordsPost [wCommit] w) := by
  obtain ⟨hb0, hp0, hl0⟩ := box1 w (.cells #[.int .i64 6, .int .i64 head, .string (S8 name), .string (S8 leaf), .string (S8 value), .int .i64 num] 25)
  go_enter Tryz.func48, Tryz.ntmps48
  go_upto_region 1 with fail
  generalize w.alloc (.cells #[.int .i64 6, .int .i64 head, .string (S8 name), .string (S8 leaf), .string (S8 value), .int .i64 num] 25) = w0 at *
  have q0 : w0.cell? ⟨w.heap.size, 0, none⟩ = some (.int .i64 6) := blkCell hp0 0
  clear hp0
  go_wp2_with fail
  go_ret
  exact ⟨_, _, rfl, own_sl (own_made w0 0 9 1 1 _ (STR [wCommit]) (Nat.zero_le _) rfl rfl (by omega) (by omega)), hb0.alloc hb0.size _⟩
theorem words_8 (head : Int) (name leaf value : List UInt8) (num : Int) (w : World) : Calls Tryz.prog 48 #[.agg #[.int .i64 8, .int .i64 head, .string (S8 name), .string (S8 leaf), .string (S8 value), .int .i64 num]] w (WordsPost [wConfirm] w) := by
  obtain ⟨hb0, hp0, hl0⟩ := box1 w (.cells #[.int .i64 8, .int .i64 head, .string (S8 name), .string (S8 leaf), .string (S8 value), .int .i64 num] 25)
  go_enter Tryz.func48, Tryz.ntmps48
  go_upto_region 1 with fail
  generalize w.alloc (.cells #[.int .i64 8, .int .i64 head, .string (S8 name), .string (S8 leaf), .string (S8 value), .int .i64 num] 25) = w0 at *
  have q0 : w0.cell? ⟨w.heap.size, 0, none⟩ = some (.int .i64 8) := blkCell hp0 0
  clear hp0
  go_wp2_with fail
  go_ret
  exact ⟨_, _, rfl, own_sl (own_made w0 0 9 1 1 _ (STR [wConfirm]) (Nat.zero_le _) rfl rfl (by omega) (by omega)), hb0.alloc hb0.size _⟩
theorem words_7 (head : Int) (name leaf value : List UInt8) (num : Int) (w : World) (hen : Env w) (h0 : -9223372036854775808 ≤ num) (h1 : num ≤ 9223372036854775807) : Calls Tryz.prog 48 #[.agg #[.int .i64 7, .int .i64 head, .string (S8 name), .string (S8 leaf), .string (S8 value), .int .i64 num]] w (WordsPost [wCC, Lib.itoa num] w) := by
  have HI : Hid (∀ w', Below w.heap.size w w' → Calls Tryz.prog 82 #[.int .i64 num] w' fun e w2 => e = .returned (.string (S8 (Lib.itoa num))) ∧ Below w'.heap.size w' w2) := fun w' hb => itoaI_any num h0 h1 w' (hen.below hb)
  obtain ⟨hb0, hp0, hl0⟩ := box1 w (.cells #[.int .i64 7, .int .i64 head, .string (S8 name), .string (S8 leaf), .string (S8 value), .int .i64 num] 25)
  clear hen
  go_enter Tryz.func48, Tryz.ntmps48
  go_upto_region 1 with fail
  generalize w.alloc (.cells #[.int .i64 7, .int .i64 head, .string (S8 name), .string (S8 leaf), .string (S8 value), .int .i64 num] 25) = w0 at *
  have q0 : w0.cell? ⟨w.heap.size, 0, none⟩ = some (.int .i64 7) := blkCell hp0 0
  have q5 : w0.cell? ⟨w.heap.size, 5, none⟩ = some (.int .i64 num) := blkCell hp0 5
  clear hp0
  go_wp2_with fail
  refine (HI.out w0 hb0).mono ?_
  rintro e w1 ⟨rfl, hb1⟩
  have hbw := hb0.trans (hb1.mono hb0.size)
  clear HI q0 q5 hb0 hb1
  go_wp2_with fail
  go_ret
  exact ⟨_, _, rfl, own_sl (own_made w1 0 9 1 2 _ (STR [wCC, Lib.itoa num]) (Nat.zero_le _) rfl rfl (by omega) (by omega)), hbw.alloc hbw.size _⟩
theorem words_9 (head : Int) (name leaf value : List UInt8) (num : Int) (w : World) (hen : Env w) (h0 : -9223372036854775808 ≤ num) (h1 : num ≤ 9223372036854775807) : Calls Tryz.prog 48 #[.agg #[.int .i64 9, .int .i64 head, .string (S8 name), .string (S8 leaf), .string (S8 value), .int .i64 num]] w (WordsPost [wRoll, Lib.itoa num] w) := by
  have HI : Hid (∀ w', Below w.heap.size w w' → Calls Tryz.prog 82 #[.int .i64 num] w' fun e w2 => e = .returned (.string (S8 (Lib.itoa num))) ∧ Below w'.heap.size w' w2) := fun w' hb => itoaI_any num h0 h1 w' (hen.below hb)
  obtain ⟨hb0, hp0, hl0⟩ := box1 w (.cells #[.int .i64 9, .int .i64 head, .string (S8 name), .string (S8 leaf), .string (S8 value), .int .i64 num] 25)
  clear hen
  go_enter Tryz.func48, Tryz.ntmps48
  go_upto_region 1 with fail
  generalize w.alloc (.cells #[.int .i64 9, .int .i64 head, .string (S8 name), .string (S8 leaf), .string (S8 value), .int .i64 num] 25) = w0 at *
  have q0 : w0.cell? ⟨w.heap.size, 0, none⟩ = some (.int .i64 9) := blkCell hp0 0
  have q5 : w0.cell? ⟨w.heap.size, 5, none⟩ = some (.int .i64 num) := blkCell hp0 5
  clear hp0
  go_wp2_with fail
  refine (HI.out w0 hb0).mono ?_
  rintro e w1 ⟨rfl, hb1⟩
  have hbw := hb0.trans (hb1.mono hb0.size)
  clear HI q0 q5 hb0 hb1
  go_wp2_with fail
  go_ret
  exact ⟨_, _, rfl, own_sl (own_made w1 0 9 1 2 _ (STR [wRoll, Lib.itoa num]) (Nat.zero_le _) rfl rfl (by omega) (by omega)), hbw.alloc hbw.size _⟩
set_option maxRecDepth 100000 in
set_option maxHeartbeats 3200000 in
theorem words_ln (what head : Int) (name leaf value : List UInt8) (num : Int) (w : World) (n3 : what ≠ 3) (n4 : what ≠ 4) (n5 : what ≠ 5) (n6 : what ≠ 6) (n7 : what ≠ 7) (n8 : what ≠ 8) (n9 : what ≠ 9) :
    Calls Tryz.prog 48 #[.agg #[.int .i64 what, .int .i64 head, .string (S8 name), .string (S8 leaf), .string (S8 value), .int .i64 num]] w (WordsPost ([if what = 2 then wDelete else wSet] ++ headL ⟨head, name, leaf, value⟩ ++ optL leaf ++ optL value) w) := by
  have t3 : (what == 3) = false := by rw [beq_eq_false_iff_ne]; exact n3
  have t4 : (what == 4) = false := by rw [beq_eq_false_iff_ne]; exact n4
  have t5 : (what == 5) = false := by rw [beq_eq_false_iff_ne]; exact n5
  have t6 : (what == 6) = false := by rw [beq_eq_false_iff_ne]; exact n6
  have t7 : (what == 7) = false := by rw [beq_eq_false_iff_ne]; exact n7
  have t8 : (what == 8) = false := by rw [beq_eq_false_iff_ne]; exact n8
  have t9 : (what == 9) = false := by rw [beq_eq_false_iff_ne]; exact n9
  obtain ⟨w0', hw0'⟩ : ∃ x0 : List UInt8, (if what = 2 then wDelete else wSet) = x0 := ⟨_, rfl⟩
  rw [hw0']
  have HW0 := hid hw0'
  obtain ⟨BL, hBL⟩ : ∃ BL, [w0'] ++ headL ⟨head, name, leaf, value⟩ = BL := ⟨_, rfl⟩
  rw [hBL]
  have HBL := hid hBL
  have HBLL := HBL
  clear hBL
  clear n3 n4 n5 n6 n7 n8 n9 hw0'
  obtain ⟨hb0, hp0, hl0⟩ := box1 w (.cells #[.int .i64 what, .int .i64 head, .string (S8 name), .string (S8 leaf), .string (S8 value), .int .i64 num] 25)
  go_enter Tryz.func48, Tryz.ntmps48
  go_upto_region 1 with fail
  generalize w.alloc (.cells #[.int .i64 what, .int .i64 head, .string (S8 name), .string (S8 leaf), .string (S8 value), .int .i64 num] 25) = w0 at *
  have q0 : w0.cell? ⟨w.heap.size, 0, none⟩ = some (.int .i64 what) := blkCell hp0 0
  have q1 : w0.cell? ⟨w.heap.size, 1, none⟩ = some (.int .i64 head) := blkCell hp0 1
  have q2 : w0.cell? ⟨w.heap.size, 2, none⟩ = some (.string (S8 name)) := blkCell hp0 2
  have q3 : w0.cell? ⟨w.heap.size, 3, none⟩ = some (.string (S8 leaf)) := blkCell hp0 3
  have q4 : w0.cell? ⟨w.heap.size, 4, none⟩ = some (.string (S8 value)) := blkCell hp0 4
  clear hp0
  go_upto_if 38 with fail
  go_cut [3] (fun v wx => ∃ A c, v = .slice A 1 c ∧ wx.ownsRow w0.heap.size 9 1 (.slice A 1 c) 1 (STR [w0']) ∧ Below w0.heap.size w0 wx)
  case first =>
    by_cases h2 : what = 2
    · subst h2
      have HX : Hid (w0' = wDelete) := HW0.out.symm
      go_wp2_with fail
      go_meet
      all_goals go_light
      refine ⟨_, _, rfl, ?_, ?_⟩
      · rw [HX.out]
        exact own_madeG _ _ 9 1 1 _ (STR [wDelete]) _ (by simp) (by simp) rfl rfl (by omega) (by omega)
      · exact ((Below.refl w0.heap.size w0).alloc (Nat.le_refl _) _).alloc (by simp) _
    · have t2 : (what == 2) = false := by rw [beq_eq_false_iff_ne]; exact h2
      have HX : Hid (w0' = wSet) := by show _ = _; rw [← HW0.out, if_neg h2]
      clear h2
      go_wp2_with fail
      go_meet
      all_goals go_light
      refine ⟨_, _, rfl, ?_, ?_⟩
      · rw [HX.out]
        exact own_made _ _ 9 1 1 _ (STR [wSet]) (Nat.le_refl _) rfl rfl (by omega) (by omega)
      · exact (Below.refl _ _).alloc (Nat.le_refl _) _
  case rest =>
    obtain ⟨A, c, rfl, ho, hb1⟩ := hcut
    obtain ⟨w1, rfl⟩ : ∃ w1 : World, w1 = wc := ⟨_, rfl⟩
    clear HW0 q0 t3 t4 t5 t6 t7 t8 t9
    have HQ3 := hid q3
    have HQ4 := hid q4
    replace q1 := (hb1.cell (p := ⟨w.heap.size, 1, none⟩) hl0).trans q1
    replace q2 := (hb1.cell (p := ⟨w.heap.size, 2, none⟩) hl0).trans q2
    replace q3 := (hb1.cell (p := ⟨w.heap.size, 3, none⟩) hl0).trans q3
    replace q4 := (hb1.cell (p := ⟨w.heap.size, 4, none⟩) hl0).trans q4
    have hl1 : w.heap.size < w1.heap.size := Nat.lt_of_lt_of_le hl0 hb1.size
    go_upto_block 1 with fail
    go_cut [3] (fun v wx => ∃ A n c, v = .slice A n c ∧ n = BL.length ∧ wx.ownsRow w0.heap.size 9 1 (.slice A n c) n (STR BL) ∧ Below w0.heap.size w0 wx)
    case first =>
      by_cases h1 : head = 1
      · subst h1
        have HX : Hid (BL = [w0'] ++ [wArea, name]) := HBL.out.symm
        clear HBL
        have hsl : Sl (w1.alloc (.cells #[.string ⟨#[97, 114, 101, 97]⟩, .string (S8 name)] 9)) 1 (.slice (some ⟨w1.heap.size, 0, none⟩) 2 2) (STR [wArea, name]) := own_sl (own_made w1 0 9 1 2 #[.string ⟨#[97, 114, 101, 97]⟩, .string (S8 name)] (STR [wArea, name]) (Nat.zero_le _) rfl rfl (by omega) (by omega))
        have hba := (Below.refl w1.heap.size w1).alloc (Nat.le_refl _) (.cells #[.string ⟨#[97, 114, 101, 97]⟩, .string (S8 name)] 9)
        have ho2 := own_below ho hba
        have hbw2 := hb1.trans (hba.mono hb1.size)
        clear ho hba hb1
        go_wp2_with (at_builtin; refine wpList_app rfl (.tmp 45) (.tmp 49) st_strs rfl w0.heap.size rfl ho2 rfl hsl (STR_one _) (by simp [maxLen]) (by omega) hbw2.size ?_)
        intro A9 c9 w5 ho9 hg9 _
        have hb9 := hbw2.trans ((grown_below ho2 hg9 hbw2.size).mono (Nat.le_refl _))
        clear ho2 hbw2 hsl hg9
        rw [← STR_append] at ho9
        go_wp2_with fail
        go_meet
        all_goals go_light
        exact ⟨A9, 1 + 2, c9, rfl, by rw [HX.out]; rfl, by rw [HX.out]; exact ho9, hb9⟩
      by_cases h2 : head = 2
      · subst h2
        have HX : Hid (BL = [w0'] ++ [wInter, name]) := HBL.out.symm
        clear HBL h1
        have hsl : Sl (w1.alloc (.cells #[.string ⟨#[105, 110, 116, 101, 114, 102, 97, 99, 101]⟩, .string (S8 name)] 9)) 1 (.slice (some ⟨w1.heap.size, 0, none⟩) 2 2) (STR [wInter, name]) := own_sl (own_made w1 0 9 1 2 #[.string ⟨#[105, 110, 116, 101, 114, 102, 97, 99, 101]⟩, .string (S8 name)] (STR [wInter, name]) (Nat.zero_le _) rfl rfl (by omega) (by omega))
        have hba := (Below.refl w1.heap.size w1).alloc (Nat.le_refl _) (.cells #[.string ⟨#[105, 110, 116, 101, 114, 102, 97, 99, 101]⟩, .string (S8 name)] 9)
        have ho2 := own_below ho hba
        have hbw2 := hb1.trans (hba.mono hb1.size)
        clear ho hba hb1
        go_wp2_with (at_builtin; refine wpList_app rfl (.tmp 53) (.tmp 57) st_strs rfl w0.heap.size rfl ho2 rfl hsl (STR_one _) (by simp [maxLen]) (by omega) hbw2.size ?_)
        intro A9 c9 w5 ho9 hg9 _
        have hb9 := hbw2.trans ((grown_below ho2 hg9 hbw2.size).mono (Nat.le_refl _))
        clear ho2 hbw2 hsl hg9
        rw [← STR_append] at ho9
        go_wp2_with fail
        go_meet
        all_goals go_light
        exact ⟨A9, 1 + 2, c9, rfl, by rw [HX.out]; rfl, by rw [HX.out]; exact ho9, hb9⟩
      · have t1 : (head == 1) = false := by rw [beq_eq_false_iff_ne]; exact h1
        have t2 : (head == 2) = false := by rw [beq_eq_false_iff_ne]; exact h2
        have HX : Hid (BL = [w0']) := by
          show _ = _
          rw [← HBL.out]
          unfold headL
          simp only [if_neg h1, if_neg h2, List.append_nil]
        clear HBL h1 h2
        go_wp2_with fail
        go_meet
        all_goals go_light
        exact ⟨A, 1, c, rfl, by rw [HX.out]; rfl, by rw [HX.out]; exact ho, hb1⟩
    case rest =>
      obtain ⟨A, n, c, rfl, hn, ho, hb2⟩ := hcut
      have HNL := hid hn
      clear hn
      obtain ⟨w2, rfl⟩ : ∃ w2 : World, w2 = wc := ⟨_, rfl⟩
      clear HBL q1 q2 q3 q4 hl1
      have q3 := (hb2.cell (p := ⟨w.heap.size, 3, none⟩) hl0).trans HQ3.out
      have q4 := (hb2.cell (p := ⟨w.heap.size, 4, none⟩) hl0).trans HQ4.out
      have hnl : n ≤ 3 := by
        rw [HNL.out, ← HBLL.out]
        unfold headL
        split
        · simp
        split <;> simp
      have hwn : ∀ ad, A = some ad → ad.block < w2.heap.size := fun ad had => by subst had; exact (ho.lt ad.block rfl).2
      obtain ⟨hb3, hp3, hl3⟩ := box1 w2 (.cells #[.string (S8 leaf), .string (S8 value)] 9)
      have HW3 := hid (And.intro (own_below ho hb3) (And.intro (hb2.trans (hb3.mono hb2.size)) (And.intro (own_sl (own_made w2 0 9 1 2 #[.string (S8 leaf), .string (S8 value)] (STR [leaf, value]) (Nat.zero_le _) rfl rfl (by omega) (by omega))) hl3)))
      clear ho hb3 hp3 hl3 HQ3 HQ4
      go_wp2_with fail
      generalize w2.alloc (.cells #[.string (S8 leaf), .string (S8 value)] 9) = w3 at *
      obtain ⟨ho3, hb3, hs3, hl3⟩ := HW3.out
      clear HW3 q3 q4 hb2
      go_loopw [3, 67] (fun v i wr => ∃ (k n : Nat) (A : Option Addr) (c : Nat), k ≤ 2 ∧ i = .int .i64 k ∧ v = .slice A n c ∧ n = (preW BL leaf value k).length ∧ wr.ownsRow w0.heap.size 9 1 (.slice A n c) n (STR (preW BL leaf value k)) ∧ Below w0.heap.size w0 wr ∧ Sl wr 1 (.slice (some ⟨w2.heap.size, 0, none⟩) 2 2) (STR [leaf, value]) ∧ (∀ ad, A = some ad → ad.block ≠ w2.heap.size) ∧ n ≤ 3 + k) (fun _ i _ => 2 - (intOf i).toNat)
      case atStart => exact ⟨0, n, A, c, by omega, rfl, rfl, by rw [HNL.out, preW_0], by rw [preW_0]; exact ho3, hb3, hs3, fun ad had => by have := hwn ad had; omega, by omega⟩
      case round =>
        obtain ⟨k, n, A, c, hk, rfl, rfl, hn, ho, hbr, hsr, hne, hn3⟩ := hrel
        have HNK := hid hn
        clear hn ho3 hb3 hs3
        by_cases hlt : k < 2
        · obtain ⟨b6, o6, he6, hbl6, p6⟩ := STR_cell hsr (k := k) hlt
          injection he6 with he6
          injection he6 with he6 he7
          subst he6
          subst he7
          rw [Nat.zero_add] at p6
          have HPS := hid (preW_step BL leaf value k hlt)
          by_cases he : [leaf, value].getD k [] = []
          · rw [he] at p6
            have HP1 : Hid (preW BL leaf value (k + 1) = preW BL leaf value k) := by show _ = _; rw [HPS.out, he]; simp [optL]
            have te : (S8 []).toList.isEmpty = true := by rw [show (S8 []).toList = [] from Lib.toList_data _]; rfl
            clear he HPS
            go_wp2_with fail
            go_light
            exact ⟨⟨k + 1, n, A, c, by omega, by go_num, rfl, by rw [HP1.out]; exact HNK.out, by rw [HP1.out]; exact ho, hbr, hsr, hne, by omega⟩, by simp [intOf]; omega⟩
          · have HP1 : Hid (preW BL leaf value (k + 1) = preW BL leaf value k ++ [[leaf, value].getD k []]) := by show _ = _; rw [HPS.out]; unfold optL; rw [if_neg he]
            have te : (S8 ([leaf, value].getD k [])).toList.isEmpty = false := by
              rw [show (S8 ([leaf, value].getD k [])).toList = [leaf, value].getD k [] from Lib.toList_data _]
              cases hq : [leaf, value].getD k [] with
              | nil => exact absurd hq he
              | cons a b => rfl
            clear he HPS
            generalize [leaf, value].getD k [] = el at *
            have hsl : Sl (wr.alloc (.cells #[.string (S8 el)] 9)) 1 (.slice (some ⟨wr.heap.size, 0, none⟩) 1 1) (STR [el]) := own_sl (own_made wr 0 9 1 1 #[.string (S8 el)] (STR [el]) (Nat.zero_le _) rfl rfl (by omega) (by omega))
            have hba := (Below.refl wr.heap.size wr).alloc (Nat.le_refl _) (.cells #[.string (S8 el)] 9)
            have ho2 := own_below ho hba
            have hsr2 := hsr.below hba
            have hbw2 := hbr.trans (hba.mono hbr.size)
            have hsz : (wr.alloc (.cells #[.string (S8 el)] 9)).heap.size = wr.heap.size + 1 := by simp
            have HSZ := hid hsz
            clear ho hba hbr hsr hsz
            go_wp2_with (at_builtin; refine wpList_app rfl (.tmp 73) (.tmp 75) st_strs rfl w0.heap.size rfl ho2 rfl hsl (STR_one _) (by simp [maxLen]; omega) (by omega) hbw2.size ?_)
            intro A9 c9 w5 ho9 hg9 hbl9
            have hb9 := hbw2.trans ((grown_below ho2 hg9 hbw2.size).mono (Nat.le_refl _))
            have hs9 : Sl w5 1 (.slice (some ⟨w2.heap.size, 0, none⟩) 2 2) (STR [leaf, value]) := hsr2.grown hg9 (fun ad had e => by
              injection had with had
              subst had
              cases A with
              | none => cases e
              | some a =>
                injection e with e
                exact hne a rfl e.symm)
            have hne9 : ∀ ad, A9 = some ad → ad.block ≠ w2.heap.size := fun ad had e => by
              subst had
              rcases hbl9 with h9 | h9
              · cases A with
                | none => cases h9
                | some a =>
                  injection h9 with h9
                  exact hne a rfl (h9.symm.trans e)
              · injection h9 with h9
                try rw [HSZ.out] at h9
                omega
            clear ho2 hbw2 hsl hg9 hsr2 hbl9
            rw [← STR_append, ← HP1.out] at ho9
            go_wp2_with fail
            go_light
            exact ⟨⟨k + 1, n + 1, A9, c9, by omega, by go_num, rfl, by rw [HP1.out, List.length_append, ← HNK.out]; rfl, ho9, hb9, hs9, hne9, by omega⟩, by simp [intOf]; omega⟩
        · obtain rfl : k = 2 := by omega
          go_wp2_with fail
          go_ret
          have h2 := preW_2 BL leaf value
          have hn2 := HNK.out
          rw [h2] at ho hn2
          have hsl9 := own_sl ho
          clear ho
          subst hn2
          exact ⟨A, c, rfl, hsl9, hb0.trans (hbr.mono hb0.size)⟩
end Go.Proofs.YtfojgimficdjhaaGreatDoor
namespace Go.Proofs.YtfojgimficdjhaaGreatDoor
set_option linter.unusedVariables false
set_option linter.unusedSimpArgs false
open Go Go.RowKit

theorem pwords_any (c : Cmd) (w : World) (hen : Env w) (h0 : -9223372036854775808 ≤ c.n) (h1 : c.n ≤ 9223372036854775807) : Calls Tryz.prog 48 #[.agg (cmV c)] w (WordsPost (wordsW c) w) := by
  obtain ⟨what, ⟨head, name, leaf, value⟩, num⟩ := c
  show Calls _ _ #[.agg #[.int .i64 what, .int .i64 head, .string (S8 name), .string (S8 leaf), .string (S8 value), .int .i64 num]] _ _
  unfold wordsW
  simp only at h0 h1 ⊢
  by_cases k3 : what = 3
  · subst k3; exact words_3 head name leaf value num w
  rw [if_neg k3]
  by_cases k4 : what = 4
  · subst k4; exact words_4 head name leaf value num w
  rw [if_neg k4]
  by_cases k5 : what = 5
  · subst k5; exact words_5 head name leaf value num w
  rw [if_neg k5]
  by_cases k6 : what = 6
  · subst k6; exact words_6 head name leaf value num w
  rw [if_neg k6]
  by_cases k8 : what = 8
  · subst k8; exact words_8 head name leaf value num w
  rw [if_neg k8]
  by_cases k7 : what = 7
  · subst k7; exact words_7 head name leaf value num w hen h0 h1
  rw [if_neg k7]
  by_cases k9 : what = 9
  · subst k9; exact words_9 head name leaf value num w hen h0 h1
  rw [if_neg k9]
  exact words_ln what head name leaf value num w k3 k4 k5 k6 k7 k8 k9
theorem joinS_any (A : Option Addr) (c : Nat) (L : List (List UInt8)) (w : World) (h : Sl w 1 (.slice A L.length c) (STR L)) (h0 : 0 < L.length) (hl : (Lib.join L [32]).length ≤ 100000) (hL : L.length ≤ 100000) :
    Calls Tryz.prog 47 #[.slice A L.length c, .string ⟨#[32]⟩] w fun e w' => e = .returned (.string (S8 (Lib.join L [32]))) ∧ Below w.heap.size w w' := by
  obtain ⟨b, off, rfl, hbl, _⟩ := STR_cell h (k := 0) h0
  have hm : (L.map S8).map (·.data.toList) = L := by rw [List.map_map]; exact List.map_id'' (fun _ => rfl) L
  have hc : L.length ≤ c := by obtain ⟨_, _, _, he, _, h2, _⟩ := h; injection he with _ e2 e3; subst e2; subst e3; exact h2
  have := Any.strings_Join Tryz.lays156 builder_x b off c (L.map S8) ⟨#[32]⟩ w (fun j x hx => by
    rw [List.getElem?_map, Option.map_eq_some_iff] at hx
    obtain ⟨y, hy, rfl⟩ := hx
    have hj : j < L.length := (List.getElem?_eq_some_iff.1 hy).1
    obtain ⟨_, _, e1, _, p⟩ := STR_cell h hj
    injection e1 with e1
    injection e1 with e1 e2
    subst e1; subst e2
    rw [p, List.getD_eq_getElem?_getD, hy]
    rfl) hbl (by rw [List.length_map]; omega) (by rw [List.length_map]; omega) (by rw [hm]; show (Lib.join L [32]).length ≤ _; omega)
  rw [List.length_map, hm] at this
  exact this
theorem tail_len (L : List (List UInt8)) (m : Nat) (h : ∀ x ∈ L, x.length ≤ m) : (Lib.joinTail [32] L).length ≤ L.length * (m + 1) := by
  induction L with
  | nil => simp [Lib.joinTail]
  | cons a r ih =>
    have h1 := h a (by simp)
    have h2 := ih (fun x hx => h x (by simp [hx]))
    have e : Lib.joinTail [32] (a :: r) = [32] ++ a ++ Lib.joinTail [32] r := by simp [Lib.joinTail]
    have e2 : (a :: r).length * (m + 1) = r.length * (m + 1) + (m + 1) := by rw [List.length_cons, Nat.add_mul]; omega
    rw [e, e2, List.length_append, List.length_append]
    simp only [List.length_cons, List.length_nil]
    omega
theorem join_len (L : List (List UInt8)) (m : Nat) (h : ∀ x ∈ L, x.length ≤ m) : (Lib.join L [32]).length ≤ L.length * (m + 1) := by
  cases L with
  | nil => simp [Lib.join]
  | cons a r =>
    have h1 := h a (by simp)
    have h2 := tail_len r m (fun x hx => h x (by simp [hx]))
    have e2 : (a :: r).length * (m + 1) = r.length * (m + 1) + (m + 1) := by rw [List.length_cons, Nat.add_mul]; omega
    rw [Lib.join_cons, e2, List.length_append]
    omega
structure CmSmall (c : Cmd) : Prop where
  lo : -9223372036854775808 ≤ c.n
  hi : c.n ≤ 9223372036854775807
  name : c.line.name.length ≤ 1000
  leaf : c.line.leaf.length ≤ 1000
  value : c.line.value.length ≤ 1000
theorem wordsW_small (c : Cmd) (h : CmSmall c) : 0 < (wordsW c).length ∧ (wordsW c).length ≤ 5 ∧ ∀ x ∈ wordsW c, x.length ≤ 1000 := by
  have hi := itoa_len c.n h.lo h.hi
  unfold wordsW
  split
  · exact ⟨by simp, by simp, by simp; decide⟩
  split
  · exact ⟨by simp, by simp, by simp; decide⟩
  split
  · exact ⟨by simp, by simp, by simp; decide⟩
  split
  · exact ⟨by simp, by simp, by simp; decide⟩
  split
  · exact ⟨by simp, by simp, by simp; decide⟩
  split
  · exact ⟨by simp, by simp, by simp; exact ⟨by decide, by omega⟩⟩
  split
  · exact ⟨by simp, by simp, by simp; exact ⟨by decide, by omega⟩⟩
  · have h1 := h.name
    have h2 := h.leaf
    have h3 := h.value
    have l1 : (headL c.line).length ≤ 2 ∧ ∀ x ∈ headL c.line, x.length ≤ 1000 := by
      unfold headL
      split
      · exact ⟨by simp, by simp; exact ⟨by decide, h1⟩⟩
      split
      · exact ⟨by simp, by simp; exact ⟨by decide, h1⟩⟩
      · exact ⟨by simp, by simp⟩
    have l2 : ∀ y : List UInt8, y.length ≤ 1000 → (optL y).length ≤ 1 ∧ ∀ x ∈ optL y, x.length ≤ 1000 := by
      intro y hy
      unfold optL
      split
      · exact ⟨by simp, by simp⟩
      · exact ⟨by simp, by simpa using hy⟩
    have l3 := l2 _ h2
    have l4 := l2 _ h3
    refine ⟨by simp, by simp only [List.length_append, List.length_cons, List.length_nil]; omega, ?_⟩
    intro x hx
    simp only [List.mem_append, List.mem_singleton] at hx
    rcases hx with ((hx | hx) | hx) | hx
    · rw [hx]; split <;> decide
    · exact l1.2 x hx
    · exact l3.2 x hx
    · exact l4.2 x hx
theorem textW_len (c : Cmd) (h : CmSmall c) : (textW c).length ≤ 10000 := by
  obtain ⟨_, h2, h3⟩ := wordsW_small c h
  have := join_len (wordsW c) 1000 h3
  unfold textW
  have h4 : (wordsW c).length * (1000 + 1) ≤ 5 * 1001 := Nat.mul_le_mul h2 (Nat.le_refl _)
  omega
end Go.Proofs.YtfojgimficdjhaaGreatDoor
namespace Go.Proofs.YtfojgimficdjhaaGreatDoor
set_option linter.unusedVariables false
set_option linter.unusedSimpArgs false
open Go Go.RowKit

/-- is it read again? -/
def wrOk (s : List UInt8) (c : Cmd) : Bool := match readT s with | some d => cmB d c | none => false
def WritePost (c : Cmd) (e : Ending) : Prop := e = if wrOk (textW c) c = true then .returned (.tuple #[.string (S8 (textW c)), .int .i64 0]) else .returned (.tuple #[.string ⟨#[]⟩, .int .i64 1])
set_option maxRecDepth 100000 in
set_option maxHeartbeats 1600000 in
theorem Write_any (c : Cmd) (w : World) (hen : Env w) (hsm : CmSmall c) : Calls Tryz.prog 12 #[.agg (cmV c)] w fun e w' => WritePost c e ∧ Below w.heap.size w w' := by
  have HWD : Hid (∀ w', Below w.heap.size w w' → Calls Tryz.prog 48 #[.agg (cmV c)] w' (WordsPost (wordsW c) w')) := fun w' hb => pwords_any c w' (hen.below hb) hsm.lo hsm.hi
  obtain ⟨z1, z2, z3⟩ := wordsW_small c hsm
  have z4 := textW_len c hsm
  have HJ : Hid (∀ A cc w', Sl w' 1 (.slice A (wordsW c).length cc) (STR (wordsW c)) → Calls Tryz.prog 47 #[.slice A (wordsW c).length cc, .string ⟨#[32]⟩] w' fun e w2 => e = .returned (.string (S8 (textW c))) ∧ Below w'.heap.size w' w2) := fun A cc w' h => joinS_any A cc (wordsW c) w' h z1 (show (textW c).length ≤ _ by omega) (by omega)
  have HRD : Hid (∀ w', Below w.heap.size w w' → Calls Tryz.prog 8 #[.string (S8 (textW c))] w' fun e w2 => ReadPost (readT (textW c)) e ∧ Below w'.heap.size w' w2) := fun w' hb => Read_any (S8 (textW c)) w' (by rw [S8_size]; omega) (hen.below hb)
  have HWP : Hid (∀ e, WritePost c e = (e = if wrOk (textW c) c = true then .returned (.tuple #[.string (S8 (textW c)), .int .i64 0]) else .returned (.tuple #[.string ⟨#[]⟩, .int .i64 1]))) := fun e => rfl
  generalize hL : wordsW c = L at *
  have HLL := hid hL
  clear z1 z2 z3 z4 hen hsm hL
  generalize hT : textW c = T at *
  have HTT := hid hT
  clear hT
  have HOK : Hid (wrOk T c = match readT T with | some d => cmB d c | none => false) := rfl
  generalize wrOk T c = ok at *
  generalize readT T = rt at *
  generalize hwp : WritePost c = WP at *
  obtain ⟨what, ⟨head, name, leaf, value⟩, num⟩ := c
  show Calls _ _ #[.agg #[.int .i64 what, .int .i64 head, .string (S8 name), .string (S8 leaf), .string (S8 value), .int .i64 num]] _ _
  clear hwp
  obtain ⟨hb0, hp0, hl0⟩ := box1 w (.cells #[.int .i64 what, .int .i64 head, .string (S8 name), .string (S8 leaf), .string (S8 value), .int .i64 num] 25)
  go_enter Tryz.func12, Tryz.ntmps12
  go_upto_region 1 with fail
  generalize w.alloc (.cells #[.int .i64 what, .int .i64 head, .string (S8 name), .string (S8 leaf), .string (S8 value), .int .i64 num] 25) = w0 at *
  have hp0' : w0.heap[w.heap.size]? = some (.cells (cmV ⟨what, ⟨head, name, leaf, value⟩, num⟩) 25 (0, 0)) := hp0
  clear hp0
  go_wp2_with (refine wpList_load_row rfl 25 (.tmp 1) rfl w.heap.size rfl 25 (cmV ⟨what, ⟨head, name, leaf, value⟩, num⟩) (0, 0) _ hp0' Tryz.underlying25 rfl i6 ?_)
  refine (HWD.out w0 hb0).mono ?_
  rintro e w1 ⟨A, cc, rfl, hs1, hb1⟩
  have hp1 := blk_below hp0' hb1 hl0
  have hbw1 := hb0.trans (hb1.mono hb0.size)
  clear HWD hb1 hb0 hp0'
  have HJ1 := hid (HJ.out A cc w1 hs1)
  clear HJ hs1
  generalize L.length = n at *
  go_wp2_with fail
  refine HJ1.out.mono ?_
  rintro e w2 ⟨rfl, hb2⟩
  have hp2 := blk_below hp1 hb2 (blk_lt hp1)
  have hbw2 := hbw1.trans (hb2.mono hbw1.size)
  clear HJ1 hb2 hp1 hbw1
  go_wp2_with fail
  refine (HRD.out w2 hbw2).mono ?_
  rintro e w3 ⟨hrp, hb3⟩
  have hp3 := blk_below hp2 hb3 (blk_lt hp2)
  have hbw3 := hbw2.trans (hb3.mono hbw2.size)
  clear HRD hb3 hp2 hbw2
  cases rt with
  | none =>
    obtain rfl := hrp.none
    have HW1 : Hid (WP (.returned (.tuple #[.string ⟨#[]⟩, .int .i64 1]))) := by show WP _; rw [HWP.out, HOK.out]; rfl
    clear hrp HWP HOK
    obtain ⟨hb4, hg4, hl4⟩ := box1 w3 (.cells (cmV cmd0) 25)
    have HW4 := hid (hbw3.trans (hb4.mono hbw3.size))
    clear hb4 hg4 hl4 hp3 hbw3
    go_upto_region 3 with (refine wpList_store_last rfl 25 (.tmp 5) (.tmp 13) rfl (cmV cmd0) rfl rfl i6 rfl (cmV_one _) ?_)
    generalize w3.alloc (.cells (cmV cmd0) 25) = w4 at *
    have hbw4 := HW4.out
    clear HW4
    go_wp2_with fail
    go_ret2
    exact ⟨HW1.out, hbw4⟩
  | some d =>
    obtain rfl := hrp.some
    clear hrp
    obtain ⟨hb4, hg4, hl4⟩ := box1 w3 (.cells (cmV d) 25)
    have HW4 := hid (And.intro hg4 (And.intro (blk_below hp3 hb4 (blk_lt hp3)) (hbw3.trans (hb4.mono hbw3.size))))
    clear hb4 hg4 hl4 hp3 hbw3
    go_upto_region 3 with (refine wpList_store_last rfl 25 (.tmp 5) (.tmp 13) rfl (cmV d) rfl rfl i6 rfl (cmV_one _) ?_)
    generalize w3.alloc (.cells (cmV d) 25) = w4 at *
    obtain ⟨hg4, hp4, hbw4⟩ := HW4.out
    clear HW4
    have hcmp := fun W => neqCm d ⟨what, ⟨head, name, leaf, value⟩, num⟩ W
    have HOK2 : Hid (ok = cmB d ⟨what, ⟨head, name, leaf, value⟩, num⟩) := HOK.out
    generalize cmB d ⟨what, ⟨head, name, leaf, value⟩, num⟩ = b at *
    obtain rfl := HOK2.out
    have HCM := hid hcmp
    have HW1 : Hid (ok = false → WP (.returned (.tuple #[.string ⟨#[]⟩, .int .i64 1]))) := by show _ → WP _; intro h; rw [HWP.out, h]; rfl
    have HW2 : Hid (ok = true → WP (.returned (.tuple #[.string (S8 T), .int .i64 0]))) := by show _ → WP _; intro h; rw [HWP.out, h]; rfl
    clear HOK HOK2 hcmp HWP
    cases ok with
    | false =>
      have HE := hid (HW1.out rfl)
      clear HW1 HW2
      go_wp2_with (first | refine wpList_load_rowG (by rfl) 25 (.tmp 5) rfl w3.heap.size rfl 25 (cmV d) (0, 0) _ hg4 Tryz.underlying25 rfl i6 ?_ | refine wpList_load_rowG (by rfl) 25 (.tmp 1) rfl w.heap.size rfl 25 (cmV ⟨what, ⟨head, name, leaf, value⟩, num⟩) (0, 0) _ hp4 Tryz.underlying25 rfl i6 ?_ | refine wpList_cmp (by rfl) (t := 25) (x := .tmp 18) (y := .tmp 19) (xs := cmV d) (ys := cmV ⟨what, ⟨head, name, leaf, value⟩, num⟩) rfl rfl rfl guardCm (HCM.out _) ?_)
      go_ret2
      exact ⟨HE.out, hbw4⟩
    | true =>
      have HE := hid (HW2.out rfl)
      clear HW1 HW2
      go_wp2_with (first | refine wpList_load_rowG (by rfl) 25 (.tmp 5) rfl w3.heap.size rfl 25 (cmV d) (0, 0) _ hg4 Tryz.underlying25 rfl i6 ?_ | refine wpList_load_rowG (by rfl) 25 (.tmp 1) rfl w.heap.size rfl 25 (cmV ⟨what, ⟨head, name, leaf, value⟩, num⟩) (0, 0) _ hp4 Tryz.underlying25 rfl i6 ?_ | refine wpList_cmp (by rfl) (t := 25) (x := .tmp 18) (y := .tmp 19) (xs := cmV d) (ys := cmV ⟨what, ⟨head, name, leaf, value⟩, num⟩) rfl rfl rfl guardCm (HCM.out _) ?_)
      go_ret2
      exact ⟨HE.out, hbw4⟩
end Go.Proofs.YtfojgimficdjhaaGreatDoor
namespace Go.Proofs.YtfojgimficdjhaaGreatDoor
set_option linter.unusedVariables false
set_option linter.unusedSimpArgs false
open Go Go.RowKit

theorem refDigs_any (n : Int) (h0 : -9223372036854775808 ≤ n) (h1 : n ≤ 9223372036854775807) (w : World) : Calls Tryz.prog 49 #[.int .i64 n] w fun e w' => e = .returned (.string (S8 (digsT n))) ∧ Below w.heap.size w w' := by
  by_cases h : n < 0
  · have HD : Hid (digsT n = [45]) := by show _ = _; unfold digsT; rw [if_pos h]
    go_enter Tryz.func49, Tryz.ntmps49
    go_wp2_with fail
    go_ret
    exact ⟨by rw [HD.out]; rfl, Below.refl _ _⟩
  · obtain ⟨k, rfl⟩ : ∃ k : Nat, n = (k : Int) := ⟨n.toNat, by omega⟩
    have HD : Hid (digsT (k : Int) = SC.digs k) := by show _ = _; unfold digsT; rw [if_neg h]; rfl
    have HR := hid (fun w => refDigits_any k w (by omega))
    clear h1 h
    go_enter Tryz.func49, Tryz.ntmps49
    go_wp2_with fail
    refine (HR.out w).mono ?_
    rintro e w1 ⟨rfl, hb1⟩
    go_wp2_with fail
    go_ret
    exact ⟨by rw [HD.out]; rfl, hb1⟩
theorem catW {w : World} (a b c : List UInt8) (h : c = a ++ b) (hl : a.length + b.length ≤ 1000000000) : (Op.stringOp .add (S8 a) (S8 b)).run Tryz.prog w = .ok (.string (S8 c)) w := by
  rw [h, ← S8_add]
  exact run_string_add_sum w (S8 a) (S8 b) (by rw [S8_size, S8_size]; omega)
theorem textR_len (c : Cmd) (h : CmSmall c) : (textR c).length ≤ 10000 := by
  have h1 := h.name
  have h2 := h.leaf
  have h3 := h.value
  have hd : (digsT c.n).length ≤ 21 := by
    unfold digsT
    split
    · simp
    · have := SC.digs_len c.n.toNat 19 (by have := h.hi; omega)
      omega
  have l1 : (headT c.line).length ≤ 1100 := by
    unfold headT
    split
    · simp; omega
    split
    · simp; omega
    · simp
  have l2 : ∀ y : List UInt8, y.length ≤ 1000 → (optT y).length ≤ 1001 := by
    intro y hy
    unfold optT
    split
    · simp
    · simp; omega
  have l3 := l2 _ h2
  have l4 := l2 _ h3
  unfold textR
  split
  · simp only [List.length_append]; have : wSet.length = 3 := rfl; omega
  split
  · simp only [List.length_append]; have : wDelete.length = 6 := rfl; omega
  split
  · decide
  split
  · decide
  split
  · decide
  split
  · decide
  split
  · decide
  split
  · simp only [List.length_append]; have : wCC.length = 16 := rfl; have : ([32] : List UInt8).length = 1 := rfl; omega
  split
  · simp only [List.length_append]; have : wRoll.length = 8 := rfl; have : ([32] : List UInt8).length = 1 := rfl; omega
  · simp
def RefWritePost (c : Cmd) (e : Ending) : Prop := e = .returned (.tuple #[.string (S8 (textR c)), .bool (wrOk (textR c) c)])
set_option maxRecDepth 100000 in
set_option maxHeartbeats 3200000 in
theorem refWrite_any (c : Cmd) (w : World) (hen : Env w) (hsm : CmSmall c) : Calls Tryz.prog 14 #[.agg (cmV c)] w fun e w' => RefWritePost c e ∧ Below w.heap.size w w' := by
  have HRD : Hid (∀ w', Below w.heap.size w w' → Calls Tryz.prog 9 #[.string (S8 (textR c))] w' fun e w2 => CmdPost (readT (textR c)) e ∧ Below w'.heap.size w' w2) := fun w' hb => refRead_any (S8 (textR c)) w' (by rw [S8_size]; have := textR_len c hsm; omega) (hen.below hb)
  have HWP : Hid (∀ e, RefWritePost c e = (e = .returned (.tuple #[.string (S8 (textR c)), .bool (wrOk (textR c) c)]))) := fun e => rfl
  obtain ⟨T, hT⟩ : ∃ T, textR c = T := ⟨_, rfl⟩
  rw [hT] at HRD HWP
  have HTT := hid hT
  clear hT hen
  have HOK : Hid (wrOk T c = match readT T with | some d => cmB d c | none => false) := rfl
  generalize wrOk T c = ok at *
  generalize readT T = rt at *
  generalize hwp : RefWritePost c = WP at *
  clear hwp
  have HSM := hid hsm
  clear hsm
  obtain ⟨what, ⟨head, name, leaf, value⟩, num⟩ := c
  show Calls _ _ #[.agg #[.int .i64 what, .int .i64 head, .string (S8 name), .string (S8 leaf), .string (S8 value), .int .i64 num]] _ _
  obtain ⟨hb0, hp0, hl0⟩ := box1 w (.cells #[.int .i64 what, .int .i64 head, .string (S8 name), .string (S8 leaf), .string (S8 value), .int .i64 num] 31)
  go_enter Tryz.func14, Tryz.ntmps14
  go_upto_region 1 with fail
  generalize w.alloc (.cells #[.int .i64 what, .int .i64 head, .string (S8 name), .string (S8 leaf), .string (S8 value), .int .i64 num] 31) = w0 at *
  have hp0' : w0.heap[w.heap.size]? = some (.cells (cmV ⟨what, ⟨head, name, leaf, value⟩, num⟩) 31 (0, 0)) := hp0
  have HP0 := hid hp0'
  clear hp0 hp0'
  have q0 : w0.cell? ⟨w.heap.size, 0, none⟩ = some (.int .i64 what) := blkCell HP0.out 0
  go_upto_block 0 with fail
  go_cut [4] (fun v wx => v = .string (S8 T) ∧ Below w0.heap.size w0 wx)
  case first =>
    by_cases k1 : what = 1
    · subst k1
      have HT1 : Hid (T = wSet ++ headT ⟨head, name, leaf, value⟩ ++ optT leaf ++ optT value) := HTT.out.symm
      clear HTT
      have hn1 := HSM.out.name
      have hn2 := HSM.out.leaf
      have hn3 := HSM.out.value
      simp only at hn1 hn2 hn3
      have q1 : w0.cell? ⟨w.heap.size, 1, none⟩ = some (.int .i64 head) := blkCell HP0.out 1
      have q2 : w0.cell? ⟨w.heap.size, 2, none⟩ = some (.string (S8 name)) := blkCell HP0.out 2
      have q3 : w0.cell? ⟨w.heap.size, 3, none⟩ = some (.string (S8 leaf)) := blkCell HP0.out 3
      have q4 : w0.cell? ⟨w.heap.size, 4, none⟩ = some (.string (S8 value)) := blkCell HP0.out 4
      have HQ := hid (And.intro q1 (And.intro q2 (And.intro q3 q4)))
      clear q1 q2 q3 q4
      go_upto_region 6 with fail
      have hb1 := (Below.refl w0.heap.size w0).alloc (Nat.le_refl _) (.cells #[.string ⟨#[]⟩, .string ⟨#[115, 101, 116]⟩, .string ⟨#[100, 101, 108, 101, 116, 101]⟩] 9)
      generalize w0.alloc (.cells #[.string ⟨#[]⟩, .string ⟨#[115, 101, 116]⟩, .string ⟨#[100, 101, 108, 101, 116, 101]⟩] 9) = w1 at *
      obtain ⟨q1, q2, q3, q4⟩ := HQ.out
      replace q1 := (hb1.cell (p := ⟨w.heap.size, 1, none⟩) hl0).trans q1
      replace q2 := (hb1.cell (p := ⟨w.heap.size, 2, none⟩) hl0).trans q2
      replace q3 := (hb1.cell (p := ⟨w.heap.size, 3, none⟩) hl0).trans q3
      replace q4 := (hb1.cell (p := ⟨w.heap.size, 4, none⟩) hl0).trans q4
      clear HQ q0
      obtain ⟨x1, hx1⟩ : ∃ x1, x1 = wSet ++ (if head = 1 then [32, 97, 114, 101, 97, 32] ++ name else []) := ⟨_, rfl⟩
      obtain ⟨x2, hx2⟩ : ∃ x2, x2 = wSet ++ headT ⟨head, name, leaf, value⟩ := ⟨_, rfl⟩
      obtain ⟨x3, hx3⟩ : ∃ x3, x3 = x2 ++ optT leaf := ⟨_, rfl⟩
      have HT2 : Hid (T = x3 ++ optT value) := by show _ = _; rw [HT1.out, hx3, hx2]
      have hl2 : x2.length ≤ 1100 := by
        rw [hx2, List.length_append]
        have : (wSet : List UInt8).length ≤ 10 := by decide
        have : (headT ⟨head, name, leaf, value⟩).length ≤ 1050 := by
          unfold headT
          simp only
          split
          · simp; omega
          split
          · simp; omega
          · simp
        omega
      have hl3 : x3.length ≤ 2200 := by
        rw [hx3, List.length_append]
        have : (optT leaf).length ≤ 1001 := by
          unfold optT
          split
          · simp
          · simp; omega
        omega
      have HX1 := hid hx1
      have HX2 := hid hx2
      have HX3 := hid hx3
      clear hx1 hx2 hx3 HT1
      go_upto_if 20 with fail
      go_cut [4] (fun v wx => v = .string (S8 x1) ∧ wx = w1)
      case first =>
        by_cases h1 : head = 1
        · have HE : Hid (x1 = wSet ++ [32, 97, 114, 101, 97, 32] ++ name) := by show _ = _; rw [HX1.out, if_pos h1, List.append_assoc]
          obtain ⟨y1, hy1⟩ : ∃ y1, y1 = wSet ++ [32, 97, 114, 101, 97, 32] := ⟨_, rfl⟩
          have hy1l : y1.length ≤ 20 := by rw [hy1]; decide
          have a1 : ∀ W : World, (Op.stringOp .add ⟨#[115, 101, 116]⟩ ⟨#[32, 97, 114, 101, 97, 32]⟩).run Tryz.prog W = .ok (.string (S8 y1)) W := fun W => catW (w := W) wSet [32, 97, 114, 101, 97, 32] y1 hy1 (by decide)
          have a2 := fun W : World => catW (w := W) y1 name x1 (by rw [HE.out, hy1]) (by omega)
          subst h1
          clear hy1 hy1l HE
          as_aux_lemma =>
            go_wp2_with fail
            go_meet
            all_goals go_light
            exact ⟨rfl, rfl⟩
        · have t1 : (head == 1) = false := by rw [beq_eq_false_iff_ne]; exact h1
          have HE : Hid (x1 = wSet) := by show _ = _; rw [HX1.out, if_neg h1, List.append_nil]
          clear h1
          as_aux_lemma =>
            go_wp2_with fail
            go_meet
            all_goals go_light
            exact ⟨by rw [HE.out]; rfl, rfl⟩
      case rest =>
        obtain ⟨rfl, hwc⟩ := hcut
        subst hwc
        obtain ⟨w1, rfl⟩ : ∃ w1 : World, w1 = wc := ⟨_, rfl⟩
        go_upto_if 30 with fail
        go_cut [4] (fun v wx => v = .string (S8 x2) ∧ wx = w1)
        case first =>
          by_cases h2 : head = 2
          · have HE1 : Hid (x1 = wSet) := by show _ = _; rw [HX1.out, if_neg (by omega), List.append_nil]
            have HE2 : Hid (x2 = wSet ++ [32, 105, 110, 116, 101, 114, 102, 97, 99, 101, 32] ++ name) := by
              show _ = _
              rw [HX2.out]
              unfold headT
              simp only [h2]
              simp
            obtain ⟨y1, hy1⟩ : ∃ y1, y1 = x1 ++ [32, 105, 110, 116, 101, 114, 102, 97, 99, 101, 32] := ⟨_, rfl⟩
            have hy1l : y1.length ≤ 30 := by rw [hy1, HE1.out]; decide
            have a1 : ∀ W : World, (Op.stringOp .add (S8 x1) ⟨#[32, 105, 110, 116, 101, 114, 102, 97, 99, 101, 32]⟩).run Tryz.prog W = .ok (.string (S8 y1)) W := fun W => catW (w := W) x1 [32, 105, 110, 116, 101, 114, 102, 97, 99, 101, 32] y1 hy1 (by rw [HE1.out]; decide)
            have a2 := fun W : World => catW (w := W) y1 name x2 (by rw [HE2.out, hy1, HE1.out]) (by omega)
            subst h2
            clear hy1 hy1l HE1 HE2
            as_aux_lemma =>
              go_wp2_with fail
              go_meet
              all_goals go_light
              exact ⟨rfl, rfl⟩
          · have t1 : (head == 2) = false := by rw [beq_eq_false_iff_ne]; exact h2
            have HE : Hid (x1 = x2) := by
              show _ = _
              rw [HX1.out, HX2.out]
              unfold headT
              simp only [if_neg h2]
            clear h2
            as_aux_lemma =>
              go_wp2_with fail
              go_meet
              all_goals go_light
              exact ⟨by rw [HE.out], rfl⟩
        case rest =>
          obtain ⟨rfl, hwc⟩ := hcut
          subst hwc
          obtain ⟨w1, rfl⟩ : ∃ w1 : World, w1 = wc := ⟨_, rfl⟩
          obtain ⟨be, hbe⟩ : ∃ be, (S8 leaf).toList.isEmpty = be := ⟨_, rfl⟩
          have HBE : Hid (be = decide (leaf = [])) := by
            show _ = _
            rw [← hbe, show (S8 leaf).toList = leaf from Lib.toList_data _]
            cases leaf <;> simp
          go_upto_if 40 with fail
          clear hbe
          go_cut [4] (fun v wx => v = .string (S8 x3) ∧ wx = w1)
          case first =>
            by_cases hlf : leaf = []
            · have HE : Hid (x3 = x2) := by show _ = _; rw [HX3.out, hlf]; simp [optT]
              obtain rfl : be = true := by have := HBE.out; rw [decide_eq_true hlf] at this; exact this
              clear hlf HBE
              as_aux_lemma =>
                go_wp2_with fail
                go_meet
                all_goals go_light
                exact ⟨by rw [HE.out], rfl⟩
            · obtain rfl : be = false := by have := HBE.out; rw [decide_eq_false hlf] at this; exact this
              clear HBE
              obtain ⟨y1, hy1⟩ : ∃ y1, y1 = x2 ++ [32] := ⟨_, rfl⟩
              have hy1l : y1.length ≤ 1101 := by rw [hy1, List.length_append]; simp; omega
              have a1 : ∀ W : World, (Op.stringOp .add (S8 x2) ⟨#[32]⟩).run Tryz.prog W = .ok (.string (S8 y1)) W := fun W => catW (w := W) x2 [32] y1 hy1 (by simp; omega)
              have a2 := fun W : World => catW (w := W) y1 leaf x3 (by rw [HX3.out, hy1]; unfold optT; rw [if_neg hlf]; simp) (by omega)
              clear hy1 hy1l hlf
              as_aux_lemma =>
                go_wp2_with fail
                go_meet
                all_goals go_light
                exact ⟨rfl, rfl⟩
          case rest =>
            obtain ⟨rfl, hwc⟩ := hcut
            subst hwc
            obtain ⟨w1, rfl⟩ : ∃ w1 : World, w1 = wc := ⟨_, rfl⟩
            by_cases hvl : value = []
            · subst hvl
              have HE : Hid (T = x3) := by show _ = _; rw [HT2.out]; simp [optT]
              have te : (S8 []).toList.isEmpty = true := by rw [show (S8 []).toList = [] from Lib.toList_data _]; rfl
              as_aux_lemma =>
                go_wp2_with fail
                go_meet
                all_goals go_light
                exact ⟨by rw [HE.out], hb1⟩
            · have te : (S8 value).toList.isEmpty = false := by
                rw [show (S8 value).toList = value from Lib.toList_data _]
                cases value with
                | nil => exact absurd rfl hvl
                | cons a b => rfl
              obtain ⟨y1, hy1⟩ : ∃ y1, y1 = x3 ++ [32] := ⟨_, rfl⟩
              have hy1l : y1.length ≤ 2201 := by rw [hy1, List.length_append]; simp; omega
              have a1 : ∀ W : World, (Op.stringOp .add (S8 x3) ⟨#[32]⟩).run Tryz.prog W = .ok (.string (S8 y1)) W := fun W => catW (w := W) x3 [32] y1 hy1 (by simp; omega)
              have a2 := fun W : World => catW (w := W) y1 value T (by rw [HT2.out, hy1]; unfold optT; rw [if_neg hvl]; simp) (by omega)
              clear hy1 hy1l hvl
              as_aux_lemma =>
                go_wp2_with fail
                go_meet
                all_goals go_light
                exact ⟨rfl, hb1⟩
    by_cases k2 : what = 2
    · subst k2
      have HT1 : Hid (T = wDelete ++ headT ⟨head, name, leaf, value⟩ ++ optT leaf ++ optT value) := HTT.out.symm
      clear HTT k1
      have hn1 := HSM.out.name
      have hn2 := HSM.out.leaf
      have hn3 := HSM.out.value
      simp only at hn1 hn2 hn3
      have q1 : w0.cell? ⟨w.heap.size, 1, none⟩ = some (.int .i64 head) := blkCell HP0.out 1
      have q2 : w0.cell? ⟨w.heap.size, 2, none⟩ = some (.string (S8 name)) := blkCell HP0.out 2
      have q3 : w0.cell? ⟨w.heap.size, 3, none⟩ = some (.string (S8 leaf)) := blkCell HP0.out 3
      have q4 : w0.cell? ⟨w.heap.size, 4, none⟩ = some (.string (S8 value)) := blkCell HP0.out 4
      have HQ := hid (And.intro q1 (And.intro q2 (And.intro q3 q4)))
      clear q1 q2 q3 q4
      go_upto_region 6 with fail
      have hb1 := (Below.refl w0.heap.size w0).alloc (Nat.le_refl _) (.cells #[.string ⟨#[]⟩, .string ⟨#[115, 101, 116]⟩, .string ⟨#[100, 101, 108, 101, 116, 101]⟩] 9)
      generalize w0.alloc (.cells #[.string ⟨#[]⟩, .string ⟨#[115, 101, 116]⟩, .string ⟨#[100, 101, 108, 101, 116, 101]⟩] 9) = w1 at *
      obtain ⟨q1, q2, q3, q4⟩ := HQ.out
      replace q1 := (hb1.cell (p := ⟨w.heap.size, 1, none⟩) hl0).trans q1
      replace q2 := (hb1.cell (p := ⟨w.heap.size, 2, none⟩) hl0).trans q2
      replace q3 := (hb1.cell (p := ⟨w.heap.size, 3, none⟩) hl0).trans q3
      replace q4 := (hb1.cell (p := ⟨w.heap.size, 4, none⟩) hl0).trans q4
      clear HQ q0
      obtain ⟨x1, hx1⟩ : ∃ x1, x1 = wDelete ++ (if head = 1 then [32, 97, 114, 101, 97, 32] ++ name else []) := ⟨_, rfl⟩
      obtain ⟨x2, hx2⟩ : ∃ x2, x2 = wDelete ++ headT ⟨head, name, leaf, value⟩ := ⟨_, rfl⟩
      obtain ⟨x3, hx3⟩ : ∃ x3, x3 = x2 ++ optT leaf := ⟨_, rfl⟩
      have HT2 : Hid (T = x3 ++ optT value) := by show _ = _; rw [HT1.out, hx3, hx2]
      have hl2 : x2.length ≤ 1100 := by
        rw [hx2, List.length_append]
        have : (wDelete : List UInt8).length ≤ 10 := by decide
        have : (headT ⟨head, name, leaf, value⟩).length ≤ 1050 := by
          unfold headT
          simp only
          split
          · simp; omega
          split
          · simp; omega
          · simp
        omega
      have hl3 : x3.length ≤ 2200 := by
        rw [hx3, List.length_append]
        have : (optT leaf).length ≤ 1001 := by
          unfold optT
          split
          · simp
          · simp; omega
        omega
      have HX1 := hid hx1
      have HX2 := hid hx2
      have HX3 := hid hx3
      clear hx1 hx2 hx3 HT1
      go_upto_if 20 with fail
      go_cut [4] (fun v wx => v = .string (S8 x1) ∧ wx = w1)
      case first =>
        by_cases h1 : head = 1
        · have HE : Hid (x1 = wDelete ++ [32, 97, 114, 101, 97, 32] ++ name) := by show _ = _; rw [HX1.out, if_pos h1, List.append_assoc]
          obtain ⟨y1, hy1⟩ : ∃ y1, y1 = wDelete ++ [32, 97, 114, 101, 97, 32] := ⟨_, rfl⟩
          have hy1l : y1.length ≤ 20 := by rw [hy1]; decide
          have a1 : ∀ W : World, (Op.stringOp .add ⟨#[100, 101, 108, 101, 116, 101]⟩ ⟨#[32, 97, 114, 101, 97, 32]⟩).run Tryz.prog W = .ok (.string (S8 y1)) W := fun W => catW (w := W) wDelete [32, 97, 114, 101, 97, 32] y1 hy1 (by decide)
          have a2 := fun W : World => catW (w := W) y1 name x1 (by rw [HE.out, hy1]) (by omega)
          subst h1
          clear hy1 hy1l HE
          as_aux_lemma =>
            go_wp2_with fail
            go_meet
            all_goals go_light
            exact ⟨rfl, rfl⟩
        · have t1 : (head == 1) = false := by rw [beq_eq_false_iff_ne]; exact h1
          have HE : Hid (x1 = wDelete) := by show _ = _; rw [HX1.out, if_neg h1, List.append_nil]
          clear h1
          as_aux_lemma =>
            go_wp2_with fail
            go_meet
            all_goals go_light
            exact ⟨by rw [HE.out]; rfl, rfl⟩
      case rest =>
        obtain ⟨rfl, hwc⟩ := hcut
        subst hwc
        obtain ⟨w1, rfl⟩ : ∃ w1 : World, w1 = wc := ⟨_, rfl⟩
        go_upto_if 30 with fail
        go_cut [4] (fun v wx => v = .string (S8 x2) ∧ wx = w1)
        case first =>
          by_cases h2 : head = 2
          · have HE1 : Hid (x1 = wDelete) := by show _ = _; rw [HX1.out, if_neg (by omega), List.append_nil]
            have HE2 : Hid (x2 = wDelete ++ [32, 105, 110, 116, 101, 114, 102, 97, 99, 101, 32] ++ name) := by
              show _ = _
              rw [HX2.out]
              unfold headT
              simp only [h2]
              simp
            obtain ⟨y1, hy1⟩ : ∃ y1, y1 = x1 ++ [32, 105, 110, 116, 101, 114, 102, 97, 99, 101, 32] := ⟨_, rfl⟩
            have hy1l : y1.length ≤ 30 := by rw [hy1, HE1.out]; decide
            have a1 : ∀ W : World, (Op.stringOp .add (S8 x1) ⟨#[32, 105, 110, 116, 101, 114, 102, 97, 99, 101, 32]⟩).run Tryz.prog W = .ok (.string (S8 y1)) W := fun W => catW (w := W) x1 [32, 105, 110, 116, 101, 114, 102, 97, 99, 101, 32] y1 hy1 (by rw [HE1.out]; decide)
            have a2 := fun W : World => catW (w := W) y1 name x2 (by rw [HE2.out, hy1, HE1.out]) (by omega)
            subst h2
            clear hy1 hy1l HE1 HE2
            as_aux_lemma =>
              go_wp2_with fail
              go_meet
              all_goals go_light
              exact ⟨rfl, rfl⟩
          · have t1 : (head == 2) = false := by rw [beq_eq_false_iff_ne]; exact h2
            have HE : Hid (x1 = x2) := by
              show _ = _
              rw [HX1.out, HX2.out]
              unfold headT
              simp only [if_neg h2]
            clear h2
            as_aux_lemma =>
              go_wp2_with fail
              go_meet
              all_goals go_light
              exact ⟨by rw [HE.out], rfl⟩
        case rest =>
          obtain ⟨rfl, hwc⟩ := hcut
          subst hwc
          obtain ⟨w1, rfl⟩ : ∃ w1 : World, w1 = wc := ⟨_, rfl⟩
          obtain ⟨be, hbe⟩ : ∃ be, (S8 leaf).toList.isEmpty = be := ⟨_, rfl⟩
          have HBE : Hid (be = decide (leaf = [])) := by
            show _ = _
            rw [← hbe, show (S8 leaf).toList = leaf from Lib.toList_data _]
            cases leaf <;> simp
          go_upto_if 40 with fail
          clear hbe
          go_cut [4] (fun v wx => v = .string (S8 x3) ∧ wx = w1)
          case first =>
            by_cases hlf : leaf = []
            · have HE : Hid (x3 = x2) := by show _ = _; rw [HX3.out, hlf]; simp [optT]
              obtain rfl : be = true := by have := HBE.out; rw [decide_eq_true hlf] at this; exact this
              clear hlf HBE
              as_aux_lemma =>
                go_wp2_with fail
                go_meet
                all_goals go_light
                exact ⟨by rw [HE.out], rfl⟩
            · obtain rfl : be = false := by have := HBE.out; rw [decide_eq_false hlf] at this; exact this
              clear HBE
              obtain ⟨y1, hy1⟩ : ∃ y1, y1 = x2 ++ [32] := ⟨_, rfl⟩
              have hy1l : y1.length ≤ 1101 := by rw [hy1, List.length_append]; simp; omega
              have a1 : ∀ W : World, (Op.stringOp .add (S8 x2) ⟨#[32]⟩).run Tryz.prog W = .ok (.string (S8 y1)) W := fun W => catW (w := W) x2 [32] y1 hy1 (by simp; omega)
              have a2 := fun W : World => catW (w := W) y1 leaf x3 (by rw [HX3.out, hy1]; unfold optT; rw [if_neg hlf]; simp) (by omega)
              clear hy1 hy1l hlf
              as_aux_lemma =>
                go_wp2_with fail
                go_meet
                all_goals go_light
                exact ⟨rfl, rfl⟩
          case rest =>
            obtain ⟨rfl, hwc⟩ := hcut
            subst hwc
            obtain ⟨w1, rfl⟩ : ∃ w1 : World, w1 = wc := ⟨_, rfl⟩
            by_cases hvl : value = []
            · subst hvl
              have HE : Hid (T = x3) := by show _ = _; rw [HT2.out]; simp [optT]
              have te : (S8 []).toList.isEmpty = true := by rw [show (S8 []).toList = [] from Lib.toList_data _]; rfl
              as_aux_lemma =>
                go_wp2_with fail
                go_meet
                all_goals go_light
                exact ⟨by rw [HE.out], hb1⟩
            · have te : (S8 value).toList.isEmpty = false := by
                rw [show (S8 value).toList = value from Lib.toList_data _]
                cases value with
                | nil => exact absurd rfl hvl
                | cons a b => rfl
              obtain ⟨y1, hy1⟩ : ∃ y1, y1 = x3 ++ [32] := ⟨_, rfl⟩
              have hy1l : y1.length ≤ 2201 := by rw [hy1, List.length_append]; simp; omega
              have a1 : ∀ W : World, (Op.stringOp .add (S8 x3) ⟨#[32]⟩).run Tryz.prog W = .ok (.string (S8 y1)) W := fun W => catW (w := W) x3 [32] y1 hy1 (by simp; omega)
              have a2 := fun W : World => catW (w := W) y1 value T (by rw [HT2.out, hy1]; unfold optT; rw [if_neg hvl]; simp) (by omega)
              clear hy1 hy1l hvl
              as_aux_lemma =>
                go_wp2_with fail
                go_meet
                all_goals go_light
                exact ⟨rfl, hb1⟩
    by_cases k3 : what = 3
    · subst k3
      have HT1 : Hid (T = wShow) := HTT.out.symm
      go_wp2_with fail
      go_meet
      all_goals go_light
      exact ⟨by rw [HT1.out]; rfl, (Below.refl _ _).alloc (Nat.le_refl _) _⟩
    by_cases k4 : what = 4
    · subst k4
      have HT1 : Hid (T = wCompare) := HTT.out.symm
      go_wp2_with fail
      go_meet
      all_goals go_light
      exact ⟨by rw [HT1.out]; rfl, (Below.refl _ _).alloc (Nat.le_refl _) _⟩
    by_cases k5 : what = 5
    · subst k5
      have HT1 : Hid (T = wCheck) := HTT.out.symm
      go_wp2_with fail
      go_meet
      all_goals go_light
      exact ⟨by rw [HT1.out]; rfl, (Below.refl _ _).alloc (Nat.le_refl _) _⟩
    by_cases k6 : what = 6
    · subst k6
      have HT1 : Hid (T = wCommit) := HTT.out.symm
      go_wp2_with fail
      go_meet
      all_goals go_light
      exact ⟨by rw [HT1.out]; rfl, (Below.refl _ _).alloc (Nat.le_refl _) _⟩
    by_cases k8 : what = 8
    · subst k8
      have HT1 : Hid (T = wConfirm) := HTT.out.symm
      go_wp2_with fail
      go_meet
      all_goals go_light
      exact ⟨by rw [HT1.out]; rfl, (Below.refl _ _).alloc (Nat.le_refl _) _⟩
    by_cases k7 : what = 7
    · subst k7
      have HT1 : Hid (T = wCC ++ [32] ++ digsT num) := HTT.out.symm
      have q5 : w0.cell? ⟨w.heap.size, 5, none⟩ = some (.int .i64 num) := blkCell HP0.out 5
      have hD := hid (fun W => refDigs_any num HSM.out.lo HSM.out.hi W)
      have hdl : (digsT num).length ≤ 21 := by
        unfold digsT
        split
        · simp
        · have := SC.digs_len num.toNat 19 (by have := HSM.out.hi; simp only at this; omega)
          omega
      have hA := fun W : World => catW (w := W) (wCC ++ [32]) (digsT num) T HT1.out (Nat.le_trans (Nat.add_le_add (show (wCC ++ [32]).length ≤ 20 by decide) hdl) (by decide))
      have hA' : ∀ W : World, (Op.stringOp .add ⟨#[99, 111, 109, 109, 105, 116, 45, 99, 111, 110, 102, 105, 114, 109, 101, 100, 32]⟩ (S8 (digsT num))).run Tryz.prog W = .ok (.string (S8 T)) W := hA
      generalize digsT num = dg at *
      clear hA hdl HT1 HTT
      go_wp2_with fail
      refine (hD.out w0).mono ?_
      rintro e w1 ⟨rfl, hb1⟩
      clear q0 q5 hD
      go_wp2_with fail
      go_meet
      all_goals go_light
      exact ⟨rfl, hb1⟩
    by_cases k9 : what = 9
    · subst k9
      have HT1 : Hid (T = wRoll ++ [32] ++ digsT num) := HTT.out.symm
      have q5 : w0.cell? ⟨w.heap.size, 5, none⟩ = some (.int .i64 num) := blkCell HP0.out 5
      have hD := hid (fun W => refDigs_any num HSM.out.lo HSM.out.hi W)
      have hdl : (digsT num).length ≤ 21 := by
        unfold digsT
        split
        · simp
        · have := SC.digs_len num.toNat 19 (by have := HSM.out.hi; simp only at this; omega)
          omega
      have hA := fun W : World => catW (w := W) (wRoll ++ [32]) (digsT num) T HT1.out (Nat.le_trans (Nat.add_le_add (show (wRoll ++ [32]).length ≤ 20 by decide) hdl) (by decide))
      have hA' : ∀ W : World, (Op.stringOp .add ⟨#[114, 111, 108, 108, 98, 97, 99, 107, 32]⟩ (S8 (digsT num))).run Tryz.prog W = .ok (.string (S8 T)) W := hA
      generalize digsT num = dg at *
      clear hA hdl HT1 HTT
      go_wp2_with fail
      refine (hD.out w0).mono ?_
      rintro e w1 ⟨rfl, hb1⟩
      clear q0 q5 hD
      go_wp2_with fail
      go_meet
      all_goals go_light
      exact ⟨rfl, hb1⟩
    · have HT1 : Hid (T = []) := by
        show _ = _
        rw [← HTT.out]
        unfold textR
        simp only [if_neg k1, if_neg k2, if_neg k3, if_neg k4, if_neg k5, if_neg k6, if_neg k7, if_neg k8, if_neg k9]
      have t1 : (what == 1) = false := by rw [beq_eq_false_iff_ne]; exact k1
      have t2 : (what == 2) = false := by rw [beq_eq_false_iff_ne]; exact k2
      have t3 : (what == 3) = false := by rw [beq_eq_false_iff_ne]; exact k3
      have t4 : (what == 4) = false := by rw [beq_eq_false_iff_ne]; exact k4
      have t5 : (what == 5) = false := by rw [beq_eq_false_iff_ne]; exact k5
      have t6 : (what == 6) = false := by rw [beq_eq_false_iff_ne]; exact k6
      have t7 : (what == 7) = false := by rw [beq_eq_false_iff_ne]; exact k7
      have t8 : (what == 8) = false := by rw [beq_eq_false_iff_ne]; exact k8
      have t9 : (what == 9) = false := by rw [beq_eq_false_iff_ne]; exact k9
      clear k1 k2 k3 k4 k5 k6 k7 k8 k9
      go_wp2_with fail
      go_meet
      all_goals go_light
      exact ⟨by rw [HT1.out]; rfl, Below.refl _ _⟩
  case rest =>
    obtain ⟨rfl, hb1⟩ := hcut
    obtain ⟨w1, rfl⟩ : ∃ w1 : World, w1 = wc := ⟨_, rfl⟩
    have hp1 := blk_below HP0.out hb1 hl0
    have hbw1 := hb0.trans (hb1.mono hb0.size)
    clear HP0 q0 hb1 HTT HSM
    go_wp2_with fail
    refine (HRD.out w1 hbw1).mono ?_
    rintro e w2 ⟨⟨c2, b, rfl, hcb⟩, hb2⟩
    have HCB := hid hcb
    obtain ⟨hb3, hg3, hl3⟩ := box1 w2 (.cells (cmV c2) 31)
    have hb13 := hb2.trans (hb3.mono hb2.size)
    have HW3 := hid (And.intro hg3 (And.intro (blk_below hp1 hb13 (blk_lt hp1)) (And.intro (hbw1.trans (hb13.mono hbw1.size)) hl3)))
    have hlp := blk_lt hp1
    have hs12 := hb2.size
    clear hb3 hg3 hl3 hp1 hbw1 hb2 hb13 hcb HRD
    go_upto_region 25 with (refine wpList_store_last rfl 31 (.tmp 5) (.tmp 83) rfl (cmV c2) rfl rfl j6 rfl (cmV_one _) ?_)
    generalize w2.alloc (.cells (cmV c2) 31) = w3 at *
    obtain ⟨hg3, hp3, hbw3, hl3⟩ := HW3.out
    clear HW3
    cases b with
    | false =>
      have HE : Hid (WP (.returned (.tuple #[.string (S8 T), .bool false]))) := by
        show WP _
        rw [HWP.out, HOK.out, ← HCB.out]
        rfl
      clear HWP HOK HCB hg3 hp3
      refine wp_region_loud (fun _ => False) [] (fun _ => Fact.none) (by kernel_rfl) (by kernel_rfl) .nil good_nothing sat_none (WX.out ?_)
      repeat (first | (refine wx_quietU (by rfl) (by rfl) (by rfl) (fun K hK => ?_); go_big_quiet_op; refine hK _ ?_; clear hK K) | (refine wx_quietG (by rfl) (by rfl) (by rfl) (by rfl) (by rfl) (fun K hK => ?_); go_big_quiet_op; refine hK _ ?_; clear hK K) | (refine wx_skipG (by rfl) (by rfl) (by rfl) (fun K hK => ?_); go_simp; refine hK _ ?_; clear hK K) | (refine wx_skipN (by rfl) (by rfl) (by rfl) (fun K hK => ?_); go_simp; refine hK _ ?_; clear hK K))
      refine wx_nil fun w4 hsat => ?_
      have hb4 := sat_below hsat
      clear hsat
      go_wp2_with fail
      go_ret2
      exact ⟨HE.out, hbw3.trans (hb4.mono hbw3.size)⟩
    | true =>
      have HE : Hid (WP (.returned (.tuple #[.string (S8 T), .bool (cmB c2 ⟨what, ⟨head, name, leaf, value⟩, num⟩)]))) := by
        show WP _
        rw [HWP.out, HOK.out, ← HCB.out]
        rfl
      have HG3 : Hid (∀ wS, Below w3.heap.size w3 wS → wS.heap[w2.heap.size]? = some (.cells (cmV c2) 31 (0, 0))) := fun wS hb => blk_below hg3 hb hl3
      have HP3 : Hid (∀ wS, Below w3.heap.size w3 wS → wS.heap[w.heap.size]? = some (.cells (cmV ⟨what, ⟨head, name, leaf, value⟩, num⟩) 31 (0, 0))) := fun wS hb => blk_below hp3 hb (blk_lt hp3)
      have hcmp := fun W => eqlCmR c2 ⟨what, ⟨head, name, leaf, value⟩, num⟩ W
      generalize cmB c2 ⟨what, ⟨head, name, leaf, value⟩, num⟩ = ok2 at *
      have HCM := hid hcmp
      clear HWP HOK HCB hg3 hp3 hcmp
      refine wp_region_loud (fun _ => False) [(3, plainL [] (.agg (cmV c2))), (4, plainL [] (.agg (cmV ⟨what, ⟨head, name, leaf, value⟩, num⟩))), (5, plainL [] (.bool ok2))] (fun _ => Fact.none) (by kernel_rfl) (by kernel_rfl)
        (.cons (plainL_ok _ _) (.cons (plainL_ok _ _) (.cons (plainL_ok _ _) .nil))) good_nothing sat_none (WX.out ?_)
      repeat (first | (refine wx_quietU (by rfl) (by rfl) (by rfl) (fun K hK => ?_); go_big_quiet_op; refine hK _ ?_; clear hK K) | (refine wx_quietG (by rfl) (by rfl) (by rfl) (by rfl) (by rfl) (fun K hK => ?_); go_big_quiet_op; refine hK _ ?_; clear hK K) | (refine wx_skipG (by rfl) (by rfl) (by rfl) (fun K hK => ?_); go_simp; refine hK _ ?_; clear hK K) | (refine wx_skipN (by rfl) (by rfl) (by rfl) (fun K hK => ?_); go_simp; refine hK _ ?_; clear hK K))
      refine wx_loudG (us := []) (by rfl) (by rfl) (by rfl) (by rfl) (fun S wS hC hS hU => ?_) (fun v hv K hK => ?_)
      · exact runs_load_whole 31 (.tmp 5) rfl w2.heap.size rfl 31 (cmV c2) (0, 0) _ (HG3.out wS hC.below) Tryz.underlying31 rfl j6 ⟨rfl, Kept.refl _ _, trivial⟩
      obtain rfl := hv; (go_simp; refine hK _ ?_; clear hK K)
      repeat (first | (refine wx_quietU (by rfl) (by rfl) (by rfl) (fun K hK => ?_); go_big_quiet_op; refine hK _ ?_; clear hK K) | (refine wx_quietG (by rfl) (by rfl) (by rfl) (by rfl) (by rfl) (fun K hK => ?_); go_big_quiet_op; refine hK _ ?_; clear hK K) | (refine wx_skipG (by rfl) (by rfl) (by rfl) (fun K hK => ?_); go_simp; refine hK _ ?_; clear hK K) | (refine wx_skipN (by rfl) (by rfl) (by rfl) (fun K hK => ?_); go_simp; refine hK _ ?_; clear hK K))
      refine wx_loudG (us := []) (by rfl) (by rfl) (by rfl) (by rfl) (fun S wS hC hS hU => ?_) (fun v hv K hK => ?_)
      · exact runs_load_whole 31 (.tmp 1) rfl w.heap.size rfl 31 (cmV ⟨what, ⟨head, name, leaf, value⟩, num⟩) (0, 0) _ (HP3.out wS hC.below) Tryz.underlying31 rfl j6 ⟨rfl, Kept.refl _ _, trivial⟩
      obtain rfl := hv; (go_simp; refine hK _ ?_; clear hK K)
      repeat (first | (refine wx_quietU (by rfl) (by rfl) (by rfl) (fun K hK => ?_); go_big_quiet_op; refine hK _ ?_; clear hK K) | (refine wx_quietG (by rfl) (by rfl) (by rfl) (by rfl) (by rfl) (fun K hK => ?_); go_big_quiet_op; refine hK _ ?_; clear hK K) | (refine wx_skipG (by rfl) (by rfl) (by rfl) (fun K hK => ?_); go_simp; refine hK _ ?_; clear hK K) | (refine wx_skipN (by rfl) (by rfl) (by rfl) (fun K hK => ?_); go_simp; refine hK _ ?_; clear hK K))
      refine wx_loudG (us := []) (by rfl) (by rfl) (by rfl) (by rfl) (fun S wS hC hS hU => ?_) (fun v hv K hK => ?_)
      · exact runs_cmp (t := 31) (x := .tmp 88) (y := .tmp 89) (xs := cmV c2) (ys := cmV ⟨what, ⟨head, name, leaf, value⟩, num⟩) rfl rfl rfl guardCmR (HCM.out _) ⟨rfl, Kept.refl _ _, trivial⟩
      obtain rfl := hv; (go_simp; refine hK _ ?_; clear hK K)
      repeat (first | (refine wx_quietU (by rfl) (by rfl) (by rfl) (fun K hK => ?_); go_big_quiet_op; refine hK _ ?_; clear hK K) | (refine wx_quietG (by rfl) (by rfl) (by rfl) (by rfl) (by rfl) (fun K hK => ?_); go_big_quiet_op; refine hK _ ?_; clear hK K) | (refine wx_skipG (by rfl) (by rfl) (by rfl) (fun K hK => ?_); go_simp; refine hK _ ?_; clear hK K) | (refine wx_skipN (by rfl) (by rfl) (by rfl) (fun K hK => ?_); go_simp; refine hK _ ?_; clear hK K))
      refine wx_nil fun w4 hsat => ?_
      have hb4 := sat_below hsat
      clear hsat HG3 HP3 HCM
      go_wp2_with fail
      go_ret2
      exact ⟨HE.out, hbw3.trans (hb4.mono hbw3.size)⟩
end Go.Proofs.YtfojgimficdjhaaGreatDoor
