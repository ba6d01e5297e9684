/-
  A region that draws: picks are quiet, and a guarded operation that is not wanted is passed over.
-/
import Derived.Test.YtgopkpogakjckaaRegC
namespace Go.Proofs.Ytgopkpogakjckaa
set_option linter.unusedVariables false
set_option linter.unusedSimpArgs false
open Go Go.RowKit

def noCallP (o : Oper) : Bool :=
  match o.op with
  | .pick .. => true
  | _ => noCall o
theorem no_enterP {ρ : Operand → Value} {o : Oper} {P : Program} {w w' : World} {f : FuncId} {args : Array Value} (h : noCallP o = true) : (execOp ρ o).run P w ≠ .ok (.enter f args) w' := by
  by_cases hp : ∃ c a b, o.op = .pick c a b
  · obtain ⟨c, a, b, hp⟩ := hp
    intro he
    unfold execOp at he
    rw [hp] at he
    simp only [Sem.run_bind] at he
    cases hs : (asBool (ρ c)).run P w with
    | ok x w1 => rw [hs] at he; simp only [Result.andThen_ok, Sem.run_pure] at he; injection he with h1 h2; cases h1
    | halt x w1 => rw [hs] at he; cases he
  · refine no_enter ?_
    unfold noCallP at h
    split at h
    · rename_i c a b hc
      exact absurd ⟨c, a, b, hc⟩ hp
    · exact h
section
variable {P : Program} {ops : Array Oper} {w0 : World} {S0 : Nat → Prop} {U : Nat → Option (List Nat)} {φ : Nat → List Value → Value → Prop} {ρ : Nat → List Value → Value → Fact} {Fin : (Nat → Fact) → Act → Prop}
  {k : Nat} {o : Oper} {rest : List Oper} {Γ : Nat → Fact} {a : Act}
theorem wpX_quietP (hw : Region.wanted o (yielded ops a.tmps) = true) (hk : U k = none) (hnc : noCallP o = true)
    (h : ∀ K : Act → Prop, (∀ a, wpX P ops w0 S0 U φ ρ Fin (k + 1) rest Γ a → K a) → o.quiet P a (fun w' => ∃ x : WK S0 w0, w' = wat x) K) : wpX P ops w0 S0 U φ ρ Fin k (o :: rest) Γ a := by
  simp only [wpX, opX', hw, if_true, hk]
  obtain ⟨v, h1, h2⟩ := h _ (fun _ h => h)
  refine ⟨v, fun w hw => ?_, h2⟩
  have h3 := h1 w ⟨⟨w, hw⟩, rfl⟩
  unfold Oper.quietAt at h3
  generalize hr : (execOp a.eval o).run P w = r at h3
  cases r with
  | ok n w' =>
    cases n <;> simp only [Oper.quietUpon] at h3
    case value u => obtain ⟨rfl, rfl⟩ := h3; exact .inl rfl
    case skip => obtain ⟨rfl, rfl⟩ := h3; exact .inr ⟨rfl, rfl⟩
    case enter f args => exact absurd hr (no_enterP hnc)
  | halt x w' => simp only [Oper.quietUpon] at h3
theorem wpX_skipK (hw : Region.wanted o (yielded ops a.tmps) = false) (h : ∀ K : Act → Prop, (∀ a, wpX P ops w0 S0 U φ ρ Fin (k + 1) rest Γ a → K a) → K (a.put o.dst undef)) : wpX P ops w0 S0 U φ ρ Fin k (o :: rest) Γ a :=
  wpX_skip hw (h _ fun _ h => h)
theorem wanted_u {y : Nat → Option Bool} (hg : o.guard = none) : Region.wanted o y = true := by unfold Region.wanted; rw [hg]
theorem wanted_g {tmps : Array Value} {g d : Nat} {b b' : Bool} (hg : o.guard = some (g, b)) (hd : (ops[g]?).bind (·.dst) = some d) (hv : tmps[d]? = some (.bool b')) : Region.wanted o (yielded ops tmps) = (b' == b) := by
  unfold Region.wanted
  rw [hg]
  unfold yielded
  dsimp only
  rw [hd]
  simp only [Option.bind_some]
  rw [hv]
  simp
theorem wanted_n {tmps : Array Value} {g d : Nat} {b : Bool} (hg : o.guard = some (g, b)) (hd : (ops[g]?).bind (·.dst) = some d) (hv : tmps[d]? = some undef) : Region.wanted o (yielded ops tmps) = false := by
  unfold Region.wanted
  rw [hg]
  unfold yielded
  dsimp only
  rw [hd]
  simp only [Option.bind_some]
  rw [hv]
  rfl
/-- 'wpX', sealed: a tactic that looks at the goal's type does not unfold it (a long row of operations passed over is dear to unfold) -/
structure WX (P : Program) (ops : Array Oper) (w0 : World) (S0 : Nat → Prop) (U : Nat → Option (List Nat)) (φ : Nat → List Value → Value → Prop) (ρ : Nat → List Value → Value → Fact) (Fin : (Nat → Fact) → Act → Prop) (k : Nat) (l : List Oper) (Γ : Nat → Fact) (a : Act) : Prop where
  out : wpX P ops w0 S0 U φ ρ Fin k l Γ a
theorem wx_quietU (hg : o.guard = none) (hk : U k = none) (hnc : noCallP o = true)
    (h : ∀ K : Act → Prop, (∀ a, WX P ops w0 S0 U φ ρ Fin (k + 1) rest Γ a → K a) → o.quiet P a (fun w' => ∃ x : WK S0 w0, w' = wat x) K) : WX P ops w0 S0 U φ ρ Fin k (o :: rest) Γ a :=
  ⟨wpX_quietP (wanted_u hg) hk hnc fun K hK => h K fun a h => hK a h.out⟩
theorem wx_quietG {g d : Nat} {b : Bool} (hg : o.guard = some (g, b)) (hd : (ops[g]?).bind (·.dst) = some d) (hv : a.tmps[d]? = some (.bool b)) (hk : U k = none) (hnc : noCallP o = true)
    (h : ∀ K : Act → Prop, (∀ a, WX P ops w0 S0 U φ ρ Fin (k + 1) rest Γ a → K a) → o.quiet P a (fun w' => ∃ x : WK S0 w0, w' = wat x) K) : WX P ops w0 S0 U φ ρ Fin k (o :: rest) Γ a :=
  ⟨wpX_quietP ((wanted_g hg hd hv).trans (by simp)) hk hnc fun K hK => h K fun a h => hK a h.out⟩
theorem wx_skipG {g d : Nat} {b : Bool} (hg : o.guard = some (g, b)) (hd : (ops[g]?).bind (·.dst) = some d) (hv : a.tmps[d]? = some (.bool (!b)))
    (h : ∀ K : Act → Prop, (∀ a, WX P ops w0 S0 U φ ρ Fin (k + 1) rest Γ a → K a) → K (a.put o.dst undef)) : WX P ops w0 S0 U φ ρ Fin k (o :: rest) Γ a :=
  ⟨wpX_skipK ((wanted_g hg hd hv).trans (by cases b <;> rfl)) fun K hK => h K fun a h => hK a h.out⟩
theorem wx_skipN {g d : Nat} {b : Bool} (hg : o.guard = some (g, b)) (hd : (ops[g]?).bind (·.dst) = some d) (hv : a.tmps[d]? = some undef)
    (h : ∀ K : Act → Prop, (∀ a, WX P ops w0 S0 U φ ρ Fin (k + 1) rest Γ a → K a) → K (a.put o.dst undef)) : WX P ops w0 S0 U φ ρ Fin k (o :: rest) Γ a :=
  ⟨wpX_skipK (wanted_n hg hd hv) fun K hK => h K fun a h => hK a h.out⟩
theorem wx_loudU {us : List Nat} (hg : o.guard = none) (hk : U k = some us) (h1 : trip P w0 S0 φ ρ o us k Γ a)
    (h2 : ∀ v, φ k (argsOf o a) v → ∀ K : Act → Prop, (∀ a', WX P ops w0 S0 U φ ρ Fin (k + 1) rest (upd Γ k us (ρ k (argsOf o a) v)) a' → K a') → K (a.put o.dst v)) : WX P ops w0 S0 U φ ρ Fin k (o :: rest) Γ a :=
  ⟨wpX_loud (wanted_u hg) hk h1 fun v hv K hK => h2 v hv K fun a h => hK a h.out⟩
theorem wx_loudG {us : List Nat} {g d : Nat} {b : Bool} (hg : o.guard = some (g, b)) (hd : (ops[g]?).bind (·.dst) = some d) (hv : a.tmps[d]? = some (.bool b)) (hk : U k = some us) (h1 : trip P w0 S0 φ ρ o us k Γ a)
    (h2 : ∀ v, φ k (argsOf o a) v → ∀ K : Act → Prop, (∀ a', WX P ops w0 S0 U φ ρ Fin (k + 1) rest (upd Γ k us (ρ k (argsOf o a) v)) a' → K a') → K (a.put o.dst v)) : WX P ops w0 S0 U φ ρ Fin k (o :: rest) Γ a :=
  ⟨wpX_loud ((wanted_g hg hd hv).trans (by simp)) hk h1 fun v hv K hK => h2 v hv K fun a h => hK a h.out⟩
theorem wx_nil (h : Fin Γ a) : WX P ops w0 S0 U φ ρ Fin k [] Γ a := ⟨wpX_nil h⟩
end
end Go.Proofs.Ytgopkpogakjckaa
