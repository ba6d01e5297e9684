/-
  Two labels at a region's start.
-/
import Derived.Test.YtgopkpogakjckaaRegB
namespace Go.Proofs.Ytgopkpogakjckaa
set_option linter.unusedVariables false
set_option linter.unusedSimpArgs false
open Go Go.RowKit

def labelled2 (n m : Nat) (ρ σ : Fact) : Nat → Fact := fun l => if l = n then ρ else if l = m then σ else Fact.none
theorem sat_two {w : World} {ρ σ : Fact} (n m : Nat) (hnm : n ≠ m) (S1 S2 : Nat → Prop) (hd : ∀ b, S1 b → S2 b → False) (h1 : ∀ b, S1 b → b < w.heap.size) (h2 : ∀ b, S2 b → b < w.heap.size) (hρ : ρ S1 w) (hσ : σ S2 w) :
    Sat w (fun b => S1 b ∨ S2 b) (labelled2 n m ρ σ) w :=
  ⟨Kept.refl _ _, fun l b => (l = n ∧ S1 b) ∨ (l = m ∧ S2 b), fun l l' b h h' => by
      rcases h with ⟨e, h⟩ | ⟨e, h⟩ <;> rcases h' with ⟨e', h'⟩ | ⟨e', h'⟩
      · rw [e, e']
      · exact (hd b h h').elim
      · exact (hd b h' h).elim
      · rw [e, e'],
    fun l b h => by
      rcases h with ⟨_, h⟩ | ⟨_, h⟩
      · exact ⟨.inl (.inl h), h1 b h⟩
      · exact ⟨.inl (.inr h), h2 b h⟩,
    fun l => by
      unfold labelled2
      by_cases e : l = n
      · subst e
        have : (fun b => (l = l ∧ S1 b) ∨ (l = m ∧ S2 b)) = S1 := by funext b; simp [hnm]
        rw [if_pos rfl]
        dsimp only
        rw [this]
        exact hρ
      · rw [if_neg e]
        by_cases e2 : l = m
        · subst e2
          have : (fun b => (l = n ∧ S1 b) ∨ (l = l ∧ S2 b)) = S2 := by funext b; simp [e]
          rw [if_pos rfl]
          dsimp only
          rw [this]
          exact hσ
        · rw [if_neg e2]
          trivial⟩
theorem good_two {ρ σ : Fact} (n m : Nat) (h : Good ρ) (k : Good σ) : ∀ l, Good (labelled2 n m ρ σ l) := fun l => by
  unfold labelled2
  split
  · exact h
  · split
    · exact k
    · exact Good.none
/-- a load from a block of the region's own: the block stays -/
def loadL (us : List Nat) (v : Value) (ρ : Fact) : Loud := ⟨us, fun _ u => u = v, fun _ _ => ρ⟩
theorem loadL_ok (us : List Nat) (v : Value) {ρ : Fact} (h : Good ρ) : (loadL us v ρ).Ok := ⟨fun _ => ⟨v, rfl⟩, fun _ _ => h⟩
theorem load_x {P : Program} {o : Oper} {a : Act} {w : World} {S : Nat → Prop} {v : Value} {ρ : Fact} (hr : (execOp a.eval o).run P w = .ok (.value v) w) (hρ : Good ρ) (h : ρ S w) :
    runs P o a w fun u w' => u = v ∧ Kept S w w' ∧ ρ (fun b => S b ∨ (w.heap.size ≤ b ∧ b < w'.heap.size)) w' :=
  runs_value hr ⟨rfl, Kept.refl _ _, hρ _ _ _ _ (fun b hb => .inl hb) (fun _ _ => rfl) h⟩
theorem ownsRow_kept {S : Nat → Prop} {w w' : World} {base n : Nat} {e : TypeId} {size : Nat} {v : Value} {xs : List Value} (h : w.ownsRow base e size v n xs) (hk : Kept S w w') (hs : ∀ g, v.ownBlock = some g → ¬ S g) : w'.ownsRow base e size v n xs := by
  obtain ⟨h5, h6⟩ := h
  refine ⟨h5, ?_⟩
  rcases h6 with h6 | ⟨g, cap, cur, hv, hb, hg, r⟩
  · exact .inl h6
  · exact .inr ⟨g, cap, cur, hv, hb, (hk.block g (Array.getElem?_eq_some_iff.1 hg).1 (hs g (by rw [hv]; rfl))).trans hg, r⟩
theorem sl_kept {S : Nat → Prop} {w w' : World} {size n c : Nat} {A : Option Addr} {xs : List Value} (h : Sl w size (.slice A n c) xs) (hk : Kept S w w') (hs : ∀ ad, A = some ad → ¬ S ad.block) : Sl w' size (.slice A n c) xs := by
  obtain ⟨A', n', c', he, hl, hnc, hcm, hr⟩ := h
  injection he with e1 e2 e3
  subst e1; subst e2; subst e3
  refine ⟨_, _, _, rfl, hl, hnc, hcm, fun hn => ?_⟩
  obtain ⟨b, off, rfl, hlt, hc⟩ := hr hn
  exact ⟨b, off, rfl, Nat.lt_of_lt_of_le hlt hk.size, fun i hi => (hk.cell (p := ⟨b, off + i, none⟩) hlt (hs ⟨b, off, none⟩ rfl)).trans (hc i hi)⟩
theorem blk_kept {S : Nat → Prop} {w w' : World} {g : Nat} {o : Obj} (h : w.heap[g]? = some o) (hk : Kept S w w') (hs : ¬ S g) : w'.heap[g]? = some o := (hk.block g (Array.getElem?_eq_some_iff.1 h).1 hs).trans h
/-- a step by a wider set -/
theorem Kept.wider {S S' : Nat → Prop} {w w' : World} (h : Kept S w w') (hs : ∀ b, S b → S' b) : Kept S' w w' := ⟨h.os, h.tape, h.output, h.size, fun b hb hn => h.block b hb fun hx => hn (hs b hx)⟩
theorem Kept.then {S S' : Nat → Prop} {w w1 w2 : World} (h : Kept S w w1) (k : Kept S' w1 w2) (hs : ∀ b, b < w.heap.size → S' b → S b) : Kept S w w2 :=
  ⟨k.os.trans h.os, k.tape.trans h.tape, k.output.trans h.output, Nat.le_trans h.size k.size, fun b hb hn => (k.block b (by have := h.size; omega) fun hx => hn (hs b hb hx)).trans (h.block b hb hn)⟩
theorem Kept.of_row {w w' : World} {row : Option Nat} (h : w.grownBy w' row) : Kept (fun b => some b = row) w w' := Kept.of_grown h fun g hg => hg.symm
theorem B8_inj_u8 {l : List UInt8} {i : Nat} {v : Value} (h : (B8 l)[i]? = some v) : ∃ n, v = .int .u8 n := by
  simp [B8] at h
  obtain ⟨x, _, rfl⟩ := h
  exact ⟨_, rfl⟩
end Go.Proofs.Ytgopkpogakjckaa
