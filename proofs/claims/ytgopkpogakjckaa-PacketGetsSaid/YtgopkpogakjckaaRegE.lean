/-
  More labels at a region's start; new blocks; a struct result that lies in a block.
-/
import Derived.Test.YtgopkpogakjckaaRegC
namespace Go.Proofs.Ytgopkpogakjckaa
set_option linter.unusedVariables false
set_option linter.unusedSimpArgs false
open Go Go.RowKit

/-- an address that is none of the old blocks' -/
def FreshA (B : Nat) (A : Option Addr) : Prop := ∀ ad, A = some ad → B ≤ ad.block
theorem freshA_own {w : World} {base n c : Nat} {A : Option Addr} {e : TypeId} {size : Nat} {xs : List Value} (h : w.ownsRow base e size (.slice A n c) n xs) : FreshA base A := fun ad had => by
  subst had
  exact (h.lt ad.block rfl).1

/-! ### more labels -/
def addL (n : Nat) (ρ : Fact) (Γ : Nat → Fact) : Nat → Fact := fun l => if l = n then ρ else Γ l
theorem sat_add {w : World} {S0 S1 : Nat → Prop} {ρ : Fact} {Γ : Nat → Fact} (n : Nat) (h : Sat w S0 Γ w) (hd : ∀ b, S1 b → S0 b → False) (h1 : ∀ b, S1 b → b < w.heap.size) (hρ : ρ S1 w) : Sat w (fun b => S0 b ∨ S1 b) (addL n ρ Γ) w := by
  obtain ⟨_, own, p1, p2, p3⟩ := h
  have p4 : ∀ l b, own l b → S0 b := fun l b hb => by
    rcases (p2 l b hb).1 with h | h
    · exact h
    · have := (p2 l b hb).2; omega
  refine ⟨Kept.refl _ _, fun l b => (l = n ∧ S1 b) ∨ (l ≠ n ∧ own l b), ?_, ?_, ?_⟩
  · intro l l' b h h'
    rcases h with ⟨e, h⟩ | ⟨e, h⟩ <;> rcases h' with ⟨e', h'⟩ | ⟨e', h'⟩
    · rw [e, e']
    · exact (hd b h (p4 _ _ h')).elim
    · exact (hd b h' (p4 _ _ h)).elim
    · exact p1 l l' b h h'
  · intro l b h
    rcases h with ⟨e, h⟩ | ⟨e, h⟩
    · exact ⟨.inl (.inr h), h1 b h⟩
    · exact ⟨.inl (.inl (p4 l b h)), (p2 l b h).2⟩
  · intro l
    unfold addL
    by_cases e : l = n
    · subst e
      have : (fun b => (l = l ∧ S1 b) ∨ (l ≠ l ∧ own l b)) = S1 := by funext b; simp
      rw [if_pos rfl]
      dsimp only
      rw [this]
      exact hρ
    · have : (fun b => (l = n ∧ S1 b) ∨ (l ≠ n ∧ own l b)) = own l := by funext b; simp [e]
      rw [if_neg e]
      dsimp only
      rw [this]
      exact p3 l
theorem good_add {ρ : Fact} {Γ : Nat → Fact} (n : Nat) (h : Good ρ) (k : ∀ l, Good (Γ l)) : ∀ l, Good (addL n ρ Γ l) := fun l => by
  unfold addL
  split
  · exact h
  · exact k l

/-- a struct result that lies in a block -/
theorem ret_blk {P : Program} {fn : Func} {R : Ending → World → Prop} {a : Act} {w : World} {v : Value} {g : Nat} {T : TypeId} {cs : Array Value} (hres : ∀ W : World, W.heap[g]? = some (.cells cs T (0, 0)) → (results fn a.tmps).run P W = .ok v W)
    (hb : w.heap[g]? = some (.cells cs T (0, 0))) (hd : a.defers = []) (hR : R (.returned v) w) : bodyPost P fn R .ret a w := bodyPost_ret (hres w hb) hd hR
/-- a block that was laid, as a pointer's fact -/
def NewB (T : TypeId) (cs : Array Value) : Value → Fact := fun v S w => ∃ g, v = .pointer (some ⟨g, 0, none⟩) ∧ S g ∧ w.heap[g]? = some (.cells cs T (0, 0))
theorem good_newB (T : TypeId) (cs : Array Value) (v : Value) : Good (NewB T cs v) := fun S S' w w' h1 h2 ⟨g, h3, h4, h5⟩ => ⟨g, h3, h1 g h4, (h2 g h4).trans h5⟩
def IsPtr (v : Value) : Prop := ∃ g, v = .pointer (some ⟨g, 0, none⟩)
theorem isPtr_any : ∃ v, IsPtr v := ⟨.pointer (some ⟨0, 0, none⟩), 0, rfl⟩
def newL (T : TypeId) (cs : Array Value) : Loud := factL [] IsPtr (NewB T cs)
theorem newL_ok (T : TypeId) (cs : Array Value) : (newL T cs).Ok := factL_ok isPtr_any (good_newB T cs)
theorem newB_x {S : Nat → Prop} {w w' : World} {T : TypeId} {cs : Array Value} (hw : w' = w.alloc (.cells cs T)) :
    IsPtr (.pointer (some ⟨w.heap.size, 0, none⟩)) ∧ Kept S w w' ∧ NewB T cs (.pointer (some ⟨w.heap.size, 0, none⟩)) (fun b => S b ∨ (w.heap.size ≤ b ∧ b < w'.heap.size)) w' := by
  subst hw
  exact ⟨⟨_, rfl⟩, (Kept.refl _ _).alloc _, _, rfl, .inr (by simp), heap_alloc_new w _⟩

theorem own_ne_blk {w : World} {base n g : Nat} {e T : TypeId} {size : Nat} {v : Value} {xs : List Value} {cs : Array Value} (h : w.ownsRow base e size v n xs) (hb : w.heap[g]? = some (.cells cs T (0, 0))) (hne : e ≠ T) : ∀ g', v.ownBlock = some g' → g' ≠ g := by
  rintro g' hg rfl
  rcases h.2 with ⟨rfl, _⟩ | ⟨g2, cap, cur, rfl, _, hg2, _⟩
  · cases hg
  · injection hg with hg
    subst hg
    rw [hb] at hg2
    injection hg2 with hg2
    injection hg2 with _ h2
    exact hne h2.symm
end Go.Proofs.Ytgopkpogakjckaa
