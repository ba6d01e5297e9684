/-
  Maps whose keys are ints, whatever their elements: lookup, update, by a list of what lies there. Over any program.
-/
import Derived.Test.YtfhlidlmipleaaaRegP
import Derived.Maps.Own
namespace Go.Proofs.Ytfhlidlmipleaaa
set_option linter.unusedVariables false
set_option linter.unusedSimpArgs false
open Go Go.RowKit

/-- a map's entries, as a list -/
def entK (l : List (Int × Value)) : List (Value × Value) := l.map fun p => (.int .i64 p.1, p.2)
def Ent (es : Array MapEntry) (l : List (Int × Value)) : Prop := es.toList.map (fun e => (e.key, e.val)) = entK l
def hasI (l : List (Int × Value)) (x : Int) : Bool := l.any fun p => decide (p.1 = x)
def lookI (l : List (Int × Value)) (z : Value) (x : Int) : Value :=
  match l with
  | [] => z
  | p :: t => if p.1 = x then p.2 else lookI t z x
def putI (l : List (Int × Value)) (x : Int) (v : Value) : List (Int × Value) :=
  match l with
  | [] => [(x, v)]
  | p :: t => if p.1 = x then (x, v) :: t else p :: putI t x v
theorem lookI_not (l : List (Int × Value)) (z : Value) (x : Int) (h : hasI l x = false) : lookI l z x = z := by
  induction l with
  | nil => rfl
  | cons p t ih =>
    simp [hasI] at h
    rw [lookI, if_neg h.1]
    exact ih (by simpa [hasI] using h.2)
/-- at which place -/
def placeI (l : List (Int × Value)) (x : Int) (i : Nat) : Option (Nat × Value) :=
  match l with
  | [] => none
  | p :: t => if p.1 = x then some (i, p.2) else placeI t x (i + 1)
theorem place_none (l : List (Int × Value)) (x : Int) (i : Nat) (z : Value) : placeI l x i = none → hasI l x = false := by
  induction l generalizing i with
  | nil => intro _; rfl
  | cons p t ih =>
    intro h
    unfold placeI at h
    split at h
    · cases h
    · rename_i hp
      have := ih (i + 1) h
      simp [hasI] at this ⊢
      exact ⟨hp, this⟩
theorem place_some (l : List (Int × Value)) (x : Int) (i j : Nat) (v z : Value) : placeI l x i = some (j, v) → hasI l x = true ∧ lookI l z x = v ∧ i ≤ j ∧ l[j - i]? = some (x, v) ∧ (∀ u, putI l x u = l.set (j - i) (x, u)) := by
  induction l generalizing i with
  | nil => intro h; cases h
  | cons p t ih =>
    intro h
    unfold placeI at h
    split at h
    · rename_i hp
      injection h with h
      injection h with h1 h2
      subst h1; subst h2
      refine ⟨by simp [hasI, hp], by rw [lookI, if_pos hp], Nat.le_refl _, ?_, fun u => ?_⟩
      · simp; exact Prod.ext hp rfl
      · rw [putI, if_pos hp]; simp
    · rename_i hp
      obtain ⟨h1, h2, h3, h4, h5⟩ := ih (i + 1) h
      have e : j - i = (j - (i + 1)) + 1 := by omega
      refine ⟨by simp [hasI] at h1 ⊢; exact .inr h1, by rw [lookI, if_neg hp]; exact h2, by omega, by rw [e]; simpa using h4, fun u => ?_⟩
      rw [putI, if_neg hp, e, List.set_cons_succ, h5 u]
theorem put_not (l : List (Int × Value)) (x : Int) (u : Value) (h : hasI l x = false) : putI l x u = l ++ [(x, u)] := by
  induction l with
  | nil => rfl
  | cons p t ih =>
    simp [hasI] at h
    rw [putI, if_neg h.1, ih (by simpa [hasI] using h.2)]
    rfl
theorem findNowI (x : Int) (l : List (Int × Value)) : ∀ (es : List MapEntry) (i : Nat), es.map (fun e => (e.key, e.val)) = entK l → Instr.findNow (.int .i64) (.int .i64 x) es i = some (placeI l x i) := by
  induction l with
  | nil =>
    intro es i h
    cases es with
    | nil => rfl
    | cons e t => simp [entK] at h
  | cons p t ih =>
    intro es i h
    cases es with
    | nil => simp [entK] at h
    | cons e es' =>
      simp only [entK, List.map_cons, List.cons.injEq, Prod.mk.injEq] at h
      obtain ⟨⟨h1, h2⟩, h3⟩ := h
      unfold Instr.findNow
      rw [h1]
      unfold placeI
      simp only [Instr.sameNow, if_true]
      by_cases e : p.1 = x
      · rw [if_pos e]
        simp [e, h2]
      · rw [if_neg e]
        have : (x == p.1) = false := by rw [beq_eq_false_iff_ne]; exact fun h => e h.symm
        rw [this]
        exact ih es' (i + 1) h3
section
variable {P : Program} {w : World} {t k e : TypeId} {z : Value} {r clk : Nat} {es : Array MapEntry} {l : List (Int × Value)}
theorem checkI (hk : P.underlying k = some (.int .i64)) (b : Bool) (n : Nat) (x : Int) : (Instr.checkKey b (n + 1) k (.int .i64 x)).run P w = .ok () w := by
  simp [Instr.checkKey, run_underlying hk]
theorem findI (hk : P.underlying k = some (.int .i64)) (he : Ent es l) (x : Int) : (Instr.findKey k (.int .i64 x) es.toList).run P w = .ok (placeI l x 0) w := by
  unfold Instr.findKey
  simp only [Sem.run_bind, run_underlying hk, Result.andThen_ok]
  rw [findNowI x l es.toList 0 he]
  rfl
theorem ilook (c : Bool) (ht : P.underlying t = some (.map k e)) (hk : P.underlying k = some (.int .i64)) (hz : (zeroValue e).run P w = .ok z w) (hb : w.heap[r]? = some (.map es clk)) (he : Ent es l) (x : Int) :
    (Instr.lookup t (.map (some r)) (.int .i64 x) c).run P w = .ok (if c = true then .tuple #[lookI l z x, .bool (hasI l x)] else lookI l z x) w := by
  have h1 := checkI (w := w) hk es.isEmpty 9999 x
  have h2 := findI (w := w) hk he x
  unfold Instr.lookup
  simp only [Sem.run_bind, run_underlying ht, Result.andThen_ok, MapKept.run_getObj_map hb, Sem.run_pure]
  rw [show (10000 : Nat) = 9999 + 1 from rfl, h1, Result.andThen_ok, h2, Result.andThen_ok]
  cases hp : placeI l x 0 with
  | none =>
    have hn := place_none l x 0 z hp
    simp only [Sem.run_bind, hz, Result.andThen_ok, Sem.run_pure, hn, lookI_not l z x hn]
  | some jv =>
    obtain ⟨j, v⟩ := jv
    obtain ⟨h3, h4, _⟩ := place_some l x 0 j v z hp
    simp only [Sem.run_pure, Result.andThen_ok, h3, h4]
    (cases c <;> try rfl)
theorem iupd (ht : P.underlying t = some (.map k e)) (hk : P.underlying k = some (.int .i64)) (hb : w.heap[r]? = some (.map es clk)) (he : Ent es l) (x : Int) (v : Value) :
    ∃ es' clk', (Instr.mapUpdate t (.map (some r)) (.int .i64 x) v).run P w = .ok () (Go.ChangeMaps.setBlock w r (.map es' clk')) ∧ Ent es' (putI l x v) := by
  have h1 := checkI (w := w) hk false 9999 x
  have h2 := findI (w := w) hk he x
  cases hp : placeI l x 0 with
  | none =>
    have hn := place_none l x 0 v hp
    refine ⟨es.push ⟨.int .i64 x, v, clk⟩, clk + 1, ?_, ?_⟩
    · unfold Instr.mapUpdate
      simp only [Sem.run_bind, run_underlying ht, Result.andThen_ok, MapKept.run_getObj_map hb, Sem.run_pure]
      rw [show (10000 : Nat) = 9999 + 1 from rfl, h1, Result.andThen_ok, h2, Result.andThen_ok, hp]
      simp [setObj, Sem.run, hb, Go.ChangeMaps.setBlock]
    · unfold Ent at he ⊢
      rw [put_not l x v hn]
      simp [he, entK]
  | some jv =>
    obtain ⟨j, u⟩ := jv
    obtain ⟨_, _, _, h4, h5⟩ := place_some l x 0 j u v hp
    simp only [Nat.sub_zero] at h4 h5
    have hlen : es.size = l.length := by have := congrArg List.length he; simpa [entK] using this
    have hj : j < l.length := (List.getElem?_eq_some_iff.1 h4).1
    have hkey : (((es[j]?).map (·.key)).getD (Value.int .i64 x)) = .int .i64 x := by
      have := congrArg (fun q => q[j]?) he
      simp only [entK, List.getElem?_map, h4, Option.map_some] at this
      rw [Array.getElem?_toList] at this
      cases hq : es[j]? with
      | none => rw [hq] at this; cases this
      | some q => rw [hq] at this; simp at this; simp [this.1]
    refine ⟨es.modify j fun e => { e with key := .int .i64 x, val := v }, clk, ?_, ?_⟩
    · unfold Instr.mapUpdate
      simp only [Sem.run_bind, run_underlying ht, Result.andThen_ok, MapKept.run_getObj_map hb, Sem.run_pure]
      rw [show (10000 : Nat) = 9999 + 1 from rfl, h1, Result.andThen_ok, h2, Result.andThen_ok, hp]
      simp only [Sem.run_bind, hkey]
      simp [Instr.keyThatStays, Instr.sameBits, setObj, Sem.run, hb, Go.ChangeMaps.setBlock]
    · unfold Ent at he ⊢
      rw [h5 v]
      refine List.ext_getElem? fun i => ?_
      have hi := congrArg (fun q => q[i]?) he
      simp only [entK, List.getElem?_map, Array.getElem?_toList] at hi
      simp only [entK, List.getElem?_map, Array.getElem?_toList, Array.getElem?_modify, List.getElem?_set]
      by_cases e : j = i
      · subst e
        rw [if_pos rfl, if_pos rfl, if_pos hj]
        cases hq : es[j]? with
        | none => rw [hq, h4] at hi; cases hi
        | some q => rfl
      · rw [if_neg e, if_neg e]
        exact hi
end
end Go.Proofs.Ytfhlidlmipleaaa
