/-
  Plain law of DiskKept: what a crash keeps.
-/
import Derived.Test.YtaajhkdifliblaaDk8
namespace Go.Proofs.Ytaajhkdifliblaa
set_option linter.unusedVariables false
set_option linter.unusedSimpArgs false
open Go Go.RowKit

def wB (B : List (Int × UInt8)) : List (Int × List UInt8) := B.map fun p => (p.1, fullL p.2)
def mB (B : List (Int × UInt8)) : List (Int × Value) := B.map fun p => (p.1, .int .u8 (p.2.toNat : Int))
def lookB (B : List (Int × UInt8)) (x : Int) : Option UInt8 :=
  match B with
  | [] => none
  | p :: t => if p.1 = x then some p.2 else lookB t x
def putBy (B : List (Int × UInt8)) (x : Int) (v : UInt8) : List (Int × UInt8) :=
  match B with
  | [] => [(x, v)]
  | p :: t => if p.1 = x then (x, v) :: t else p :: putBy t x v
theorem wB_look (B : List (Int × UInt8)) (x : Int) : lookW (wB B) x = (lookB B x).map fullL := by
  induction B with
  | nil => rfl
  | cons p t ih =>
    show lookW ((p.1, fullL p.2) :: wB t) x = _
    unfold lookW lookB
    by_cases h : p.1 = x
    · rw [if_pos h, if_pos h]; rfl
    · rw [if_neg h, if_neg h, ih]
theorem wB_put (B : List (Int × UInt8)) (x : Int) (v : UInt8) : putW (wB B) x (fullL v) = wB (putBy B x v) := by
  induction B with
  | nil => rfl
  | cons p t ih =>
    show putW ((p.1, fullL p.2) :: wB t) x (fullL v) = _
    unfold putW putBy
    by_cases h : p.1 = x
    · rw [if_pos h, if_pos h]; rfl
    · rw [if_neg h, if_neg h, ih]; rfl
theorem mB_has (B : List (Int × UInt8)) (x : Int) : hasI (mB B) x = (lookB B x).isSome := by
  induction B with
  | nil => rfl
  | cons p t ih =>
    unfold lookB
    by_cases h : p.1 = x
    · rw [if_pos h]; simp [hasI, mB, h]
    · rw [if_neg h, ← ih]; simp [hasI, mB, h]
theorem mB_look (B : List (Int × UInt8)) (x : Int) : lookI (mB B) (.int .u8 0) x = .int .u8 (((lookB B x).getD 0).toNat : Int) := by
  induction B with
  | nil => rfl
  | cons p t ih =>
    show lookI ((p.1, .int .u8 (p.2.toNat : Int)) :: mB t) _ x = _
    unfold lookB
    by_cases h : p.1 = x
    · rw [lookI, if_pos h, if_pos h]; rfl
    · rw [lookI, if_neg h, if_neg h, ih]
theorem mB_put (B : List (Int × UInt8)) (x : Int) (v : UInt8) : putI (mB B) x (.int .u8 (v.toNat : Int)) = mB (putBy B x v) := by
  induction B with
  | nil => rfl
  | cons p t ih =>
    show putI ((p.1, .int .u8 (p.2.toNat : Int)) :: mB t) x _ = _
    unfold putBy
    by_cases h : p.1 = x
    · rw [putI, if_pos h, if_pos h]; rfl
    · rw [putI, if_neg h, if_neg h, ih]; rfl
theorem putBy_look (B : List (Int × UInt8)) (x y : Int) (v : UInt8) : (lookB (putBy B x v) y).isSome = ((lookB B y).isSome || decide (x = y)) := by
  induction B with
  | nil => by_cases h : x = y <;> simp [putBy, lookB, h]
  | cons p t ih =>
    unfold putBy
    by_cases h : p.1 = x
    · rw [if_pos h]
      unfold lookB
      by_cases h2 : x = y
      · simp [h, h2]
      · simp [h, h2]
    · rw [if_neg h]
      unfold lookB
      by_cases h2 : p.1 = y
      · simp [h2]
      · simp [h2, ih]
def kD (B : List (Int × UInt8)) (O : List Int) : Dk := ⟨List.replicate 32 zero64, wB B, O, false, -1⟩
/-- the order is of those that wait, no two alike -/
structure Ord (B : List (Int × UInt8)) (O : List Int) : Prop where
  nodup : O.Nodup
  mem : ∀ x, x ∈ O ↔ (lookB B x).isSome = true
  bd : ∀ x ∈ O, 0 ≤ x ∧ x < 32
theorem ord_put {B : List (Int × UInt8)} {O : List Int} (h : Ord B O) (x : Int) (v : UInt8) (hx : 0 ≤ x ∧ x < 32) : Ord (putBy B x v) (if (lookB B x).isSome = true then O else O ++ [x]) := by
  by_cases hs : (lookB B x).isSome = true
  · rw [if_pos hs]
    refine ⟨h.nodup, fun y => ?_, h.bd⟩
    rw [putBy_look, h.mem y]
    by_cases e : x = y
    · subst e; simp [hs]
    · simp [e]
  · rw [if_neg hs]
    have hn : x ∉ O := fun hm => hs ((h.mem x).1 hm)
    refine ⟨?_, fun y => ?_, ?_⟩
    · rw [List.nodup_append]
      refine ⟨h.nodup, by simp, ?_⟩
      intro a ha b hb e
      simp at hb
      subst hb
      exact hn (e ▸ ha)
    · rw [putBy_look, List.mem_append, h.mem y, List.mem_singleton]
      by_cases e : x = y
      · subst e; simp
      · simp [e, Ne.symm e]
    · intro y hy
      rcases List.mem_append.1 hy with hy | hy
      · exact h.bd y hy
      · simp at hy; rw [hy]; exact hx
theorem laid_kD (B : List (Int × UInt8)) (O : List Int) (x : Int) (v : UInt8) : laidD (kD B O) x (fullL v) = kD (putBy B x v) (if (lookB B x).isSome = true then O else O ++ [x]) := by
  unfold laidD kD
  simp only [wB_look, wB_put, Option.isSome_map]
/-- what lies in a sector behind so many of the order -/
theorem crashTo_get (B : List (Int × UInt8)) (O : List Int) (kl : List Bool) (h : Ord B O) : ∀ (k : Nat), k ≤ O.length → ∀ i, i < O.length →
    (crashTo (kD B O) kl k).stay.getD (O.getD i 0).toNat zero64 = if i < k ∧ kl.getD i false = true then fullL ((lookB B (O.getD i 0)).getD 0) else zero64 := by
  intro k
  induction k with
  | zero =>
    intro _ i hi
    rw [if_neg (by omega)]
    show (List.replicate 32 zero64).getD _ _ = _
    rw [List.getD_eq_getElem?_getD, List.getElem?_replicate]
    split <;> rfl
  | succ k ih =>
    intro hk i hi
    have ihk := ih (by omega) i hi
    have gi : O.getD i 0 = O[i] := by rw [List.getD_eq_getElem?_getD, List.getElem?_eq_getElem hi]; rfl
    have gk : O.getD k 0 = O[k] := by rw [List.getD_eq_getElem?_getD, List.getElem?_eq_getElem (show k < O.length by omega)]; rfl
    have bi := h.bd _ (List.getElem_mem hi)
    have bk := h.bd _ (List.getElem_mem (show k < O.length by omega))
    have hw : ∀ k, (crashTo (kD B O) kl k).wait = wB B := by
      intro k
      induction k with
      | zero => rfl
      | succ k ih => unfold crashTo; split <;> simp [keepD, ih]
    unfold crashTo
    by_cases hkv : kl.getD k false = true
    · rw [if_pos hkv]
      show ((crashTo (kD B O) kl k).stay.set (O.getD k 0).toNat ((lookW (crashTo (kD B O) kl k).wait (O.getD k 0)).getD zero64)).getD _ _ = _
      rw [hw k, wB_look]
      by_cases e : i = k
      · subst e
        rw [if_pos ⟨by omega, hkv⟩]
        have hsome : (lookB B (O.getD i 0)).isSome = true := by rw [gi]; exact (h.mem _).1 (List.getElem_mem hi)
        obtain ⟨v, hv⟩ := Option.isSome_iff_exists.1 hsome
        rw [hv]
        have hlen : (crashTo (kD B O) kl i).stay.length = 32 := by rw [crashTo_stay]; simp [kD]
        rw [List.getD_eq_getElem?_getD, List.getElem?_set, if_pos rfl, if_pos (by rw [hlen, gi]; omega)]
        rfl
      · have hne : (O.getD k 0).toNat ≠ (O.getD i 0).toNat := by
          rw [gi, gk]
          intro e2
          have e3 : O[k] = O[i] := by omega
          have hp := List.pairwise_iff_getElem.1 h.nodup
          rcases Nat.lt_or_gt_of_ne e with hlt | hlt
          · exact hp i k hi (by omega) hlt e3.symm
          · exact hp k i (by omega) hi hlt e3
        rw [List.getD_eq_getElem?_getD, List.getElem?_set, if_neg hne, ← List.getD_eq_getElem?_getD, ihk]
        by_cases c : i < k ∧ kl.getD i false = true
        · rw [if_pos c, if_pos ⟨by omega, c.2⟩]
        · rw [if_neg c, if_neg (fun c2 => c ⟨by omega, c2.2⟩)]
    · rw [if_neg hkv, ihk]
      by_cases c : i < k ∧ kl.getD i false = true
      · rw [if_pos c, if_pos ⟨by omega, c.2⟩]
      · rw [if_neg c, if_neg (fun c2 => c ⟨by rcases Nat.lt_succ_iff_lt_or_eq.1 c2.1 with h | h; exact h; exact absurd (h ▸ c2.2) hkv, c2.2⟩)]
theorem crash_read (B : List (Int × UInt8)) (O : List Int) (kl : List Bool) (h : Ord B O) (i : Nat) (hi : i < O.length) :
    readB (crashD (kD B O) kl) (O.getD i 0).toNat = if kl.getD i false = true then fullL ((lookB B (O.getD i 0)).getD 0) else zero64 := by
  have := crashTo_get B O kl h O.length (Nat.le_refl _) i hi
  show (crashTo (kD B O) kl O.length).stay.getD _ zero64 = _
  rw [this]
  by_cases c : kl.getD i false = true
  · rw [if_pos ⟨hi, c⟩, if_pos c]
  · rw [if_neg (fun x => c x.2), if_neg c]
end Go.Proofs.Ytaajhkdifliblaa
