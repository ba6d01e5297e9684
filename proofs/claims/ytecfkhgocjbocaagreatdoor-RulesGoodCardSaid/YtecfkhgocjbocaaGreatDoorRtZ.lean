/-
  Layer 8 (plain): what is wrong with a configuration, as the program finds it and as the document tells it: the same.
  Layer 8 (plain law): of each configuration that may be, the program's faults, sorted, are the document's.
  Layer 8 (plain law): of each configuration that may be, the program's faults, sorted, are the document's.
  Sets of texts: maps from texts to 'true': lookup, update, length, by a list of what lies there.
  Layer 8's reference: a line's value; do two nets meet?
  Layer 8: what looks at a configuration: its fields in memory; a value; a fault that is noted.
  Layer 8: do two nets meet; does one of those ahead?
  Layer 8: a look at an interface.
  Layer 8: the sort of no faults; a set that is asked; who looks, kept through what turns other blocks.
  Layer 8: all faults of a configuration.
  Layer 8: nothing of what can't be a configuration; faults as text.
  Layer 8's reference: faults as text.
  Layer 8's law: is what is wrong told?
  An argument that is a list of Faults (a number and a text each), as the frame of a row hands it over, its texts bounded by the bulk.
-/
import Derived.Test.YtecfkhgocjbocaaGreatDoorRsZ
import Derived.Maps.Own
import Derived.OpenShut
import Derived.ChangeSlices
namespace Go.Proofs.YtecfkhgocjbocaaGreatDoor
set_option linter.unusedVariables false
set_option linter.unusedSimpArgs false
open Go Go.RowKit

namespace RL
open CF
def wArea : List UInt8 := [97, 114, 101, 97]
def wAddr : List UInt8 := [97, 100, 100, 114, 101, 115, 115]
def wRid : List UInt8 := [114, 111, 117, 116, 101, 114, 45, 105, 100]
def wType : List UInt8 := [116, 121, 112, 101]
def wDead : List UInt8 := [100, 101, 97, 100]
def wHello : List UInt8 := [104, 101, 108, 108, 111]
def bb : List UInt8 := [48, 46, 48, 46, 48, 46, 48]
def vA (C : List Ln) (f : List UInt8) : List UInt8 := valC C 2 f wArea
def vD (C : List Ln) (f : List UInt8) : List UInt8 := valC C 2 f wAddr
def nV (C : List Ln) (f lf : List UInt8) : Nat := SC.decV (valC C 2 f lf)
/-- two nets, cut to the shorter one's bits -/
def cutN (a b : List UInt8) : Bool := decide (SC.netA a >>> (32 - min (SC.netL a) (SC.netL b)) = SC.netA b >>> (32 - min (SC.netL a) (SC.netL b)))
def meetP (a b : List UInt8) : Bool := SC.netB a && SC.netB b && cutN a b
theorem cutN_comm (a b : List UInt8) : cutN a b = cutN b a := by
  unfold cutN
  rw [Nat.min_comm]
  exact decide_eq_decide.2 ⟨fun h => h.symm, fun h => h.symm⟩
def flag (b : Bool) (f : Ft) : List Ft := if b = true then [] else [f]
def ifaceF (C : List Ln) (ah : List (List UInt8)) (f : List UInt8) : List Ft :=
  flag (decide (vA C f ≠ [])) ⟨2, f⟩ ++ (flag (decide (vD C f ≠ [])) ⟨3, f⟩ ++ (flag (!(ah.any fun a => meetP a (vD C f))) ⟨4, f⟩ ++ flag (decide (nV C f wHello < nV C f wDead)) ⟨5, f⟩))
def faces (C : List Ln) : List (List UInt8) := namC C 2
def areas (C : List Ln) : List (List UInt8) := namC C 1
def nAt (L : List (List UInt8)) (k : Nat) : List UInt8 := L.getD k []
def ahead (C : List Ln) (k : Nat) : List (List UInt8) := ((faces C).take k).map (vD C)
def ifacesF (C : List Ln) (k : Nat) : List Ft := (List.range k).flatMap fun i => ifaceF C (ahead C i) (nAt (faces C) i)
def putK (U : List (List UInt8)) (a : List UInt8) : List (List UInt8) := if a ∈ U then U else U ++ [a]
def useK (C : List Ln) (U : List (List UInt8)) (f : List UInt8) : List (List UInt8) := if vA C f = [] then U else putK U (vA C f)
def usedK (C : List Ln) (k : Nat) : List (List UInt8) := ((faces C).take k).foldl (useK C) []
def used (C : List Ln) : List (List UInt8) := usedK C (faces C).length
def areaF (C : List Ln) (U : List (List UInt8)) (a : List UInt8) : List Ft := flag (decide (a ≠ bb) || decide (valC C 1 a wType = cNormal)) ⟨6, a⟩ ++ flag (decide (a ∈ U)) ⟨7, a⟩
def areasF (C : List Ln) (k : Nat) : List Ft := (List.range k).flatMap fun i => areaF C (used C) (nAt (areas C) i)
def rid (C : List Ln) : List UInt8 := valC C 0 [] wRid
def routF (C : List Ln) : List Ft := flag (decide ((faces C).length = 0) || (decide (rid C ≠ []) && decide (rid C ≠ bb))) ⟨1, []⟩
def backF (C : List Ln) : List Ft := flag (decide ((used C).length < 2) || decide (bb ∈ used C)) ⟨6, []⟩
def manyF (C : List Ln) : List Ft := flag (decide ((faces C).length ≤ 8)) ⟨8, []⟩
/-- the program's faults, as they come -/
def checkP (C : List Ln) : List Ft := routF C ++ (ifacesF C (faces C).length ++ (areasF C (areas C).length ++ (backF C ++ manyF C)))
def checkC (C : List Ln) : List Ft := RS.sortL ltF (checkP C)

def isAt (h : Int) (nm lf : List UInt8) (x : Ln) : Bool := decide (x.head = h) && decide (x.name = nm) && decide (x.leaf = lf)
def setV (C : List Ln) (h : Int) (nm lf : List UInt8) : List UInt8 × Bool := match C.find? (isAt h nm lf) with
  | some x => (x.value, true)
  | none => ([], false)
def badK (C : List Ln) (kind : Nat) (i : Nat) (f : List UInt8) : Bool :=
  if kind = 2 then !(setV C 2 f wArea).2 else if kind = 3 then !(setV C 2 f wAddr).2
  else if kind = 4 then (setV C 2 f wAddr).2 && ((faces C).take i).any fun g => (setV C 2 g wAddr).2 && cutN (setV C 2 f wAddr).1 (setV C 2 g wAddr).1
  else if kind = 5 then decide (nV C f wDead ≤ nV C f wHello) else false
def useR (C : List Ln) (U : List (List UInt8)) (f : List UInt8) : List (List UInt8) := if (setV C 2 f wArea).2 = true then putK U (setV C 2 f wArea).1 else U
def usedR (C : List Ln) (k : Nat) : List (List UInt8) := ((faces C).take k).foldl (useR C) []
def odd (C : List Ln) (U : List (List UInt8)) (kind : Nat) (a : List UInt8) : Bool := (decide (kind = 6) && decide (a = bb) && (setV C 1 a wType).2 && decide ((setV C 1 a wType).1 ≠ cNormal)) || (decide (kind = 7) && !decide (a ∈ U))
def r1 (C : List Ln) (kind : Nat) : List Ft := if (decide (kind = 1) && decide (0 < (faces C).length) && (!(setV C 0 [] wRid).2 || decide ((setV C 0 [] wRid).1 = bb))) = true then [⟨1, []⟩] else []
def r2 (C : List Ln) (U : List (List UInt8)) (kind : Nat) : List Ft := if (decide (kind = 6) && decide (1 < U.length) && !decide (bb ∈ U)) = true then [⟨6, []⟩] else []
def r3 (C : List Ln) (kind k : Nat) : List Ft := (List.range k).flatMap fun i => if badK C kind i (nAt (faces C) i) = true then [⟨kind, nAt (faces C) i⟩] else []
def r4 (C : List Ln) (U : List (List UInt8)) (kind k : Nat) : List Ft := (List.range k).flatMap fun i => if odd C U kind (nAt (areas C) i) = true then [⟨kind, nAt (areas C) i⟩] else []
def r5 (C : List Ln) (kind : Nat) : List Ft := if (decide (kind = 8) && decide (8 < (faces C).length)) = true then [⟨8, []⟩] else []
def refK (C : List Ln) (kind : Nat) : List Ft := r1 C kind ++ (r2 C (usedR C (faces C).length) kind ++ (r3 C kind (faces C).length ++ (r4 C (usedR C (faces C).length) kind (areas C).length ++ r5 C kind)))
/-- the document's faults -/
def checkR (C : List Ln) : List Ft := (List.range 8).flatMap fun k => refK C (k + 1)
/-- faults as text -/
def wordT (k : Int) : List UInt8 := if k = 1 then [110, 111, 114, 111, 117, 116, 101, 114] else if k = 2 then [110, 111, 97, 114, 101, 97] else if k = 3 then [110, 111, 97, 100, 100, 114, 101, 115, 115]
  else if k = 4 then [111, 118, 101, 114, 108, 97, 112] else if k = 5 then [98, 97, 100, 100, 101, 97, 100] else if k = 6 then [98, 97, 99, 107, 98, 111, 110, 101] else if k = 7 then [117, 110, 117, 115, 101, 100]
  else if k = 8 then [116, 111, 111, 109, 97, 110, 121] else [63]
def ftT (f : Ft) : List UInt8 := wordT f.kind ++ ((if f.name = [] then [] else 32 :: f.name) ++ [10])
def textF (L : List Ft) : List UInt8 := L.flatMap ftT

theorem nAt_get (L : List (List UInt8)) (k : Nat) (h : k < L.length) : nAt L k = L[k] := by unfold nAt; simp [h]
theorem nAt_mem (L : List (List UInt8)) (k : Nat) (h : k < L.length) : nAt L k ∈ L := by rw [nAt_get L k h]; exact List.getElem_mem h
theorem set_val {C : List Ln} (hr : RightC C = true) (h : Int) (nm lf : List UInt8) : ((setV C h nm lf).2 = true → valC C h nm lf = (setV C h nm lf).1 ∧ rightR (findR h lf).1 (setV C h nm lf).1 = true) ∧ ((setV C h nm lf).2 = false → valC C h nm lf = (findR h lf).1.dft ∧ (setV C h nm lf).1 = []) := by
  unfold setV
  cases e : C.find? (isAt h nm lf) with
  | none =>
    refine ⟨fun h => absurd h (by simp), fun _ => ⟨?_, rfl⟩⟩
    refine val_none hr h nm lf fun j hj => ?_
    have := List.find?_eq_none.1 e (lnAt C j) (by rw [lnAt_get C j hj]; exact List.getElem_mem hj)
    unfold isAt at this
    simpa [and_assoc] using this
  | some x =>
    refine ⟨fun _ => ?_, fun h => absurd h (by simp)⟩
    have hx := List.find?_some e
    have hm := List.mem_of_find?_eq_some e
    unfold isAt at hx
    simp only [Bool.and_eq_true, decide_eq_true_eq] at hx
    obtain ⟨⟨h1, h2⟩, h3⟩ := hx
    have hv := val_mem hr x hm
    have hrx := ((RightC_iff C).1 hr).1 x hm
    unfold rightL at hrx
    simp only [Bool.and_eq_true] at hrx
    rw [h1, h2, h3] at hv
    rw [h1, h3] at hrx
    exact ⟨hv, hrx.2⟩
theorem find_area : (findR 2 wArea).1 = ⟨2, wArea, 0, 0, 0, [], [], 5⟩ := by rfl
theorem find_addr : (findR 2 wAddr).1 = ⟨2, wAddr, 1, 0, 0, [], [], 4⟩ := by rfl
theorem find_rid : (findR 0 wRid).1 = ⟨0, wRid, 0, 0, 0, [], [], 6⟩ := by rfl
theorem find_type : (findR 1 wType).1.dft = cNormal := by rfl
end RL
end Go.Proofs.YtecfkhgocjbocaaGreatDoor
namespace Go.Proofs.YtecfkhgocjbocaaGreatDoor
set_option linter.unusedVariables false
set_option linter.unusedSimpArgs false
open Go Go.RowKit

namespace RL
open CF
theorem names_lt {C : List Ln} (hr : RightC C = true) (h : Int) (h0 : h ≠ 0) : (namC C h).Pairwise fun a b => cmpT a b < 0 := by
  have : namC C h = compN (namRaw C h) := by unfold namC; rw [if_pos ⟨hr, h0⟩, fold_raw]; rfl
  rw [this]
  exact compN_lt _ (raw_srt C h ((RightC_iff C).1 hr).2.1)
theorem nAt_lt {L : List (List UInt8)} (h : L.Pairwise fun a b => cmpT a b < 0) {i j : Nat} (hij : i < j) (hj : j < L.length) : cmpT (nAt L i) (nAt L j) < 0 := by
  rw [nAt_get L j hj, nAt_get L i (by omega)]
  exact List.pairwise_iff_getElem.1 h i j (by omega) hj hij
theorem area_set {C : List Ln} (hr : RightC C = true) (f : List UInt8) : (setV C 2 f wArea).2 = decide (vA C f ≠ []) ∧ (setV C 2 f wArea).1 = vA C f := by
  obtain ⟨h1, h2⟩ := set_val hr 2 f wArea
  rw [find_area] at h1 h2
  unfold vA
  cases e : (setV C 2 f wArea).2 with
  | false =>
    obtain ⟨e1, e2⟩ := h2 e
    rw [e1, e2]
    exact ⟨rfl, rfl⟩
  | true =>
    obtain ⟨e1, e2⟩ := h1 e
    rw [e1]
    refine ⟨?_, rfl⟩
    symm
    rw [decide_eq_true_iff]
    intro e3
    rw [e3] at e2
    exact absurd e2 (by decide)
theorem addr_set {C : List Ln} (hr : RightC C = true) (f : List UInt8) : (setV C 2 f wAddr).2 = decide (vD C f ≠ []) ∧ (setV C 2 f wAddr).1 = vD C f ∧ (setV C 2 f wAddr).2 = SC.netB (vD C f) := by
  obtain ⟨h1, h2⟩ := set_val hr 2 f wAddr
  rw [find_addr] at h1 h2
  unfold vD
  cases e : (setV C 2 f wAddr).2 with
  | false =>
    obtain ⟨e1, e2⟩ := h2 e
    rw [e1, e2]
    exact ⟨rfl, rfl, by decide⟩
  | true =>
    obtain ⟨e1, e2⟩ := h1 e
    rw [e1]
    have e4 : SC.netB (setV C 2 f wAddr).1 = true := e2
    refine ⟨?_, rfl, e4.symm⟩
    symm
    rw [decide_eq_true_iff]
    intro e3
    rw [e3] at e4
    exact absurd e4 (by decide)
theorem rid_set {C : List Ln} (hr : RightC C = true) : (setV C 0 [] wRid).2 = decide (rid C ≠ []) ∧ (setV C 0 [] wRid).1 = rid C := by
  obtain ⟨h1, h2⟩ := set_val hr 0 [] wRid
  rw [find_rid] at h1 h2
  unfold rid
  cases e : (setV C 0 [] wRid).2 with
  | false =>
    obtain ⟨e1, e2⟩ := h2 e
    rw [e1, e2]
    exact ⟨rfl, rfl⟩
  | true =>
    obtain ⟨e1, e2⟩ := h1 e
    rw [e1]
    refine ⟨?_, rfl⟩
    symm
    rw [decide_eq_true_iff]
    intro e3
    rw [e3] at e2
    exact absurd e2 (by decide)
theorem type_set {C : List Ln} (hr : RightC C = true) (a : List UInt8) : ((setV C 1 a wType).2 && decide ((setV C 1 a wType).1 ≠ cNormal)) = !decide (valC C 1 a wType = cNormal) := by
  obtain ⟨h1, h2⟩ := set_val hr 1 a wType
  rw [find_type] at h2
  cases e : (setV C 1 a wType).2 with
  | false =>
    obtain ⟨e1, e2⟩ := h2 e
    rw [e1]; simp
  | true =>
    obtain ⟨e1, e2⟩ := h1 e
    rw [e1]; simp
theorem usedR_eq {C : List Ln} (hr : RightC C = true) (k : Nat) : usedR C k = usedK C k := by
  unfold usedR usedK
  congr 1
  funext U f
  unfold useR useK
  obtain ⟨e1, e2⟩ := area_set hr f
  rw [e1, e2]
  by_cases h : vA C f = []
  · rw [if_pos h, if_neg (by simp [h])]
  · rw [if_neg h, if_pos (by simp [h])]
/-- the faults of one kind, in the program's way -/
def byK (L : List Ft) (k : Nat) : List Ft := L.filter fun x => decide (x.kind = k)
theorem byK_app (a b : List Ft) (k : Nat) : byK (a ++ b) k = byK a k ++ byK b k := List.filter_append _ _
theorem byK_flag (b : Bool) (f : Ft) (k : Nat) : byK (flag b f) k = if f.kind = k then flag b f else [] := by
  unfold byK flag
  cases b <;> by_cases h : f.kind = k <;> simp [h]
theorem byK_flat {α : Type} (L : List α) (g : α → List Ft) (k : Nat) : byK (L.flatMap g) k = L.flatMap fun x => byK (g x) k := by
  unfold byK
  induction L with
  | nil => rfl
  | cons x r ih => rw [List.flatMap_cons, List.flatMap_cons, List.filter_append, ih]
theorem kinds_perm (L : List Ft) (n : Nat) : L.Perm (((List.range n).flatMap fun k => byK L (k + 1)) ++ L.filter fun x => !(decide (1 ≤ x.kind) && decide (x.kind ≤ (n : Int)))) := by
  induction n with
  | zero =>
    have : (L.filter fun x => !(decide (1 ≤ x.kind) && decide (x.kind ≤ ((0 : Nat) : Int)))) = L := by
      rw [List.filter_eq_self]
      intro x _
      simp; omega
    rw [this]; simp
  | succ n ih =>
    refine ih.trans ?_
    rw [List.range_succ, List.flatMap_append, List.append_assoc]
    refine List.Perm.append_left _ ?_
    generalize hM : (L.filter fun x => !(decide (1 ≤ x.kind) && decide (x.kind ≤ (n : Int)))) = M
    have e1 : M.filter (fun x => decide (x.kind = ((n + 1 : Nat) : Int))) = byK L (n + 1) := by
      rw [← hM, List.filter_filter]
      unfold byK
      congr 1
      funext x
      rw [Bool.eq_iff_iff]
      simp; omega
    have e2 : M.filter (fun x => !decide (x.kind = ((n + 1 : Nat) : Int))) = L.filter fun x => !(decide (1 ≤ x.kind) && decide (x.kind ≤ ((n + 1 : Nat) : Int))) := by
      rw [← hM, List.filter_filter]
      congr 1
      funext x
      rw [Bool.eq_iff_iff]
      simp; omega
    have := List.filter_append_perm (fun x => decide (x.kind = ((n + 1 : Nat) : Int))) M
    rw [e1, e2] at this
    have e3 : ([n].flatMap fun k => byK L (k + 1)) = byK L (n + 1) := by simp
    rw [e3]
    exact this.symm
theorem flat_nil {α β : Type} (L : List α) (g : α → List β) (h : ∀ x ∈ L, g x = []) : L.flatMap g = [] := by
  rw [List.flatMap_eq_nil_iff]; exact h
theorem flatE {α β : Type} (L : List α) (f g : α → List β) (h : ∀ x ∈ L, f x = g x) : L.flatMap f = L.flatMap g := by
  induction L with
  | nil => rfl
  | cons x r ih => rw [List.flatMap_cons, List.flatMap_cons, h x (List.mem_cons_self ..), ih (fun y hy => h y (List.mem_cons_of_mem _ hy))]
theorem any_map' (l : List (List UInt8)) (g : List UInt8 → List UInt8) (p : List UInt8 → Bool) : (l.map g).any p = l.any fun x => p (g x) := by
  rw [List.any_map]; rfl
theorem any_congr' {α : Type} (l : List α) (p q : α → Bool) (h : ∀ x ∈ l, p x = q x) : l.any p = l.any q := by
  induction l with
  | nil => rfl
  | cons x r ih => rw [List.any_cons, List.any_cons, h x (List.mem_cons_self ..), ih (fun y hy => h y (List.mem_cons_of_mem _ hy))]
theorem any_and {α : Type} (l : List α) (b : Bool) (p : α → Bool) : (l.any fun x => b && p x) = (b && l.any p) := by
  cases b <;> simp
theorem iface_k {C : List Ln} (hr : RightC C = true) (i : Nat) (f : List UInt8) (k : Nat) (hk : 1 ≤ k ∧ k ≤ 8) : byK (ifaceF C (ahead C i) f) k = if badK C k i f = true then [⟨k, f⟩] else [] := by
  unfold ifaceF
  rw [byK_app, byK_app, byK_app, byK_flag, byK_flag, byK_flag, byK_flag]
  obtain ⟨a1, a2⟩ := area_set hr f
  obtain ⟨d1, d2, d3⟩ := addr_set hr f
  have hk8 : k = 1 ∨ k = 2 ∨ k = 3 ∨ k = 4 ∨ k = 5 ∨ k = 6 ∨ k = 7 ∨ k = 8 := by omega
  rcases hk8 with rfl | rfl | rfl | rfl | rfl | rfl | rfl | rfl
  · simp [badK]
  · simp only [badK, flag, a1]
    by_cases e : vA C f = [] <;> simp [e]
  · simp only [badK, flag, d1]
    by_cases e : vD C f = [] <;> simp [e]
  · have e4 : ((ahead C i).any fun a => meetP a (vD C f)) = badK C 4 i f := by
      unfold badK ahead
      rw [if_neg (by omega), if_neg (by omega), if_pos rfl, any_map', ← any_and]
      refine any_congr' _ _ _ fun g _ => ?_
      obtain ⟨g1, g2, g3⟩ := addr_set hr g
      rw [d3, d2, g3, g2]
      unfold meetP
      rw [cutN_comm (vD C f)]
      cases SC.netB (vD C f) <;> cases SC.netB (vD C g) <;> rfl
    rw [← e4]
    simp only [flag]
    cases ((ahead C i).any fun a => meetP a (vD C f)) <;> simp
  · simp only [badK, flag]
    by_cases e : nV C f wHello < nV C f wDead
    · simp [e]
    · simp [e] <;> omega
  · simp [badK]
  · simp [badK]
  · simp [badK]
theorem area_k {C : List Ln} (hr : RightC C = true) (U : List (List UInt8)) (a : List UInt8) (k : Nat) (hk : 1 ≤ k ∧ k ≤ 8) : byK (areaF C U a) k = if odd C U k a = true then [⟨k, a⟩] else [] := by
  unfold areaF
  rw [byK_app, byK_flag, byK_flag]
  have ht := type_set hr a
  have hk8 : k = 1 ∨ k = 2 ∨ k = 3 ∨ k = 4 ∨ k = 5 ∨ k = 6 ∨ k = 7 ∨ k = 8 := by omega
  rcases hk8 with rfl | rfl | rfl | rfl | rfl | rfl | rfl | rfl
  · simp [odd]
  · simp [odd]
  · simp [odd]
  · simp [odd]
  · simp [odd]
  · unfold odd
    rw [Bool.and_assoc, ht]
    by_cases e : a = bb <;> by_cases e2 : valC C 1 a wType = cNormal <;> simp [flag, e, e2]
    all_goals (subst e; simp [e2])
  · by_cases e : a ∈ U <;> simp [odd, flag, e]
  · simp [odd]
end RL
end Go.Proofs.YtecfkhgocjbocaaGreatDoor
namespace Go.Proofs.YtecfkhgocjbocaaGreatDoor
set_option linter.unusedVariables false
set_option linter.unusedSimpArgs false
open Go Go.RowKit

namespace RL
open CF
theorem rout_k {C : List Ln} (hr : RightC C = true) (k : Nat) : byK (routF C) k = r1 C k := by
  unfold routF r1
  rw [byK_flag]
  obtain ⟨e1, e2⟩ := rid_set hr
  rw [e1, e2]
  by_cases hk : k = 1
  · subst hk
    unfold flag
    by_cases h1 : rid C = [] <;> by_cases h2 : rid C = bb <;> by_cases h3 : (faces C).length = 0
    all_goals first | (have h4 : ¬ 0 < (faces C).length := by omega) | (have h4 : 0 < (faces C).length := by omega)
    all_goals simp [h1, h2, h3, h4]
  · rw [if_neg (by simp; omega)]
    simp [hk]
theorem back_k {C : List Ln} (k : Nat) : byK (backF C) k = r2 C (used C) k := by
  unfold backF r2
  rw [byK_flag]
  by_cases hk : k = 6
  · subst hk
    unfold flag
    by_cases h2 : bb ∈ used C <;> by_cases h3 : (used C).length < 2
    all_goals first | (have h4 : ¬ 1 < (used C).length := by omega) | (have h4 : 1 < (used C).length := by omega)
    all_goals simp [h2, h3, h4]
  · rw [if_neg (by simp; omega)]
    simp [hk]
theorem many_k {C : List Ln} (k : Nat) : byK (manyF C) k = r5 C k := by
  unfold manyF r5
  rw [byK_flag]
  by_cases hk : k = 8
  · subst hk
    unfold flag
    by_cases h3 : (faces C).length ≤ 8
    · have h4 : ¬ 8 < (faces C).length := by omega
      simp [h3, h4]
    · have h4 : 8 < (faces C).length := by omega
      simp [h3, h4]
  · rw [if_neg (by simp; omega)]
    simp [hk]
theorem ifaces_k {C : List Ln} (hr : RightC C = true) (n k : Nat) (hk : 1 ≤ k ∧ k ≤ 8) : byK (ifacesF C n) k = r3 C k n := by
  unfold ifacesF r3
  rw [byK_flat]
  exact flatE _ _ _ fun i _ => iface_k hr i _ k hk
theorem areas_k {C : List Ln} (hr : RightC C = true) (n k : Nat) (hk : 1 ≤ k ∧ k ≤ 8) : byK (areasF C n) k = r4 C (used C) k n := by
  unfold areasF r4
  rw [byK_flat]
  exact flatE _ _ _ fun i _ => area_k hr _ _ k hk
theorem check_k {C : List Ln} (hr : RightC C = true) (k : Nat) (hk : 1 ≤ k ∧ k ≤ 8) : (byK (checkP C) k).Perm (refK C k) := by
  unfold checkP refK
  rw [byK_app, byK_app, byK_app, byK_app, rout_k hr, ifaces_k hr _ _ hk, areas_k hr _ _ hk, back_k, many_k, usedR_eq hr]
  refine List.Perm.append_left _ ?_
  show (r3 C k (faces C).length ++ (r4 C (used C) k (areas C).length ++ (r2 C (used C) k ++ r5 C k))).Perm (r2 C (used C) k ++ (r3 C k (faces C).length ++ (r4 C (used C) k (areas C).length ++ r5 C k)))
  generalize r3 C k (faces C).length = x
  generalize r4 C (used C) k (areas C).length = y
  generalize r2 C (used C) k = z
  generalize r5 C k = v
  have : ((x ++ y) ++ z).Perm (z ++ (x ++ y)) := List.perm_append_comm
  have := this.append_right v
  simpa only [List.append_assoc] using this
theorem flag_kind {b : Bool} {f x : Ft} (h : x ∈ flag b f) : x = f := by
  unfold flag at h
  split at h
  · cases h
  · simpa using h
theorem checkP_kinds (C : List Ln) : ∀ x ∈ checkP C, 1 ≤ x.kind ∧ x.kind ≤ 8 := by
  intro x hx
  unfold checkP routF backF manyF ifacesF areasF ifaceF areaF at hx
  simp only [List.mem_append, List.mem_flatMap] at hx
  rcases hx with h | ⟨i, _, h | h | h | h⟩ | ⟨i, _, h | h⟩ | h | h
  all_goals (rw [flag_kind h]; simp)
theorem flat_perm {α β : Type} (L : List α) (f g : α → List β) (h : ∀ x ∈ L, (f x).Perm (g x)) : (L.flatMap f).Perm (L.flatMap g) := by
  induction L with
  | nil => exact List.Perm.refl _
  | cons x r ih =>
    rw [List.flatMap_cons, List.flatMap_cons]
    exact (h x (List.mem_cons_self ..)).append (ih fun y hy => h y (List.mem_cons_of_mem _ hy))
theorem check_perm {C : List Ln} (hr : RightC C = true) : (checkR C).Perm (checkP C) := by
  have h1 := kinds_perm (checkP C) 8
  have h2 : ((checkP C).filter fun x => !(decide (1 ≤ x.kind) && decide (x.kind ≤ ((8 : Nat) : Int)))) = [] := by
    rw [List.filter_eq_nil_iff]
    intro x hx
    have := checkP_kinds C x hx
    simp; omega
  rw [h2, List.append_nil] at h1
  refine (h1.trans ?_).symm
  unfold checkR
  exact flat_perm _ _ _ fun k hk => check_k hr (k + 1) (by have := List.mem_range.1 hk; omega)
theorem lt_kind {a b : Ft} (h : a.kind < b.kind) : ltF b a = false := by
  unfold ltF cmpF
  rw [decide_eq_false_iff_not]
  have := cmpZ_lt b.kind a.kind
  have h0 := cmpZ_zero b.kind a.kind
  rw [if_pos (by omega)]
  omega
theorem lt_name {k : Int} {a b : List UInt8} (h : cmpT a b < 0) : ltF ⟨k, b⟩ ⟨k, a⟩ = false := by
  unfold ltF cmpF
  rw [decide_eq_false_iff_not]
  have h0 := (cmpZ_zero k k).2 rfl
  have := cmpT_neg a b
  show ¬ (if cmpZ k k ≠ 0 then cmpZ k k else cmpT b a) < 0
  rw [if_neg (by omega)]
  omega
theorem lt_empty (k : Int) (a : List UInt8) : ltF ⟨k, a⟩ ⟨k, []⟩ = false := by
  unfold ltF cmpF
  rw [decide_eq_false_iff_not]
  have h0 := (cmpZ_zero k k).2 rfl
  show ¬ (if cmpZ k k ≠ 0 then cmpZ k k else cmpT a []) < 0
  rw [if_neg (by omega)]
  cases a <;> simp [cmpT, Lib.compareBytes]
theorem opt_pw {R : Ft → Ft → Prop} (b : Bool) (f : Ft) : (if b = true then [f] else []).Pairwise R := by
  split
  · exact List.pairwise_singleton _ _
  · exact List.Pairwise.nil
theorem opt_mem {b : Bool} {f x : Ft} (h : x ∈ if b = true then [f] else []) : x = f ∧ b = true := by
  split at h
  · rename_i hb; exact ⟨by simpa using h, hb⟩
  · cases h
theorem pw_names (L : List (List UInt8)) (hL : L.Pairwise fun a b => cmpT a b < 0) (p : Nat → Bool) (k : Nat) (n : Nat) (hn : n ≤ L.length) : ((List.range n).flatMap fun i => if p i = true then [(⟨k, nAt L i⟩ : Ft)] else []).Pairwise fun a b => ltF b a = false := by
  rw [List.pairwise_flatMap]
  refine ⟨fun i _ => opt_pw _ _, ?_⟩
  refine List.Pairwise.imp_of_mem ?_ List.pairwise_lt_range
  intro i j hi hj hij x hx y hy
  rw [(opt_mem hx).1, (opt_mem hy).1]
  exact lt_name (nAt_lt hL hij (by have := List.mem_range.1 hj; omega))
theorem refK_pw {C : List Ln} (hr : RightC C = true) (k : Nat) (hk : 1 ≤ k ∧ k ≤ 8) : (refK C k).Pairwise fun a b => ltF b a = false := by
  have hf : (r3 C k (faces C).length).Pairwise fun a b => ltF b a = false := pw_names (faces C) (names_lt hr 2 (by decide)) _ k _ (Nat.le_refl _)
  have ha : (r4 C (usedR C (faces C).length) k (areas C).length).Pairwise fun a b => ltF b a = false := pw_names (areas C) (names_lt hr 1 (by decide)) _ k _ (Nat.le_refl _)
  have h1 : (r1 C k).Pairwise fun a b => ltF b a = false := opt_pw _ _
  have h2 : (r2 C (usedR C (faces C).length) k).Pairwise fun a b => ltF b a = false := opt_pw _ _
  have h5 : (r5 C k).Pairwise fun a b => ltF b a = false := opt_pw _ _
  have n1 : k ≠ 1 → r1 C k = [] := fun h => by unfold r1; simp [h]
  have n2 : k ≠ 6 → r2 C (usedR C (faces C).length) k = [] := fun h => by unfold r2; simp [h]
  have n5 : k ≠ 8 → r5 C k = [] := fun h => by unfold r5; simp [h]
  have n3 : (k < 2 ∨ 5 < k) → r3 C k (faces C).length = [] := fun h => by
    unfold r3
    refine flat_nil _ _ fun i _ => ?_
    have : badK C k i (nAt (faces C) i) = false := by
      unfold badK
      rw [if_neg (show ¬ k = 2 by omega), if_neg (show ¬ k = 3 by omega), if_neg (show ¬ k = 4 by omega), if_neg (show ¬ k = 5 by omega)]
    rw [this]
    rfl
  have n4 : (k < 6 ∨ 7 < k) → r4 C (usedR C (faces C).length) k (areas C).length = [] := fun h => by
    unfold r4
    refine flat_nil _ _ fun i _ => ?_
    unfold odd
    rw [decide_eq_false (show ¬ k = 6 by omega), decide_eq_false (show ¬ k = 7 by omega)]
    rfl
  unfold refK
  have hk8 : k = 1 ∨ (2 ≤ k ∧ k ≤ 5) ∨ k = 6 ∨ k = 7 ∨ k = 8 := by omega
  rcases hk8 with h | h | h | h | h
  · rw [n2 (by omega), n3 (by omega), n4 (by omega), n5 (by omega)]; simpa using h1
  · rw [n1 (by omega), n2 (by omega), n4 (by omega), n5 (by omega)]; simpa using hf
  · rw [n1 (by omega), n3 (by omega), n5 (by omega), List.nil_append, List.nil_append, List.append_nil, List.pairwise_append]
    refine ⟨h2, ha, fun x hx y hy => ?_⟩
    rw [(opt_mem hx).1]
    unfold r4 at hy
    obtain ⟨i, _, hy⟩ := List.mem_flatMap.1 hy
    rw [(opt_mem hy).1, h]
    exact lt_empty 6 _
  · rw [n1 (by omega), n2 (by omega), n3 (by omega), n5 (by omega)]; simpa using ha
  · rw [n1 (by omega), n2 (by omega), n3 (by omega), n4 (by omega)]; simpa using h5
theorem refK_kind (C : List Ln) (k : Nat) : ∀ x ∈ refK C k, x.kind = k := by
  intro x hx
  unfold refK r1 r2 r3 r4 r5 at hx
  simp only [List.mem_append, List.mem_flatMap] at hx
  rcases hx with h | h | ⟨i, _, h⟩ | ⟨i, _, h⟩ | h
  · obtain ⟨e, hb⟩ := opt_mem h
    simp only [Bool.and_eq_true, decide_eq_true_eq] at hb
    rw [e, hb.1.1]; rfl
  · obtain ⟨e, hb⟩ := opt_mem h
    simp only [Bool.and_eq_true, decide_eq_true_eq] at hb
    rw [e, hb.1.1]; rfl
  · rw [(opt_mem h).1]
  · rw [(opt_mem h).1]
  · obtain ⟨e, hb⟩ := opt_mem h
    simp only [Bool.and_eq_true, decide_eq_true_eq] at hb
    rw [e, hb.1]; rfl
/-- the law -/
theorem check_eq {C : List Ln} (hr : RightC C = true) : checkR C = checkC C := by
  unfold checkC
  refine RS.sort_eq tot_ltF ?_ (check_perm hr)
  unfold RS.Sd checkR
  rw [List.pairwise_flatMap]
  refine ⟨fun k hk => refK_pw hr (k + 1) (by have := List.mem_range.1 hk; omega), ?_⟩
  refine List.Pairwise.imp_of_mem ?_ List.pairwise_lt_range
  intro i j _ _ hij x hx y hy
  refine lt_kind ?_
  rw [refK_kind C _ x hx, refK_kind C _ y hy]
  omega
end RL
end Go.Proofs.YtecfkhgocjbocaaGreatDoor
namespace Go.Proofs.YtecfkhgocjbocaaGreatDoor
set_option linter.unusedVariables false
set_option linter.unusedSimpArgs false
open Go Go.RowKit

namespace RL
/-- a set's entries -/
def entS (U : List (List UInt8)) : List (Value × Value) := U.map fun a => (.string (S8 a), .bool true)
def EntS (es : Array MapEntry) (U : List (List UInt8)) : Prop := es.toList.map (fun e => (e.key, e.val)) = entS U
def placeS (U : List (List UInt8)) (x : List UInt8) (i : Nat) : Option (Nat × Value) :=
  match U with
  | [] => none
  | p :: t => if p = x then some (i, .bool true) else placeS t x (i + 1)
theorem placeS_none (U : List (List UInt8)) (x : List UInt8) (i : Nat) : placeS U x i = none → x ∉ U := by
  induction U generalizing i with
  | nil => intro _ h; cases h
  | cons p t ih =>
    intro h
    unfold placeS at h
    split at h
    · cases h
    · rename_i hp
      have := ih (i + 1) h
      intro hm
      rcases List.mem_cons.1 hm with e | e
      · exact hp e.symm
      · exact this e
theorem placeS_some (U : List (List UInt8)) (x : List UInt8) (i j : Nat) (v : Value) : placeS U x i = some (j, v) → x ∈ U ∧ v = .bool true ∧ i ≤ j ∧ U[j - i]? = some x := by
  induction U generalizing i with
  | nil => intro h; cases h
  | cons p t ih =>
    intro h
    unfold placeS at h
    split at h
    · rename_i hp
      injection h with h
      injection h with h1 h2
      subst h1; subst h2
      exact ⟨by rw [hp]; exact List.mem_cons_self .., rfl, Nat.le_refl _, by simp [hp]⟩
    · rename_i hp
      obtain ⟨h1, h2, h3, h4⟩ := ih (i + 1) h
      have e : j - i = (j - (i + 1)) + 1 := by omega
      exact ⟨List.mem_cons_of_mem _ h1, h2, by omega, by rw [e]; simpa using h4⟩
theorem s8_beq (a b : List UInt8) : (S8 a == S8 b) = decide (a = b) := by
  rw [Bool.eq_iff_iff, MapKept.bytes_beq, decide_eq_true_iff]
  constructor
  · intro h
    have := congrArg bl h
    rwa [bl_S8, bl_S8] at this
  · rintro rfl; rfl
theorem findNowS (x : List UInt8) (U : List (List UInt8)) : ∀ (es : List MapEntry) (i : Nat), es.map (fun e => (e.key, e.val)) = entS U → Instr.findNow .string (.string (S8 x)) es i = some (placeS U x i) := by
  induction U with
  | nil =>
    intro es i h
    cases es with
    | nil => rfl
    | cons e t => simp [entS] at h
  | cons p t ih =>
    intro es i h
    cases es with
    | nil => simp [entS] at h
    | cons e es' =>
      simp only [entS, List.map_cons, List.cons.injEq, Prod.mk.injEq] at h
      obtain ⟨⟨h1, h2⟩, h3⟩ := h
      unfold Instr.findNow
      rw [h1]
      unfold placeS
      simp only [Instr.sameNow, if_true, s8_beq]
      by_cases e : p = x
      · rw [if_pos e]
        simp [e, h2]
      · rw [if_neg e]
        have : decide (x = p) = false := by rw [decide_eq_false_iff_not]; exact fun h => e h.symm
        rw [this]
        exact ih es' (i + 1) h3
section
variable {P : Program} {w : World} {t k e : TypeId} {r clk : Nat} {es : Array MapEntry} {U : List (List UInt8)}
theorem checkS (hk : P.underlying k = some .string) (b : Bool) (n : Nat) (x : ByteArray) : (Instr.checkKey b (n + 1) k (.string x)).run P w = .ok () w := by
  simp [Instr.checkKey, run_underlying hk]
theorem findS (hk : P.underlying k = some .string) (he : EntS es U) (x : List UInt8) : (Instr.findKey k (.string (S8 x)) es.toList).run P w = .ok (placeS U x 0) w := by
  unfold Instr.findKey
  simp only [Sem.run_bind, run_underlying hk, Result.andThen_ok]
  rw [findNowS x U es.toList 0 he]
  rfl
theorem slook (ht : P.underlying t = some (.map k e)) (hk : P.underlying k = some .string) (hz : (zeroValue e).run P w = .ok (.bool false) w) (hb : w.heap[r]? = some (.map es clk)) (he : EntS es U) (x : List UInt8) :
    (Instr.lookup t (.map (some r)) (.string (S8 x)) false).run P w = .ok (.bool (decide (x ∈ U))) w := by
  have h1 := checkS (w := w) hk es.isEmpty 9999 (S8 x)
  have h2 := findS (w := w) hk he x
  unfold Instr.lookup
  simp only [Sem.run_bind, run_underlying ht, Result.andThen_ok, MapKept.run_getObj_map hb, Sem.run_pure]
  rw [show (10000 : Nat) = 9999 + 1 from rfl, h1, Result.andThen_ok, h2, Result.andThen_ok]
  cases hp : placeS U x 0 with
  | none =>
    have hn := placeS_none U x 0 hp
    simp [Sem.run_bind, hz, hn]
  | some jv =>
    obtain ⟨j, v⟩ := jv
    obtain ⟨h3, h4, _⟩ := placeS_some U x 0 j v hp
    subst h4
    simp [h3]
theorem supd (ht : P.underlying t = some (.map k e)) (hk : P.underlying k = some .string) (hb : w.heap[r]? = some (.map es clk)) (he : EntS es U) (x : List UInt8) :
    ∃ es' clk', (Instr.mapUpdate t (.map (some r)) (.string (S8 x)) (.bool true)).run P w = .ok () (Go.ChangeMaps.setBlock w r (.map es' clk')) ∧ EntS es' (putK U x) := by
  have h1 := checkS (w := w) hk false 9999 (S8 x)
  have h2 := findS (w := w) hk he x
  cases hp : placeS U x 0 with
  | none =>
    have hn := placeS_none U x 0 hp
    refine ⟨es.push ⟨.string (S8 x), .bool true, clk⟩, clk + 1, ?_, ?_⟩
    · unfold Instr.mapUpdate
      simp only [Sem.run_bind, run_underlying ht, Result.andThen_ok, MapKept.run_getObj_map hb, Sem.run_pure]
      rw [show (10000 : Nat) = 9999 + 1 from rfl, h1, Result.andThen_ok, h2, Result.andThen_ok, hp]
      simp [setObj, Sem.run, hb, Go.ChangeMaps.setBlock]
    · unfold EntS at he ⊢
      unfold putK
      rw [if_neg hn]
      simp [he, entS]
  | some jv =>
    obtain ⟨j, u⟩ := jv
    obtain ⟨hm, hu, _, h4⟩ := placeS_some U x 0 j u hp
    simp only [Nat.sub_zero] at h4
    have hkey : (((es[j]?).map (·.key)).getD (Value.string (S8 x))) = .string (S8 x) := by
      have := congrArg (fun q => q[j]?) he
      simp only [entS, List.getElem?_map, h4, Option.map_some] at this
      rw [Array.getElem?_toList] at this
      cases hq : es[j]? with
      | none => rw [hq] at this; cases this
      | some q => rw [hq] at this; simp at this; simp [this.1]
    refine ⟨es.modify j fun e => { e with key := .string (S8 x), val := .bool true }, clk, ?_, ?_⟩
    · unfold Instr.mapUpdate
      simp only [Sem.run_bind, run_underlying ht, Result.andThen_ok, MapKept.run_getObj_map hb, Sem.run_pure]
      rw [show (10000 : Nat) = 9999 + 1 from rfl, h1, Result.andThen_ok, h2, Result.andThen_ok, hp]
      simp only [Sem.run_bind, hkey]
      have hbq : (S8 x == S8 x) = true := by rw [s8_beq]; simp
      simp [Instr.keyThatStays, Instr.sameBits, setObj, Sem.run, hb, Go.ChangeMaps.setBlock, hbq]
    · unfold EntS at he ⊢
      unfold putK
      rw [if_pos hm, ← he]
      refine List.ext_getElem? fun i => ?_
      have hi := congrArg (fun q => q[i]?) he
      simp only [entS, List.getElem?_map, Array.getElem?_toList] at hi
      simp only [List.getElem?_map, Array.getElem?_toList, Array.getElem?_modify]
      by_cases e : j = i
      · subst e
        rw [if_pos rfl]
        cases hq : es[j]? with
        | none => rfl
        | some q =>
          rw [hq, h4] at hi
          simp at hi
          simp [hi.1, hi.2]
      · rw [if_neg e]
theorem slen (he : EntS es U) : es.size = U.length := by
  have := congrArg List.length he
  simpa [entS] using this
end
end RL
end Go.Proofs.YtecfkhgocjbocaaGreatDoor
namespace Go.Proofs.YtecfkhgocjbocaaGreatDoor
set_option linter.unusedVariables false
set_option linter.unusedSimpArgs false
open Go Go.RowKit

namespace RL
open CF
theorem set_hit (C : List Ln) (h : Int) (nm lf : List UInt8) (k : Nat) (hk : k < C.length) (hno : ∀ j < k, ¬ ((lnAt C j).head = h ∧ (lnAt C j).name = nm ∧ (lnAt C j).leaf = lf)) (hh : (lnAt C k).head = h ∧ (lnAt C k).name = nm ∧ (lnAt C k).leaf = lf) : setV C h nm lf = ((lnAt C k).value, true) := by
  unfold setV
  have e : C.find? (isAt h nm lf) = some (lnAt C k) := by
    have h1 : (C.take k).find? (isAt h nm lf) = none := by
      rw [List.find?_eq_none]
      intro x hx
      obtain ⟨j, hj, rfl⟩ := List.getElem_of_mem hx
      rw [List.length_take] at hj
      have := hno j (by omega)
      rw [lnAt_get C j (by omega)] at this
      rw [List.getElem_take]
      unfold isAt
      simpa [and_assoc] using this
    have h0 : C = C.take k ++ C[k] :: C.drop (k + 1) := by rw [← List.drop_eq_getElem_cons hk, List.take_append_drop]
    rw [lnAt_get C k hk] at hh
    have h2 : isAt h nm lf C[k] = true := by unfold isAt; simp [hh]
    conv => lhs; rw [h0]
    rw [List.find?_append, h1, Option.none_or, List.find?_cons_of_pos h2, lnAt_get C k hk]
  rw [e]
theorem set_miss (C : List Ln) (h : Int) (nm lf : List UInt8) (hno : ∀ j < C.length, ¬ ((lnAt C j).head = h ∧ (lnAt C j).name = nm ∧ (lnAt C j).leaf = lf)) : setV C h nm lf = ([], false) := by
  unfold setV
  have e : C.find? (isAt h nm lf) = none := by
    rw [List.find?_eq_none]
    intro x hx
    obtain ⟨j, hj, rfl⟩ := List.getElem_of_mem hx
    have := hno j hj
    rw [lnAt_get C j hj] at this
    unfold isAt
    simpa [and_assoc] using this
  rw [e]
set_option maxRecDepth 100000 in
set_option maxHeartbeats 1600000 in
theorem set_any (C : List Ln) (h : Int) (nm lf : List UInt8) (A : Option Addr) (n c : Nat) (w : World) (hsl : Sl w 4 (.slice A n c) (LNS C)) (hn : n ≤ 1000) :
    Calls Tryz.prog 75 #[.slice A n c, .int .i64 h, .string (S8 nm), .string (S8 lf)] w fun e w' => e = .returned (.tuple #[.string (S8 (setV C h nm lf).1), .bool (setV C h nm lf).2]) ∧ Below w.heap.size w w' := by
  have hl1 := (sl_lns hsl).1
  have HSL := hid hsl
  have HW1 : Hid (∀ k < n, (∀ j < k, ¬ ((lnAt C j).head = h ∧ (lnAt C j).name = nm ∧ (lnAt C j).leaf = lf)) → (lnAt C k).head = h → (lnAt C k).name = nm → (lnAt C k).leaf = lf → setV C h nm lf = ((lnAt C k).value, true)) := fun k hk hno e1 e2 e3 => set_hit C h nm lf k (by omega) hno ⟨e1, e2, e3⟩
  have HW2 : Hid ((∀ j < n, ¬ ((lnAt C j).head = h ∧ (lnAt C j).name = nm ∧ (lnAt C j).leaf = lf)) → setV C h nm lf = ([], false)) := fun hno => set_miss C h nm lf (fun j hj => hno j (by omega))
  clear hsl hl1
  generalize setV C h nm lf = V at *
  go_enter Tryz.func75, Tryz.ntmps75
  go_wp2_with fail
  go_loopw [10] (fun i wr => ∃ k : Nat, k ≤ n ∧ i = .int .i64 k ∧ Hid (∀ j < k, ¬ ((lnAt C j).head = h ∧ (lnAt C j).name = nm ∧ (lnAt C j).leaf = lf)) ∧ Below w.heap.size w wr) (fun i _ => n - (intOf i).toNat)
  case atStart => exact ⟨0, Nat.zero_le _, rfl, hid (by simp), Below.refl _ _⟩
  case round =>
    obtain ⟨k, hk, rfl, HJ, hbr⟩ := hrel
    by_cases hlt : k < n
    · obtain ⟨b, off, rfl, hbl, hcl⟩ := sl_ln (HSL.out.below hbr) hlt
      have HV1 := hid (HW1.out k hlt HJ.out)
      have HNO : Hid (¬ ((lnAt C k).head = h ∧ (lnAt C k).name = nm ∧ (lnAt C k).leaf = lf) → ∀ j < k + 1, ¬ ((lnAt C j).head = h ∧ (lnAt C j).name = nm ∧ (lnAt C j).leaf = lf)) := fun hh j hj => by
        by_cases e : j = k
        · rw [e]; exact hh
        · exact HJ.out j (by omega)
      have hx0 : wr.cell? ⟨b, off + k * 4, none⟩ = some (.int .i64 (lnAt C k).head) := hcl 0 _ rfl
      have hx1 : wr.cell? ⟨b, off + k * 4 + 1, none⟩ = some (.string (S8 (lnAt C k).name)) := hcl 1 _ rfl
      have hx2 : wr.cell? ⟨b, off + k * 4 + 2, none⟩ = some (.string (S8 (lnAt C k).leaf)) := hcl 2 _ rfl
      have hx3 : wr.cell? ⟨b, off + k * 4 + 3, none⟩ = some (.string (S8 (lnAt C k).value)) := hcl 3 _ rfl
      have t1 := tl_eq (lnAt C k).name nm
      have t3 := tl_eq (lnAt C k).leaf lf
      clear HJ HW1 HW2 hcl
      obtain ⟨l, hll⟩ : ∃ l, l = lnAt C k := ⟨_, rfl⟩
      rw [← hll] at HV1 HNO hx0 hx1 hx2 hx3 t1 t3
      clear hll
      by_cases q0 : l.head = h
      · have e0 : (l.head == h) = true := by simpa using q0
        by_cases q1 : l.name = nm
        · rw [decide_eq_true q1] at t1
          by_cases q2 : l.leaf = lf
          · rw [decide_eq_true q2] at t3
            have HE := hid (HV1.out q0 q1 q2)
            clear HV1 HNO q1 q2
            as_aux_lemma =>
              go_wp2_with fail
              go_ret2
              exact ⟨by rw [HE.out]; rfl, hbr⟩
          · rw [decide_eq_false q2] at t3
            have HNE : Hid (¬ (l.head = h ∧ l.name = nm ∧ l.leaf = lf)) := fun hh => q2 hh.2.2
            clear q1 q2
            as_aux_lemma =>
              have HN1 := hid (HNO.out HNE.out)
              clear HNO HNE HV1
              go_wp2_with fail
              go_light
              exact ⟨⟨k + 1, by omega, by go_num, HN1, hbr⟩, by simp [intOf]; omega⟩
        · rw [decide_eq_false q1] at t1
          have HNE : Hid (¬ (l.head = h ∧ l.name = nm ∧ l.leaf = lf)) := fun hh => q1 hh.2.1
          clear q1
          as_aux_lemma =>
            have HN1 := hid (HNO.out HNE.out)
            clear HNO HNE HV1
            go_wp2_with fail
            go_light
            exact ⟨⟨k + 1, by omega, by go_num, HN1, hbr⟩, by simp [intOf]; omega⟩
      · have e0 : (l.head == h) = false := by simpa using q0
        have HNE : Hid (¬ (l.head = h ∧ l.name = nm ∧ l.leaf = lf)) := fun hh => q0 hh.1
        clear q0
        as_aux_lemma =>
          have HN1 := hid (HNO.out HNE.out)
          clear HNO HNE HV1
          go_wp2_with fail
          go_light
          exact ⟨⟨k + 1, by omega, by go_num, HN1, hbr⟩, by simp [intOf]; omega⟩
    · obtain rfl : k = n := by omega
      have HE := hid (HW2.out HJ.out)
      clear HW1 HW2 HJ
      go_wp2_with fail
      go_ret2
      exact ⟨by rw [HE.out]; rfl, hbr⟩
theorem netA_lt (l : List UInt8) : SC.netA l < 4294967296 := by
  unfold SC.netA
  cases h : SC.net l with
  | none => decide
  | some p =>
    unfold SC.net at h
    split at h
    · rename_i a b _
      split at h
      · rename_i x y hx hy
        injection h with h; subst h
        exact SC.addr_lt hx
      · cases h
    · cases h
theorem netL_le (l : List UInt8) : SC.netL l ≤ 32 := by
  unfold SC.netL
  cases h : SC.net l with
  | none => decide
  | some p =>
    unfold SC.net at h
    split at h
    · rename_i a b _
      split at h
      · rename_i x y hx hy
        injection h with h; subst h
        show y ≤ 32
        unfold SC.len32 at hy
        split at hy
        · split at hy
          · injection hy with hy; subst hy; omega
          · cases hy
        · cases hy
      · cases h
    · cases h
theorem cut_int (x y n m : Nat) (hn : n ≤ 32) (hm : m ≤ 32) : ((x : Int) / 2 ^ (32 - min (n : Int) (m : Int)).toNat == (y : Int) / 2 ^ (32 - min (n : Int) (m : Int)).toNat) = decide (x >>> (32 - min n m) = y >>> (32 - min n m)) := by
  have e : (32 - min (n : Int) (m : Int)).toNat = 32 - min n m := by omega
  rw [e, Nat.shiftRight_eq_div_pow, Nat.shiftRight_eq_div_pow, Bool.eq_iff_iff, beq_iff_eq, decide_eq_true_iff]
  generalize 32 - min n m = s
  have h1 : (x : Int) / 2 ^ s = ((x / 2 ^ s : Nat) : Int) := by simp
  have h2 : (y : Int) / 2 ^ s = ((y / 2 ^ s : Nat) : Int) := by simp
  rw [h1, h2]
  exact ⟨fun h => by exact_mod_cast h, fun h => by rw [h]⟩
set_option maxRecDepth 100000 in
set_option maxHeartbeats 800000 in
theorem refMeet_any (a b : List UInt8) (w : World) (ha : a.length ≤ 2000000) (hb : b.length ≤ 2000000) :
    Calls Tryz.prog 76 #[.string (S8 a), .string (S8 b)] w fun e w' => e = .returned (.bool (cutN a b)) ∧ Below w.heap.size w w' := by
  have HA := hid (refNet_any (S8 a) w (by rw [S8_size]; exact ha))
  have HB := hid (fun w' => refNet_any (S8 b) w' (by rw [S8_size]; exact hb))
  simp only [bl_S8] at HA HB
  have hx := netA_lt a
  have hy := netA_lt b
  have hn := netL_le a
  have hm := netL_le b
  have HC : Hid (cutN a b = decide (SC.netA a >>> (32 - min (SC.netL a) (SC.netL b)) = SC.netA b >>> (32 - min (SC.netL a) (SC.netL b)))) := rfl
  generalize cutN a b = r at *
  generalize SC.netA a = x at *
  generalize SC.netA b = y at *
  generalize SC.netL a = n at *
  generalize SC.netL b = m at *
  go_enter Tryz.func76, Tryz.ntmps76
  go_wp2_with fail
  refine HA.out.mono ?_
  rintro e w1 ⟨rfl, hb1⟩
  have HB1 := hid (HB.out w1)
  clear HA HB
  go_wp2_with fail
  refine HB1.out.mono ?_
  rintro e w2 ⟨rfl, hb2⟩
  have hbw := hb1.trans (hb2.mono hb1.size)
  clear HB1 hb1 hb2
  go_upto_region 4 with fail
  go_wp2_with fail
  go_big_region
  go_wp2_with fail
  go_ret
  exact ⟨by rw [HC.out, cut_int x y n m hn hm]; rfl, hbw.drew⟩
end RL
end Go.Proofs.YtecfkhgocjbocaaGreatDoor
namespace Go.Proofs.YtecfkhgocjbocaaGreatDoor
set_option linter.unusedVariables false
set_option linter.unusedSimpArgs false
open Go Go.RowKit

namespace RL
open CF
/-- what a call may turn: the one who looks, its set, its faults -/
def Ko (gk gm : Nat) (Ao : Option Addr) : Nat → Prop := fun b => b = gk ∨ b = gm ∨ ∃ a, Ao = some a ∧ a.block = b
structure KO (gk gm : Nat) (w : World) (Ao : Option Addr) (w' : World) (Ao' : Option Addr) : Prop where
  kept : Kept (Ko gk gm Ao) w w'
  new : ∀ a', Ao' = some a' → (∃ a, Ao = some a ∧ a.block = a'.block) ∨ w.heap.size ≤ a'.block
theorem KO.of_below {gk gm : Nat} {w w' : World} {Ao : Option Addr} (h : Below w.heap.size w w') : KO gk gm w Ao w' Ao := ⟨Kept.of_below h, fun a' h => .inl ⟨a', h, rfl⟩⟩
theorem KO.trans {gk gm : Nat} {w w1 w2 : World} {A A1 A2 : Option Addr} (h : KO gk gm w A w1 A1) (k : KO gk gm w1 A1 w2 A2) : KO gk gm w A w2 A2 := by
  refine ⟨h.kept.then k.kept fun b hb hk => ?_, fun a' ha' => ?_⟩
  · rcases hk with e | e | ⟨a, ha, e⟩
    · exact .inl e
    · exact .inr (.inl e)
    · rcases h.new a ha with ⟨a0, h0, e0⟩ | h0
      · exact .inr (.inr ⟨a0, h0, by omega⟩)
      · omega
  · rcases k.new a' ha' with ⟨a, ha, e⟩ | h0
    · rcases h.new a ha with ⟨a0, h1, e1⟩ | h1
      · exact .inl ⟨a0, h1, by omega⟩
      · exact .inr (by omega)
    · exact .inr (Nat.le_trans h.kept.size h0)
/-- the one who looks -/
structure Ck (w : World) (gk gm : Nat) (vc : Value) (U : List (List UInt8)) (F : List Ft) (Ao : Option Addr) (co : Nat) : Prop where
  lt : gm < gk
  blk : w.heap[gk]? = some (.cells #[vc, .map (some gm), .slice Ao F.length co] 119 (0, 0))
  set : ∃ es clk, w.heap[gm]? = some (.map es clk) ∧ EntS es U
  own : w.ownsRow (gk + 1) 75 2 (.slice Ao F.length co) F.length (FTS F)
theorem Ck.below {w w' : World} {gk gm : Nat} {vc : Value} {U : List (List UInt8)} {F : List Ft} {Ao : Option Addr} {co : Nat} (h : Ck w gk gm vc U F Ao co) (hb : Below w.heap.size w w') : Ck w' gk gm vc U F Ao co := by
  obtain ⟨h1, h2, ⟨es, clk, h3, h4⟩, h5⟩ := h
  exact ⟨h1, blk_below h2 hb (blk_lt h2), ⟨es, clk, blk_below h3 hb (blk_lt h3), h4⟩, own_below h5 hb⟩
theorem Ck.block {w : World} {gk gm : Nat} {vc : Value} {U : List (List UInt8)} {F : List Ft} {Ao : Option Addr} {co : Nat} (h : Ck w gk gm vc U F Ao co) {a : Addr} (ha : Ao = some a) : gk < a.block ∧ a.block < w.heap.size := by
  subst ha
  have := h.own.lt a.block rfl
  exact ⟨by omega, this.2⟩
theorem st_ft : ST Tryz.prog 63 75 2 24 := .mk Tryz.underlying63 (z := .agg #[.int .i64 0, .string ByteArray.empty]) (by kernel_rfl) rfl (by omega)
theorem ft_built (k : Int) (s : ByteArray) : (Tryz.prog).built 75 [(0, .int .i64 k), (1, .string s)] = some #[.int .i64 k, .string s] := by kernel_rfl
theorem sl_ft1 {w : World} {g : Nat} {f : Ft} {T : TypeId} (h : w.heap[g]? = some (.cells (ftV f) T (0, 0))) : Sl w 2 (.slice (some ⟨g, 0, none⟩) 1 1) (FTS [f]) :=
  ⟨_, _, _, rfl, rfl, Nat.le_refl _, by decide, fun _ => ⟨g, 0, rfl, blk_lt h, fun i hi => by rw [Nat.zero_add, blkCell h i]; simp [FTS, ftV, ftC]⟩⟩
set_option maxRecDepth 100000 in
set_option maxHeartbeats 800000 in
theorem value_any (C : List Ln) (A : Option Addr) (n c : Nat) (gk gm : Nat) (U : List (List UInt8)) (F : List Ft) (Ao : Option Addr) (co : Nat) (h : Int) (nm lf : List UInt8) (w : World)
    (hk : Ck w gk gm (.slice A n c) U F Ao co) (hsl : Sl w 4 (.slice A n c) (LNS C)) (hC : ∀ l ∈ C, LnOk l) (hen : Env w) :
    Calls Tryz.prog 67 #[.pointer (some ⟨gk, 0, none⟩), .int .i64 h, .string (S8 nm), .string (S8 lf)] w fun e w' => e = .returned (.string (S8 (valC C h nm lf))) ∧ Below w.heap.size w w' := by
  have hx := blkCell hk.blk 0
  simp only [List.getElem?_toArray, List.getElem?_cons_zero] at hx
  have HV := hid (Value_any C h nm lf A n c w hsl hC hen)
  clear hk hsl hC hen
  go_enter Tryz.func67, Tryz.ntmps67
  go_wp2_with fail
  refine HV.out.mono ?_
  rintro e w1 ⟨rfl, hb1⟩
  clear HV hx
  go_wp2_with fail
  go_ret
  exact ⟨rfl, hb1⟩
set_option maxRecDepth 100000 in
set_option maxHeartbeats 800000 in
theorem number8_any (C : List Ln) (A : Option Addr) (n c : Nat) (gk gm : Nat) (U : List (List UInt8)) (F : List Ft) (Ao : Option Addr) (co : Nat) (nm lf : List UInt8) (w : World)
    (hk : Ck w gk gm (.slice A n c) U F Ao co) (hsl : Sl w 4 (.slice A n c) (LNS C)) (hC : ∀ l ∈ C, LnOk l) (hen : Env w) (hv : (valC C 2 nm lf).length ≤ 2000000) :
    Calls Tryz.prog 101 #[.pointer (some ⟨gk, 0, none⟩), .string (S8 nm), .string (S8 lf)] w fun e w' => e = .returned (.int .i64 (nV C nm lf : Nat)) ∧ Below w.heap.size w w' := by
  have HV := hid (value_any C A n c gk gm U F Ao co 2 nm lf w hk hsl hC hen)
  have HD := hid (fun w' => decimal_any (S8 (valC C 2 nm lf)) w' (by rw [S8_size]; exact hv))
  have HN : Hid (nV C nm lf = SC.decV (valC C 2 nm lf)) := rfl
  simp only [bl_S8] at HD
  clear hk hsl hC hen hv
  generalize nV C nm lf = r at *
  go_enter Tryz.func101, Tryz.ntmps101
  go_wp2_with fail
  refine HV.out.mono ?_
  rintro e w1 ⟨rfl, hb1⟩
  clear HV
  go_wp2_with fail
  refine (HD.out w1).mono ?_
  rintro e w2 ⟨rfl, hb2⟩
  have hbw := hb1.trans (hb2.mono hb1.size)
  clear HD hb1 hb2
  go_wp2_with fail
  go_ret
  exact ⟨by rw [HN.out]; rfl, hbw⟩
set_option maxRecDepth 100000 in
set_option maxHeartbeats 1600000 in
theorem must_any (gk gm : Nat) (vc : Value) (U : List (List UInt8)) (F : List Ft) (Ao : Option Addr) (co : Nat) (b : Bool) (kind : Int) (nm : List UInt8) (w : World)
    (hk : Ck w gk gm vc U F Ao co) (hF : F.length ≤ 1000) :
    Calls Tryz.prog 68 #[.pointer (some ⟨gk, 0, none⟩), .bool b, .int .i64 kind, .string (S8 nm)] w fun e w' => e = .returned (.tuple #[]) ∧ ∃ Ao' co', Ck w' gk gm vc U (F ++ flag b ⟨kind, nm⟩) Ao' co' ∧ KO gk gm w Ao w' Ao' := by
  cases b with
  | true =>
    have HK := hid hk
    clear hk
    go_enter Tryz.func68, Tryz.ntmps68
    go_wp2_with fail
    go_end0
    exact ⟨rfl, Ao, co, by rw [show F ++ flag true ⟨kind, nm⟩ = F by simp [flag]]; exact HK.out, KO.of_below (Below.refl _ _)⟩
  | false =>
    have hx := blkCell hk.blk 2
    simp only [List.getElem?_toArray, List.getElem?_cons_zero, List.getElem?_cons_succ] at hx
    obtain ⟨hb1, hg1, hl1⟩ := box1 w (.cells (ftV ⟨kind, nm⟩) 75)
    have hk1 := hk.below hb1
    have hs1 := sl_ft1 hg1
    have HBL := ft_built kind (S8 nm)
    have HO1 := hid hk1.own
    have HS1 := hid hs1
    have HK1 := hid hk1
    have HB1 := hid hb1
    have hgk : gk < w.heap.size := blk_lt hk.blk
    have hbase : gk + 1 ≤ (w.alloc (.cells (ftV ⟨kind, nm⟩) 75)).heap.size := by omega
    clear hk hk1 hs1 hb1 hg1 hl1
    go_enter Tryz.func68, Tryz.ntmps68
    go_wp2_with (first | refine wpList_build1 rfl st_ft (.tmp 17) rfl (ftV ⟨kind, nm⟩) rfl rfl (by omega) (by omega) ?_ | (at_builtin; refine wpList_app rfl (.tmp 14) (.tmp 18) st_ft rfl (gk + 1) rfl HO1.out rfl HS1.out (FTS_one _) (by simp [maxLen]; omega) (by omega) hbase ?_))
    intro A8 c8 w2 ho2 hg2 hn2
    have hown1 : ∀ g, Value.ownBlock (.slice Ao F.length co) = some g → gk + 1 ≤ g := fun g hg => (HK1.out.own.lt g hg).1
    have hgk2 : w2.heap[gk]? = some (.cells #[vc, .map (some gm), .slice Ao F.length co] 119 (0, 0)) :=
      (hg2.block gk (blk_lt HK1.out.blk) (fun e => by have := hown1 gk e.symm; omega)).trans HK1.out.blk
    have q2 := blkCell hgk2 2
    have f2 : w2.frozen? ⟨gk, 2, none⟩ = false := by simp [World.frozen?, hgk2]
    simp only [List.getElem?_toArray, List.getElem?_cons_zero, List.getElem?_cons_succ] at q2
    have HEND : Hid (Ck (w2.setCell ⟨gk, 2, none⟩ (.slice A8 (F.length + 1) c8)) gk gm vc U (F ++ flag false ⟨kind, nm⟩) A8 c8 ∧ KO gk gm w Ao (w2.setCell ⟨gk, 2, none⟩ (.slice A8 (F.length + 1) c8)) A8) := by
      have hfl : F ++ flag false ⟨kind, nm⟩ = F ++ [⟨kind, nm⟩] := rfl
      have hln : (F ++ [(⟨kind, nm⟩ : Ft)]).length = F.length + 1 := by simp
      have hlt := HK1.out.lt
      have kS : Kept (fun b => b = gk) w2 (w2.setCell ⟨gk, 2, none⟩ (.slice A8 (F.length + 1) c8)) := Kept.setCell (S := fun b => b = gk) (Kept.refl (fun b => b = gk) w2) (p := ⟨gk, 2, none⟩) (.inl rfl) _
      rw [hfl]
      refine ⟨⟨hlt, ?_, ?_, ?_⟩, ?_, ?_⟩
      · rw [hln]
        have := blk_set hgk2 2 (.slice A8 (F.length + 1) c8)
        simpa using this
      · obtain ⟨es, clk, h3, h4⟩ := HK1.out.set
        refine ⟨es, clk, ?_, h4⟩
        rw [kS.block gm (by have := hg2.size; have := blk_lt h3; omega) (by omega)]
        exact (hg2.block gm (blk_lt h3) (fun e => by have := hown1 gm e.symm; omega)).trans h3
      · rw [hln, FTS_append]
        exact ownsRow_kept ho2 kS (fun g hg => by have := (ho2.lt g hg).1; omega)
      · have k1 : Kept (Ko gk gm Ao) w _ := Kept.of_below HB1.out
        have k2 : Kept (Ko gk gm Ao) _ w2 := Kept.of_grown hg2 (fun g hg => .inr (.inr (by
          cases Ao with
          | none => cases hg
          | some a => exact ⟨a, rfl, by simpa [Value.ownBlock] using hg⟩)))
        exact (k1.then k2 (fun b _ h => h)).setCell (.inl (.inl rfl)) _
      · intro a' ha'
        subst ha'
        rcases hn2 with e | e
        · cases Ao with
          | none => cases e
          | some a => exact .inl ⟨a, rfl, by simp [Value.ownBlock] at e; exact e.symm⟩
        · simp [Value.ownBlock] at e
          exact .inr (by omega)
    clear ho2 hg2 hn2 hown1 hgk2 HK1 HB1 HO1 HS1 HBL
    go_wp2_with fail
    go_end0
    exact ⟨rfl, A8, c8, HEND.out.1, HEND.out.2⟩
end RL
end Go.Proofs.YtecfkhgocjbocaaGreatDoor
namespace Go.Proofs.YtecfkhgocjbocaaGreatDoor
set_option linter.unusedVariables false
set_option linter.unusedSimpArgs false
open Go Go.RowKit

namespace RL
open CF
set_option maxRecDepth 100000 in
set_option maxHeartbeats 800000 in
theorem meets_any (a b : List UInt8) (w : World) (ha : a.length ≤ 2000000) (hb : b.length ≤ 2000000) (hen : Env w) :
    Calls Tryz.prog 100 #[.string (S8 a), .string (S8 b)] w fun e w' => e = .returned (.bool (meetP a b)) ∧ Below w.heap.size w w' := by
  have HA := hid (net_any (S8 a) w (by rw [S8_size]; exact ha) hen)
  have HB := hid (fun w' hw' => net_any (S8 b) w' (by rw [S8_size]; exact hb) (hen.below hw'))
  simp only [bl_S8] at HA HB
  have hx := netA_lt a
  have hy := netA_lt b
  have hn := netL_le a
  have hm := netL_le b
  have HC : Hid (meetP a b = (SC.netB a && SC.netB b && decide (SC.netA a >>> (32 - min (SC.netL a) (SC.netL b)) = SC.netA b >>> (32 - min (SC.netL a) (SC.netL b))))) := rfl
  generalize meetP a b = r at *
  generalize SC.netA a = x at *
  generalize SC.netA b = y at *
  generalize SC.netL a = n at *
  generalize SC.netL b = m at *
  generalize SC.netB a = p at *
  generalize SC.netB b = q at *
  clear hen
  go_enter Tryz.func100, Tryz.ntmps100
  go_wp2_with fail
  refine HA.out.mono ?_
  rintro e w1 ⟨rfl, hb1⟩
  have HB1 := hid (HB.out w1 hb1)
  clear HA HB
  go_wp2_with fail
  refine HB1.out.mono ?_
  rintro e w2 ⟨rfl, hb2⟩
  have hbw := hb1.trans (hb2.mono hb1.size)
  clear HB1 hb1 hb2
  cases p with
  | false =>
    go_upto_region 4 with fail
    go_wp2_with fail
    go_big_region
    go_wp2_with fail
    go_ret
    exact ⟨by rw [HC.out]; first | rfl | (rw [cut_int x y n m hn hm]; rfl), hbw.drew⟩
  | true =>
    cases q with
    | false =>
      go_upto_region 4 with fail
      go_wp2_with fail
      go_big_region
      go_wp2_with fail
      go_ret
      exact ⟨by rw [HC.out]; first | rfl | (rw [cut_int x y n m hn hm]; rfl), hbw.drew⟩
    | true =>
      go_upto_region 4 with fail
      go_wp2_with fail
      go_big_region
      go_wp2_with fail
      go_ret
      exact ⟨by rw [HC.out]; first | rfl | (rw [cut_int x y n m hn hm]; rfl), hbw.drew⟩
/-- the question whether a net meets the one in the box ga -/
abbrev FnM (ga : Nat) : Value := .func (.func 99) #[] #[.pointer (some ⟨ga, 0, none⟩)]
def BoxS (w : World) (ga : Nat) (D : List UInt8) : Prop := w.heap[ga]? = some (.cells #[.string (S8 D)] 9 (0, 0))
theorem BoxS.below {w w' : World} {ga : Nat} {D : List UInt8} (h : BoxS w ga D) (hb : Below w.heap.size w w') : BoxS w' ga D := blk_below h hb (blk_lt h)
set_option maxRecDepth 100000 in
set_option maxHeartbeats 400000 in
theorem ask_any (x D : List UInt8) (ga : Nat) (w : World) (hg : BoxS w ga D) (hx : x.length ≤ 2000000) (hD : D.length ≤ 2000000) (hen : Env w) :
    Calls Tryz.prog 99 #[.string (S8 x), .pointer (some ⟨ga, 0, none⟩)] w fun e w' => e = .returned (.bool (meetP x D)) ∧ Below w.heap.size w w' := by
  have q0 : w.cell? ⟨ga, 0, none⟩ = some (.string (S8 D)) := by rw [blkCell hg 0]; rfl
  have HM := hid (meets_any x D w hx hD hen)
  clear hg hx hD hen
  go_enter Tryz.func99, Tryz.ntmps99
  go_wp2_with fail
  refine HM.out.mono ?_
  rintro e w1 ⟨rfl, hb1⟩
  clear HM q0
  go_wp2_with fail
  go_ret
  exact ⟨rfl, hb1⟩
theorem any_nth (L : List (List UInt8)) (p : List UInt8 → Bool) (k : Nat) (hk : k < L.length) (h : p (nAt L k) = true) : L.any p = true := by
  rw [List.any_eq_true]
  exact ⟨nAt L k, nAt_mem L k hk, h⟩
theorem any_none (L : List (List UInt8)) (p : List UInt8 → Bool) (h : ∀ j < L.length, p (nAt L j) = false) : L.any p = false := by
  rw [List.any_eq_false]
  intro x hx
  obtain ⟨j, hj, rfl⟩ := List.getElem_of_mem hx
  have := h j hj
  rw [nAt_get L j hj] at this
  simp [this]
set_option maxRecDepth 100000 in
set_option maxHeartbeats 800000 in
theorem indexM_any (L : List (List UInt8)) (D : List UInt8) (ga : Nat) (A : Option Addr) (n c : Nat) (w : World) (hsl : Sl w 1 (.slice A n c) (STR L)) (hL : L.length = n) (hn : n ≤ 1000) (hg : BoxS w ga D) (hx : ∀ x ∈ L, x.length ≤ 2000000) (hD : D.length ≤ 2000000) (hen : Env w) :
    Calls Tryz.prog 124 #[.slice A n c, FnM ga] w fun e w' => (∃ r : Int, e = .returned (.int .i64 r) ∧ decide (0 ≤ r) = L.any fun a => meetP a D) ∧ Below w.heap.size w w' := by
  have HSL := hid hsl
  have HY : Hid (∀ k < n, meetP (nAt L k) D = true → (L.any fun a => meetP a D) = true) := fun k hk h => any_nth L _ k (by omega) h
  have HN : Hid ((∀ j < n, meetP (nAt L j) D = false) → (L.any fun a => meetP a D) = false) := fun h => any_none L _ (fun j hj => h j (by omega))
  have HA : Hid (∀ k < n, ∀ w', Below w.heap.size w w' → Calls Tryz.prog 99 #[.string (S8 (nAt L k)), .pointer (some ⟨ga, 0, none⟩)] w' fun e w'' => e = .returned (.bool (meetP (nAt L k) D)) ∧ Below w'.heap.size w' w'') :=
    fun k hk w' hb => ask_any _ D ga w' (hg.below hb) (hx _ (nAt_mem L k (by omega))) hD (hen.below hb)
  clear hsl hg hx hD hen hL
  generalize (L.any fun a => meetP a D) = R at *
  go_enter Tryz.func124, Tryz.ntmps124
  go_wp2_with fail
  go_loopw [8] (fun i wr => ∃ k : Nat, k ≤ n ∧ i = .int .i64 k ∧ Hid (∀ j < k, meetP (nAt L j) D = false) ∧ Below w.heap.size w wr) (fun i _ => n - (intOf i).toNat)
  case atStart => exact ⟨0, Nat.zero_le _, rfl, hid (by simp), Below.refl _ _⟩
  case round =>
    obtain ⟨k, hk, rfl, HJ, hbr⟩ := hrel
    by_cases hlt : k < n
    · obtain ⟨b, off, rfl, hbl, hcl⟩ := STR_cell (HSL.out.below hbr) hlt
      rw [show L.getD k [] = nAt L k from rfl] at hcl
      have HA1 := hid (HA.out k hlt wr hbr)
      have HY1 := hid (HY.out k hlt)
      have HJ1 : Hid (meetP (nAt L k) D = false → ∀ j < k + 1, meetP (nAt L j) D = false) := fun h j hj => by
        by_cases e : j = k
        · rw [e]; exact h
        · exact HJ.out j (by omega)
      generalize meetP (nAt L k) D = v at *
      generalize S8 (nAt L k) = s at *
      clear HJ HA HY HN
      go_wp2_with fail
      refine HA1.out.mono ?_
      rintro e w2 ⟨rfl, hb2⟩
      have hbw := hbr.trans (hb2.mono hbr.size)
      clear HA1 hcl hb2 hbr hbl
      cases v with
      | true =>
        have HE := hid (HY1.out rfl)
        clear HY1 HJ1
        go_wp2_with fail
        go_ret
        exact ⟨⟨k, rfl, by rw [HE.out]; simp⟩, hbw⟩
      | false =>
        have HJ2 := hid (HJ1.out rfl)
        clear HY1 HJ1
        go_wp2_with fail
        go_light
        exact ⟨⟨k + 1, by omega, by go_num, HJ2.out, hbw⟩, by simp [intOf]; omega⟩
    · obtain rfl : k = n := by omega
      have HE := hid (HN.out HJ.out)
      clear HN HJ HY HA
      go_wp2_with fail
      go_ret
      exact ⟨⟨-1, rfl, by rw [HE.out]; rfl⟩, hbr⟩
set_option maxRecDepth 100000 in
set_option maxHeartbeats 400000 in
theorem containsM_any (L : List (List UInt8)) (D : List UInt8) (ga : Nat) (A : Option Addr) (n c : Nat) (w : World) (hsl : Sl w 1 (.slice A n c) (STR L)) (hL : L.length = n) (hn : n ≤ 1000) (hg : BoxS w ga D) (hx : ∀ x ∈ L, x.length ≤ 2000000) (hD : D.length ≤ 2000000) (hen : Env w) :
    Calls Tryz.prog 98 #[.slice A n c, FnM ga] w fun e w' => e = .returned (.bool (L.any fun a => meetP a D)) ∧ Below w.heap.size w w' := by
  have HI := hid (indexM_any L D ga A n c w hsl hL hn hg hx hD hen)
  clear hsl hL hg hx hD hen
  generalize (L.any fun a => meetP a D) = R at *
  go_enter Tryz.func98, Tryz.ntmps98
  go_wp2_with fail
  refine HI.out.mono ?_
  rintro e w1 ⟨⟨r, rfl, hr⟩, hb1⟩
  have HR := hid hr
  clear HI hr
  go_wp2_with fail
  go_ret
  refine ⟨?_, hb1⟩
  rw [← HR.out]
  first | rfl | simp
end RL
end Go.Proofs.YtecfkhgocjbocaaGreatDoor
namespace Go.Proofs.YtecfkhgocjbocaaGreatDoor
set_option linter.unusedVariables false
set_option linter.unusedSimpArgs false
open Go Go.RowKit

namespace RL
open CF
theorem kept_setBlock8 (w : World) (r : Nat) (o : Obj) : Kept (fun b => b = r) w (Go.ChangeMaps.setBlock w r o) :=
  ⟨rfl, rfl, rfl, by simp [Go.ChangeMaps.setBlock], fun b hb hn => by simp only [Go.ChangeMaps.setBlock]; rw [Array.getElem?_setIfInBounds_ne (fun e => hn e.symm)]⟩
theorem setBlock_at8 {w : World} {r : Nat} {o o' : Obj} (h : w.heap[r]? = some o) : (Go.ChangeMaps.setBlock w r o').heap[r]? = some o' := by
  have hlt := (Array.getElem?_eq_some_iff.1 h).1
  simp [Go.ChangeMaps.setBlock, hlt]
/-- a key is set in a set -/
theorem wpList_supd {P : Program} {w : World} {ops : Array Oper} {rest : List Oper} {o : Oper} {a : Act} {Q : Exit → Act → World → Prop} (hgd : o.guard = none) (x y z : Operand) {t k e : TypeId} (ho : o.op = .mapUpdate t x y z)
    {r clk : Nat} {es : Array MapEntry} {U : List (List UInt8)} (s : List UInt8) (ht : P.underlying t = some (.map k e)) (hk : P.underlying k = some .string) (hb : w.heap[r]? = some (.map es clk)) (he : EntS es U)
    (hx : a.eval x = .map (some r)) (hy : a.eval y = .string (S8 s)) (hz : a.eval z = .bool true)
    (h : ∀ w', Kept (fun b => b = r) w w' → (∃ es' clk', w'.heap[r]? = some (.map es' clk') ∧ EntS es' (putK U s)) → wpList P ops Q rest (a.put o.dst undef) w') : wpList P ops Q (o :: rest) a w :=
  wpList_plain hgd fun _ hK => by
    obtain ⟨es', clk', hrun, he'⟩ := supd (P := P) (w := w) ht hk hb he s
    unfold Oper.wp execOp
    simp only [ho, hx, hy, hz, Sem.run_bind, hrun, Result.andThen_ok, Sem.run_pure]
    exact hK _ _ (h _ (kept_setBlock8 w r _) ⟨es', clk', setBlock_at8 hb, he'⟩)
theorem dft_len (h : Int) (lf : List UInt8) : (findR h lf).1.dft.length ≤ 20 := by
  unfold findR
  cases e : TAB.find? (isR h lf) with
  | none => decide
  | some r =>
    have hm := List.mem_of_find?_eq_some e
    have : ∀ r ∈ TAB, r.dft.length ≤ 20 := by decide
    exact this r hm
theorem valC_len {C : List Ln} (hC : ∀ l ∈ C, LnOk l) (h : Int) (nm lf : List UInt8) : (valC C h nm lf).length ≤ 2000000 := by
  unfold valC
  split
  · split
    · rename_i x hx
      exact (hC x (List.mem_of_find?_eq_some hx)).2.2
    · have := dft_len h lf; omega
  · simp
theorem flag_len (b : Bool) (f : Ft) : (flag b f).length ≤ 1 := by unfold flag; split <;> simp
theorem KO.low {gk gm : Nat} {w w' : World} {Ao Ao' : Option Addr} {vc : Value} {U : List (List UInt8)} {F : List Ft} {co : Nat} (h : KO gk gm w Ao w' Ao') (hk : Ck w gk gm vc U F Ao co) : Below gm w w' := by
  have hlt := hk.lt
  refine h.kept.below_of (by have := blk_lt hk.blk; omega) (fun b hb => ?_)
  rcases hb with e | e | ⟨a, ha, e⟩
  · omega
  · omega
  · have := hk.block ha; omega
set_option maxRecDepth 100000 in
set_option maxHeartbeats 3200000 in
theorem iface_any (C : List Ln) (A : Option Addr) (n c : Nat) (gk gm : Nat) (U : List (List UInt8)) (F : List Ft) (Ao : Option Addr) (co : Nat) (f : List UInt8) (H : List (List UInt8)) (Aa : Option Addr) (na ca : Nat) (w0 w : World)
    (hgm : w0.heap.size = gm) (hb0 : Below w0.heap.size w0 w) (hk : Ck w gk gm (.slice A n c) U F Ao co) (hsl : Sl w0 4 (.slice A n c) (LNS C)) (hC : ∀ l ∈ C, LnOk l) (hen : Env w0)
    (hH : Sl w 1 (.slice Aa na ca) (STR H)) (hHl : H.length = na) (hna : na ≤ 1000) (hHx : ∀ x ∈ H, x.length ≤ 2000000) (hHA : ∀ a, Aa = some a → ¬ Ko gk gm Ao a.block) (hF : F.length ≤ 500) :
    Calls Tryz.prog 69 #[.pointer (some ⟨gk, 0, none⟩), .string (S8 f), .slice Aa na ca] w fun e w' => e = .returned (.tuple #[]) ∧ ∃ Ao' co', Ck w' gk gm (.slice A n c) (useK C U f) (F ++ ifaceF C H f) Ao' co' ∧ KO gk gm w Ao w' Ao' := by
  subst hgm
  have HV : Hid (∀ w' U' F' Ao' co' lf, Below w0.heap.size w0 w' → Ck w' gk w0.heap.size (.slice A n c) U' F' Ao' co' → Calls Tryz.prog 67 #[.pointer (some ⟨gk, 0, none⟩), .int .i64 2, .string (S8 f), .string (S8 lf)] w' fun e w'' => e = .returned (.string (S8 (valC C 2 f lf))) ∧ Below w'.heap.size w' w'') :=
    fun w' U' F' Ao' co' lf hb hk' => value_any C A n c gk w0.heap.size U' F' Ao' co' 2 f lf w' hk' (hsl.below hb) hC (hen.below hb)
  have HN : Hid (∀ w' U' F' Ao' co' lf, Below w0.heap.size w0 w' → Ck w' gk w0.heap.size (.slice A n c) U' F' Ao' co' → Calls Tryz.prog 101 #[.pointer (some ⟨gk, 0, none⟩), .string (S8 f), .string (S8 lf)] w' fun e w'' => e = .returned (.int .i64 (nV C f lf : Nat)) ∧ Below w'.heap.size w' w'') :=
    fun w' U' F' Ao' co' lf hb hk' => number8_any C A n c gk w0.heap.size U' F' Ao' co' f lf w' hk' (hsl.below hb) hC (hen.below hb) (valC_len hC _ _ _)
  have HCN : Hid (∀ w' ga, Below w0.heap.size w0 w' → Sl w' 1 (.slice Aa na ca) (STR H) → BoxS w' ga (vD C f) → Calls Tryz.prog 98 #[.slice Aa na ca, FnM ga] w' fun e w'' => e = .returned (.bool (H.any fun a => meetP a (vD C f))) ∧ Below w'.heap.size w' w'') :=
    fun w' ga hb hs hg => containsM_any H (vD C f) ga Aa na ca w' hs hHl hna hg hHx (valC_len hC _ _ _) (hen.below hb)
  obtain ⟨FF, hFF⟩ : ∃ z, z = F ++ ifaceF C H f := ⟨_, rfl⟩
  obtain ⟨UU, hUU⟩ : ∃ z, z = useK C U f := ⟨_, rfl⟩
  rw [← hFF, ← hUU]
  have HVA := hid (HV.out w U F Ao co wArea hb0 hk)
  rw [show valC C 2 f wArea = vA C f from rfl, show S8 wArea = (⟨#[97, 114, 101, 97]⟩ : ByteArray) from rfl] at HVA
  have HK := hid hk
  have HB0 := hid hb0
  clear hk hb0 hsl hC hen hHl hHx
  go_enter Tryz.func69, Tryz.ntmps69
  go_wp2_with fail
  refine HVA.out.mono ?_
  rintro e w1 ⟨rfl, hb1⟩
  have hk1 := HK.out.below hb1
  have hbz1 := HB0.out.trans (hb1.mono HB0.out.size)
  have HVD := hid (HV.out w1 U F Ao co wAddr hbz1 hk1)
  rw [show valC C 2 f wAddr = vD C f from rfl, show S8 wAddr = (⟨#[97, 100, 100, 114, 101, 115, 115]⟩ : ByteArray) from rfl] at HVD
  clear HVA HB0 HK
  go_wp2_with fail
  refine HVD.out.mono ?_
  rintro e w2 ⟨rfl, hb2⟩
  have hk2 := hk1.below hb2
  have hbz2 := hbz1.trans (hb2.mono hbz1.size)
  have hw2 := hb1.trans (hb2.mono hb1.size)
  clear HVD hk1 hbz1 hb1 hb2
  go_upto_region 1 with fail
  obtain ⟨hb3, hg3, hl3⟩ := box1 w2 (.cells #[.string (S8 (vD C f))] 9)
  have hk3 := hk2.below hb3
  have hbz3 := hbz2.trans (hb3.mono hbz2.size)
  have ko3 : KO gk w0.heap.size w Ao (w2.alloc (.cells #[.string (S8 (vD C f))] 9)) Ao := KO.of_below (hw2.trans (hb3.mono hw2.size))
  have hbx : BoxS (w2.alloc (.cells #[.string (S8 (vD C f))] 9)) w2.heap.size (vD C f) := hg3
  have hgaK : ¬ Ko gk w0.heap.size Ao w2.heap.size := by
    have h1 := blk_lt hk2.blk
    have h2 := hk2.lt
    rintro (e | e | ⟨a, ha, e⟩)
    · omega
    · omega
    · have := hk2.block ha; omega
  obtain ⟨ga, hga⟩ : ∃ z, z = w2.heap.size := ⟨_, rfl⟩
  rw [← hga] at hbx hgaK ⊢
  have HFL : Hid (FF = F ++ (flag (decide (vA C f ≠ [])) ⟨2, f⟩ ++ (flag (decide (vD C f ≠ [])) ⟨3, f⟩ ++ (flag (!(H.any fun a => meetP a (vD C f))) ⟨4, f⟩ ++ flag (decide (nV C f wHello < nV C f wDead)) ⟨5, f⟩)))) := hFF
  have HUS : Hid (UU = if vA C f = [] then U else putK U (vA C f)) := hUU
  clear hFF hUU
  have tA := tl_emp (vA C f)
  have tD := tl_emp (vD C f)
  have HBA : Hid (decide (vA C f ≠ []) = !decide (vA C f = [])) := by show _ = _; simp
  have HBD : Hid (decide (vD C f ≠ []) = !decide (vD C f = [])) := by show _ = _; simp
  have HBU : Hid ((if vA C f = [] then U else putK U (vA C f)) = if decide (vA C f = []) = true then U else putK U (vA C f)) := by
    show _ = _
    by_cases e : vA C f = [] <;> simp [e]
  generalize decide (vA C f = []) = bA at *
  generalize decide (vD C f = []) = bD at *
  generalize w2.alloc (.cells #[.string (S8 (vD C f))] 9) = w3 at *
  have HX := hid (And.intro hbx hgaK)
  clear hb3 hg3 hl3 hga hk2 hbz2 hw2 hbx hgaK
  -- no area
  go_wp2_with fail
  refine (must_any gk w0.heap.size _ U F Ao co (!bA) 2 f w3 hk3 (by omega)).mono ?_
  rintro e w4 ⟨rfl, A4, c4, hk4, ko4⟩
  have ko04 := ko3.trans ko4
  have hbz4 := hbz3.trans (ko4.low hk3)
  have q4 : w4.cell? ⟨ga, 0, none⟩ = some (.string (S8 (vD C f))) := by
    rw [blkCell (blk_kept HX.out.1 ko4.kept HX.out.2) 0]; rfl
  have HQ4 := hid (And.intro ko4 (And.intro ko04 (And.intro hbz4 hk4)))
  clear hk3 hbz3 ko3 ko4 ko04 hbz4 hk4
  -- no address
  go_wp2_with fail
  refine (must_any gk w0.heap.size _ U _ A4 c4 (!bD) 3 f w4 HQ4.out.2.2.2 (by rw [List.length_append]; have := flag_len (!bA) ⟨2, f⟩; omega)).mono ?_
  rintro e w5 ⟨rfl, A5, c5, hk5, ko5⟩
  obtain ⟨ko34, ko04, hbz4, hk4⟩ := HQ4.out
  have ko35 := ko34.trans ko5
  have ko05 := ko04.trans ko5
  have hbz5 := hbz4.trans (ko5.low hk4)
  have HCN5 := hid (HCN.out w5 ga hbz5 (sl_kept hH ko05.kept hHA) (blk_kept HX.out.1 ko35.kept HX.out.2))
  clear HQ4 q4 ko34 ko04 hbz4 hk4 ko35 ko5 HCN HX
  have HQ5 := hid (And.intro ko05 (And.intro hbz5 hk5))
  clear ko05 hbz5 hk5
  generalize (H.any fun a => meetP a (vD C f)) = R at *
  -- overlap
  go_wp2_with fail
  refine HCN5.out.mono ?_
  rintro e w6 ⟨rfl, hb6⟩
  obtain ⟨ko05, hbz5, hk5⟩ := HQ5.out
  have hk6 := hk5.below hb6
  have ko06 := ko05.trans (KO.of_below hb6)
  have hbz6 := hbz5.trans (hb6.mono hbz5.size)
  have HQ6 := hid (And.intro ko06 (And.intro hbz6 hk6))
  clear HCN5 HQ5 ko05 hbz5 hk5 hk6 ko06 hbz6 hb6
  go_wp2_with fail
  refine (must_any gk w0.heap.size _ U _ A5 c5 (!R) 4 f w6 HQ6.out.2.2 (by rw [List.length_append, List.length_append]; have := flag_len (!bA) ⟨2, f⟩; have := flag_len (!bD) ⟨3, f⟩; omega)).mono ?_
  rintro e w7 ⟨rfl, A7, c7, hk7, ko7⟩
  obtain ⟨ko06, hbz6, hk6⟩ := HQ6.out
  have ko07 := ko06.trans ko7
  have hbz7 := hbz6.trans (ko7.low hk6)
  have HN7 := hid (HN.out w7 _ _ _ _ wDead hbz7 hk7)
  rw [show S8 wDead = (⟨#[100, 101, 97, 100]⟩ : ByteArray) from rfl] at HN7
  have HQ7 := hid (And.intro ko07 (And.intro hbz7 hk7))
  clear HQ6 ko06 hbz6 hk6 ko07 ko7 hbz7 hk7
  -- dead and hello
  go_wp2_with fail
  refine HN7.out.mono ?_
  rintro e w8 ⟨rfl, hb8⟩
  obtain ⟨ko07, hbz7, hk7⟩ := HQ7.out
  have hk8 := hk7.below hb8
  have ko08 := ko07.trans (KO.of_below hb8)
  have hbz8 := hbz7.trans (hb8.mono hbz7.size)
  have HN8 := hid (HN.out w8 _ _ _ _ wHello hbz8 hk8)
  rw [show S8 wHello = (⟨#[104, 101, 108, 108, 111]⟩ : ByteArray) from rfl] at HN8
  have HQ8 := hid (And.intro ko08 (And.intro hbz8 hk8))
  clear HN7 HQ7 ko07 hbz7 hk7 hk8 ko08 hbz8 hb8
  go_wp2_with fail
  refine HN8.out.mono ?_
  rintro e w9 ⟨rfl, hb9⟩
  obtain ⟨ko08, hbz8, hk8⟩ := HQ8.out
  have hk9 := hk8.below hb9
  have ko09 := ko08.trans (KO.of_below hb9)
  have hbz9 := hbz8.trans (hb9.mono hbz8.size)
  have HQ9 := hid (And.intro ko09 (And.intro hbz9 hk9))
  clear HN8 HQ8 ko08 hbz8 hk8 hk9 ko09 hbz9 hb9
  generalize nV C f wHello = nh at *
  generalize nV C f wDead = nd at *
  go_wp2_with fail
  refine (must_any gk w0.heap.size _ U _ A7 c7 (decide (nh < nd)) 5 f w9 HQ9.out.2.2 (by simp only [List.length_append]; have := flag_len (!bA) ⟨2, f⟩; have := flag_len (!bD) ⟨3, f⟩; have := flag_len (!R) ⟨4, f⟩; omega)).mono ?_
  rintro e wa ⟨rfl, Aa', ca', hka, koa⟩
  obtain ⟨ko09, hbz9, hk9⟩ := HQ9.out
  have ko0a := ko09.trans koa
  have hka' : Ck wa gk w0.heap.size (.slice A n c) U FF Aa' ca' := by
    rw [HFL.out, HBA.out, HBD.out]
    simpa only [List.append_assoc] using hka
  have HUS2 : Hid (UU = if bA = true then U else putK U (vA C f)) := HUS.out.trans HBU.out
  have HQa := hid (And.intro ko0a hka')
  clear HQ9 ko09 hbz9 hk9 ko0a koa hka hka' HFL HBA HBD HUS HBU
  cases bA with
  | true =>
    go_wp2_with fail
    go_end0
    exact ⟨rfl, Aa', ca', by rw [HUS2.out]; exact HQa.out.2, HQa.out.1⟩
  | false =>
    obtain ⟨hlt, hblk, ⟨es, clk, hm, he⟩, hown⟩ := HQa.out.2
    have q1 := blkCell hblk 1
    simp only [List.getElem?_toArray, List.getElem?_cons_zero, List.getElem?_cons_succ] at q1
    have HMB := hid (And.intro hm he)
    clear hblk hm he hown
    go_wp2_with (refine wpList_supd rfl (.tmp 46) (.tmp 47) (.const (.bool true)) rfl (vA C f) Tryz.underlying117 Tryz.underlying9 HMB.out.1 HMB.out.2 rfl rfl rfl ?_)
    intro wb hkb es2 clk2 hm2 he2
    have hset : ∃ es clk, wb.heap[w0.heap.size]? = some (.map es clk) ∧ EntS es (putK U (vA C f)) := ⟨es2, clk2, hm2, he2⟩
    have HEND : Hid (Ck wb gk w0.heap.size (.slice A n c) UU FF Aa' ca' ∧ KO gk w0.heap.size w Ao wb Aa') := by
      obtain ⟨hlt, hblk, _, hown⟩ := HQa.out.2
      have hb : Ck wb gk w0.heap.size (.slice A n c) UU FF Aa' ca' := by
        rw [HUS2.out]
        exact ⟨hlt, blk_kept hblk hkb (by omega), hset, ownsRow_kept hown hkb (fun g hg => by have := (hown.lt g hg).1; omega)⟩
      refine ⟨hb, HQa.out.1.trans ⟨hkb.wider (fun b hb => .inr (.inl hb)), fun a' ha' => .inl ⟨a', ha', rfl⟩⟩⟩
    clear HMB hkb hset q1 hm2 he2
    go_wp2_with fail
    go_end0
    exact ⟨rfl, Aa', ca', HEND.out.1, HEND.out.2⟩
end RL
end Go.Proofs.YtecfkhgocjbocaaGreatDoor
namespace Go.Proofs.YtecfkhgocjbocaaGreatDoor
set_option linter.unusedVariables false
set_option linter.unusedSimpArgs false
open Go Go.RowKit

namespace RL
open CF
set_option maxRecDepth 100000 in
set_option maxHeartbeats 400000 in
theorem ins_nil (A : Option Addr) (c : Nat) (w : World) :
    Calls Tryz.prog 125 #[.slice A 0 c, .int .i64 0, .int .i64 0, CB] w fun e w' => e = .returned (.tuple #[]) ∧ w' = w := by
  unfold CB
  go_enter Tryz.func125, Tryz.ntmps125
  go_wp2_with fail
  go_loopw [8] (fun i wr => i = .int .i64 1 ∧ wr = w) (fun _ _ => 0)
  case atStart => exact ⟨rfl, rfl⟩
  case round =>
    obtain ⟨rfl, rfl⟩ := hrel
    go_wp2_with fail
    go_end0
    exact ⟨rfl, rfl⟩
set_option maxRecDepth 100000 in
set_option maxHeartbeats 400000 in
theorem stable_nil (A : Option Addr) (c : Nat) (w : World) :
    Calls Tryz.prog 102 #[.slice A 0 c, .int .i64 0, CB] w fun e w' => e = .returned (.tuple #[]) ∧ w' = w := by
  have HI := hid (ins_nil A c w)
  unfold CB at HI ⊢
  go_enter Tryz.func102, Tryz.ntmps102
  go_wp2_with fail
  go_loopw [7, 8] (fun a b wr => a = .int .i64 0 ∧ b = .int .i64 20 ∧ wr = w) (fun _ _ _ => 0)
  case atStart => exact ⟨rfl, rfl, rfl⟩
  case round =>
    obtain ⟨rfl, rfl, rfl⟩ := hrel
    go_wp2_with fail
    refine HI.out.mono ?_
    rintro e w' ⟨rfl, rfl⟩
    go_wp2_with fail
    go_loopw [6] (fun a wr2 => a = .int .i64 20 ∧ wr2 = w') (fun _ _ => 0)
    case atStart => exact ⟨rfl, rfl⟩
    case round =>
      obtain ⟨rfl, rfl⟩ := hrel
      go_wp2_with fail
      go_end0
      exact ⟨rfl, rfl⟩
set_option maxRecDepth 100000 in
set_option maxHeartbeats 400000 in
theorem sort_nil (A : Option Addr) (c : Nat) (w : World) :
    Calls Tryz.prog 70 #[.slice A 0 c, CB] w fun e w' => e = .returned (.tuple #[]) ∧ w' = w := by
  have HI := hid (stable_nil A c w)
  unfold CB at HI ⊢
  go_enter Tryz.func70, Tryz.ntmps70
  go_wp2_with fail
  refine HI.out.mono ?_
  rintro e w' ⟨rfl, rfl⟩
  go_wp2_with fail
  go_end0
  exact ⟨rfl, rfl⟩
/-- the sort of what is one's own, nil or not -/
theorem sortAny (F : List Ft) (B : Nat) (A : Option Addr) (N c : Nat) (w : World) (h : w.ownsRow B 75 2 (.slice A N c) N (FTS F)) (hB : B ≤ w.heap.size) (hN : N ≤ 1000) :
    Calls Tryz.prog 70 #[.slice A N c, CB] w fun e w' => e = .returned (.tuple #[]) ∧ w'.ownsRow B 75 2 (.slice A N c) N (FTS (RS.sortL ltF F)) ∧ Kept (fun b => ∃ a, A = some a ∧ a.block ≤ b) w w' := by
  by_cases h0 : N = 0
  · subst h0
    have hF : F = [] := List.length_eq_zero_iff.1 (by have := (sl_fts (own_sl h)).1; omega)
    subst hF
    refine (sort_nil A c w).mono ?_
    rintro e w' ⟨rfl, rfl⟩
    exact ⟨rfl, by rw [RS.sortL_nil]; exact h, Kept.refl _ _⟩
  · obtain ⟨g, rfl, hgB, hgl⟩ := own_some h (by omega)
    have h' : w.ownsRow g 75 2 (.slice (some ⟨g, 0, none⟩) N c) N (FTS F) := by
      obtain ⟨hl, h1 | ⟨g', cap, cur, hv, hb, hx⟩⟩ := h
      · obtain ⟨h1, _⟩ := h1; cases h1
      · refine ⟨hl, .inr ⟨g', cap, cur, hv, ?_, hx⟩⟩
        injection hv with e1 e2 e3
        injection e1 with e1
        injection e1 with e1
        omega
    refine (sort_any F g g N c w h' (by omega) hN).mono ?_
    rintro e w' ⟨rfl, ho, hb⟩
    have ho2 : w'.ownsRow g 75 2 (.slice (some ⟨g, 0, none⟩) N c) N (FTS (RS.sortL ltF F)) := ho
    exact ⟨rfl, own_base ho2 hgB, ⟨hb.os, hb.tape, hb.output, hb.size, fun b _ hn => hb.block b (by
      have : ¬ g ≤ b := fun h => hn ⟨_, rfl, h⟩
      omega)⟩⟩
theorem Ck.kept {w w' : World} {S : Nat → Prop} {gk gm : Nat} {vc : Value} {U : List (List UInt8)} {F : List Ft} {Ao : Option Addr} {co : Nat} (h : Ck w gk gm vc U F Ao co) (hb : Kept S w w') (h1 : ¬ S gk) (h2 : ¬ S gm) (h3 : ∀ a, Ao = some a → ¬ S a.block) : Ck w' gk gm vc U F Ao co := by
  obtain ⟨k1, k2, ⟨es, clk, k3, k4⟩, k5⟩ := h
  refine ⟨k1, blk_kept k2 hb h1, ⟨es, clk, blk_kept k3 hb h2, k4⟩, ownsRow_kept k5 hb fun g hg => ?_⟩
  cases Ao with
  | none => cases hg
  | some a => simp [Value.ownBlock] at hg; rw [← hg]; exact h3 a rfl
/-- the length of a set -/
theorem wpList_slen {P : Program} {w : World} {ops : Array Oper} {rest : List Oper} {o : Oper} {a : Act} {Q : Exit → Act → World → Prop} (hgd : o.guard = none) (s : Operand) (t : TypeId)
    (ho : o.op = .call { callee := .builtin .len, args := #[s], argTypes := #[t] }) {r clk : Nat} {es : Array MapEntry} (ht : P.underlying t = some (.map (P.mapKeyOf t) (P.mapElemOf t))) (hb : w.heap[r]? = some (.map es clk)) (hs : a.eval s = .map (some r))
    (h : wpList P ops Q rest (a.put o.dst (goInt es.size)) w) : wpList P ops Q (o :: rest) a w :=
  wpList_plain hgd fun _ hK => by
    have hr := run_len_map (P := P) (w := w) t o.type r es clk ht hb
    unfold Oper.wp execOp
    simp only [ho, resolve, invoke, builtin, Sem.run_bind, Sem.run_pure, Result.andThen_ok, List.map_toArray, List.map_cons, List.map_nil, hs, hr]
    exact hK _ _ h
/-- a set is asked for a key -/
theorem wpList_slook {P : Program} {w : World} {ops : Array Oper} {rest : List Oper} {o : Oper} {a : Act} {Q : Exit → Act → World → Prop} (hw : Region.wanted o (yielded ops a.tmps) = true) (x y : Operand) {t k e : TypeId} (ho : o.op = .lookup t x y false)
    {r clk : Nat} {es : Array MapEntry} {U : List (List UInt8)} (s : List UInt8) (ht : P.underlying t = some (.map k e)) (hk : P.underlying k = some .string) (hz : (zeroValue e).run P w = .ok (.bool false) w) (hb : w.heap[r]? = some (.map es clk)) (he : EntS es U)
    (hx : a.eval x = .map (some r)) (hy : a.eval y = .string (S8 s))
    (h : wpList P ops Q rest (a.put o.dst (.bool (decide (s ∈ U)))) w) : wpList P ops Q (o :: rest) a w :=
  wpList_step fun K hK => by
    have hrun := slook (P := P) (w := w) ht hk hz hb he s
    simp only [hw, if_true]
    unfold Oper.wp execOp
    simp only [ho, hx, hy, Sem.run_bind, hrun, Result.andThen_ok, Sem.run_pure]
    exact hK _ _ h
theorem map_u : Tryz.prog.underlying 117 = some (.map (Tryz.prog.mapKeyOf 117) (Tryz.prog.mapElemOf 117)) := by
  simp [Program.mapKeyOf, Program.mapElemOf, Tryz.underlying117]
theorem info_bool : (Tryz.prog.info? 4).map (fun i => (i.zero, i.size, i.bytes)) = some (some (.bool false), 1, 1) := by kernel_rfl
theorem zero_bool (w : World) : (zeroValue 4).run Tryz.prog w = .ok (.bool false) w := by
  obtain ⟨i0, hi, hz0, _, _⟩ := info_parts info_bool
  unfold zeroValue typeInfo
  simp [hi, hz0]
end RL
end Go.Proofs.YtecfkhgocjbocaaGreatDoor
namespace Go.Proofs.YtecfkhgocjbocaaGreatDoor
set_option linter.unusedVariables false
set_option linter.unusedSimpArgs false
open Go Go.RowKit

namespace RL
open CF
theorem ck_built (A : Option Addr) (n c gm : Nat) : (Tryz.prog).built 119 [(0, .slice A n c), (1, .map (some gm))] = some #[.slice A n c, .map (some gm), .slice none 0 0] := by kernel_rfl
theorem mkMapS (w : World) : (Instr.makeMap 117 none).run Tryz.prog w = .ok (.map (some w.heap.size)) (w.alloc (.map #[] 0)) := by
  simp [Instr.makeMap, run_underlying Tryz.underlying117, go_sem]
theorem names_len (C : List Ln) (h : Int) : (namC C h).length ≤ C.length := by
  unfold namC
  split
  · rw [fold_raw, ← compact_fold]
    have h1 := compact_len (namRaw C h)
    have h2 := raw_len C h C.length
    rw [List.take_length] at h2
    omega
  · simp
theorem ifaces_len (C : List Ln) (k : Nat) : (ifacesF C k).length ≤ 4 * k := by
  unfold ifacesF
  induction k with
  | zero => simp
  | succ k ih =>
    rw [List.range_succ, List.flatMap_append, List.length_append]
    have : (ifaceF C (ahead C k) (nAt (faces C) k)).length ≤ 4 := by
      unfold ifaceF
      simp only [List.length_append]
      have h1 := flag_len (decide (vA C (nAt (faces C) k) ≠ [])) ⟨2, nAt (faces C) k⟩
      have h2 := flag_len (decide (vD C (nAt (faces C) k) ≠ [])) ⟨3, nAt (faces C) k⟩
      have h3 := flag_len (!((ahead C k).any fun a => meetP a (vD C (nAt (faces C) k)))) ⟨4, nAt (faces C) k⟩
      have h4 := flag_len (decide (nV C (nAt (faces C) k) wHello < nV C (nAt (faces C) k) wDead)) ⟨5, nAt (faces C) k⟩
      omega
    simp only [List.flatMap_cons, List.flatMap_nil, List.append_nil]
    omega
theorem ifaces_succ (C : List Ln) (k : Nat) : ifacesF C (k + 1) = ifacesF C k ++ ifaceF C (ahead C k) (nAt (faces C) k) := by
  unfold ifacesF
  rw [List.range_succ, List.flatMap_append]
  simp
theorem areas_len (C : List Ln) (k : Nat) : (areasF C k).length ≤ 2 * k := by
  unfold areasF
  induction k with
  | zero => simp
  | succ k ih =>
    rw [List.range_succ, List.flatMap_append, List.length_append]
    have : (areaF C (used C) (nAt (areas C) k)).length ≤ 2 := by
      unfold areaF
      simp only [List.length_append]
      have h1 := flag_len (decide (nAt (areas C) k ≠ bb) || decide (valC C 1 (nAt (areas C) k) wType = cNormal)) ⟨6, nAt (areas C) k⟩
      have h2 := flag_len (decide (nAt (areas C) k ∈ used C)) ⟨7, nAt (areas C) k⟩
      omega
    simp only [List.flatMap_cons, List.flatMap_nil, List.append_nil]
    omega
theorem areas_succ (C : List Ln) (k : Nat) : areasF C (k + 1) = areasF C k ++ areaF C (used C) (nAt (areas C) k) := by
  unfold areasF
  rw [List.range_succ, List.flatMap_append]
  simp
theorem used_succ (C : List Ln) (k : Nat) (hk : k < (faces C).length) : usedK C (k + 1) = useK C (usedK C k) (nAt (faces C) k) := by
  unfold usedK
  rw [List.take_succ_eq_append_getElem hk, List.foldl_append, nAt_get _ k hk]
  rfl
theorem ahead_succ (C : List Ln) (k : Nat) (hk : k < (faces C).length) : ahead C (k + 1) = ahead C k ++ [vD C (nAt (faces C) k)] := by
  unfold ahead
  rw [List.take_succ_eq_append_getElem hk, List.map_append, nAt_get _ k hk]
  rfl
theorem ahead_len (C : List Ln) (k : Nat) (hk : k ≤ (faces C).length) : (ahead C k).length = k := by
  unfold ahead
  rw [List.length_map, List.length_take]; omega
theorem ahead_short {C : List Ln} (hC : ∀ l ∈ C, LnOk l) (k : Nat) : ∀ x ∈ ahead C k, x.length ≤ 2000000 := by
  intro x hx
  unfold ahead at hx
  obtain ⟨f, _, rfl⟩ := List.mem_map.1 hx
  exact valC_len hC _ _ _
set_option maxRecDepth 100000 in
set_option maxHeartbeats 3200000 in
theorem Check_yes (C : List Ln) (A : Option Addr) (n c : Nat) (w : World) (hsl : Sl w 4 (.slice A n c) (LNS C)) (hC : ∀ l ∈ C, LnOk l) (hen : Env w) (hr : RightC C = true) :
    Calls Tryz.prog 36 #[.slice A n c] w fun e w' => (∃ Ao co, e = .returned (.tuple #[.slice Ao (checkC C).length co, .int .i64 0]) ∧ w'.ownsRow w.heap.size 75 2 (.slice Ao (checkC C).length co) (checkC C).length (FTS (checkC C))) ∧ Below w.heap.size w w' := by
  have hl1 := (sl_lns hsl).1
  have hn64 : n ≤ 64 := by have := ((RightC_iff C).1 hr).2.2; omega
  have HRC := hid (Right_any C A n c w hsl hC hen)
  rw [hr] at HRC
  have HSL : Hid (∀ w', Below w.heap.size w w' → Sl w' 4 (.slice A n c) (LNS C)) := fun w' hb => hsl.below hb
  have HEN : Hid (∀ w', Below w.heap.size w w' → Env w') := fun w' hb => hen.below hb
  have HC := hid hC
  have HNF : Hid ((faces C).length ≤ 64 ∧ (areas C).length ≤ 64) := ⟨by have := names_len C 2; unfold faces; omega, by have := names_len C 1; unfold areas; omega⟩
  have HCK : Hid (checkC C = RS.sortL ltF (routF C ++ (ifacesF C (faces C).length ++ (areasF C (areas C).length ++ (backF C ++ manyF C))))) := rfl
  obtain ⟨CC, hCC⟩ : ∃ z, z = checkC C := ⟨_, rfl⟩
  rw [← hCC] at HCK ⊢
  clear hsl hC hen hl1 hr hCC
  go_enter Tryz.func36, Tryz.ntmps36
  go_wp2_with fail
  refine HRC.out.mono ?_
  rintro e w1 ⟨rfl, hb1⟩
  clear HRC
  have HW1 := hid hb1.size
  have HBW1 := hid hb1
  obtain ⟨hbm, hgm, hlm⟩ := box1 w1 (.map #[] 0)
  obtain ⟨hbk, hgk, hlk⟩ := box1 (w1.alloc (.map #[] 0)) (.cells #[.slice A n c, .map (some w1.heap.size), .slice none 0 0] 119)
  have hsz : (w1.alloc (.map #[] 0)).heap.size = w1.heap.size + 1 := by simp
  have hgm2 := blk_below hgm hbk hlm
  have hblt := ck_built A n c w1.heap.size
  have hmm := mkMapS w1
  have hb2 := hbm.trans (hbk.mono hbm.size)
  rw [hsz] at hgk hlk
  have hk2 : Ck ((w1.alloc (.map #[] 0)).alloc (.cells #[.slice A n c, .map (some w1.heap.size), .slice none 0 0] 119)) (w1.heap.size + 1) w1.heap.size (.slice A n c) [] [] none 0 :=
    ⟨by omega, hgk, ⟨#[], 0, hgm2, rfl⟩, own_nilE _ _ _ _⟩
  clear hbm hgm hlm hbk hgk hgm2 hsz
  go_upto_region 4 with fail
  generalize (w1.alloc (.map #[] 0)).alloc (.cells #[.slice A n c, .map (some w1.heap.size), .slice none 0 0] 119) = w2 at *
  have hbw2 := hb1.trans (hb2.mono hb1.size)
  have HF := hid (Names_any C 2 A n c w2 (HSL.out w2 hbw2) HC.out (HEN.out w2 hbw2))
  rw [show namC C 2 = faces C from rfl] at HF
  have HQ2 := hid (And.intro hb2 (And.intro hbw2 hk2))
  obtain ⟨gk, hgk⟩ : ∃ z, z = w1.heap.size + 1 := ⟨_, rfl⟩
  rw [← hgk] at HQ2 hlk ⊢
  have HGK := hid hgk
  clear hb2 hbw2 hk2 hblt hgk hmm
  go_wp2_with fail
  refine HF.out.mono ?_
  rintro e w3 ⟨⟨Af, cf, rfl, hof⟩, hb3⟩
  obtain ⟨hb2, hbw2, hk2⟩ := HQ2.out
  have hk3 := hk2.below hb3
  have hbz3 := hb2.trans (hb3.mono hb2.size)
  have hbw3 := hbw2.trans (hb3.mono hbw2.size)
  have HID := hid (value_any C A n c gk w1.heap.size [] [] none 0 0 [] wRid w3 hk3 (HSL.out w3 hbw3) HC.out (HEN.out w3 hbw3))
  rw [show valC C 0 [] wRid = rid C from rfl, show S8 wRid = (⟨#[114, 111, 117, 116, 101, 114, 45, 105, 100]⟩ : ByteArray) from rfl, show S8 [] = (⟨#[]⟩ : ByteArray) from rfl] at HID
  have HOF := hid hof
  have HQ3 := hid (And.intro hbz3 (And.intro hbw3 hk3))
  have hgk3 : gk < w2.heap.size := hlk
  have HGK3 := hid hgk3
  clear HF HQ2 hb2 hbw2 hk2 hk3 hbz3 hbw3 hb3 hof hlk hgk3
  go_wp2_with fail
  refine HID.out.mono ?_
  rintro e w4 ⟨rfl, hb4⟩
  obtain ⟨hbz3, hbw3, hk3⟩ := HQ3.out
  have hk4 := hk3.below hb4
  have hbz4 := hbz3.trans (hb4.mono hbz3.size)
  have hbw4 := hbw3.trans (hb4.mono hbw3.size)
  have HQ4 := hid (And.intro hbz4 (And.intro hbw4 (And.intro hk4 hb4)))
  have HRF : Hid (routF C = flag (decide ((faces C).length = 0) || (decide (rid C ≠ []) && decide (rid C ≠ bb))) ⟨1, []⟩) := rfl
  have t1 := tl_emp (rid C)
  have t2 := tl_eq (rid C) bb
  rw [show (S8 bb).toList = [48, 46, 48, 46, 48, 46, 48] from Lib.toList_data _] at t2
  have hMU : Hid (∀ b : Bool, Calls Tryz.prog 68 #[.pointer (some ⟨gk, 0, none⟩), .bool b, .int .i64 1, .string ⟨#[]⟩] w4 fun e w' => e = .returned (.tuple #[]) ∧ ∃ Ao' co', Ck w' gk w1.heap.size (.slice A n c) [] ([] ++ flag b ⟨1, []⟩) Ao' co' ∧ KO gk w1.heap.size w4 none w' Ao') :=
    fun b => must_any gk w1.heap.size (.slice A n c) [] [] none 0 b 1 [] w4 hk4 (by simp)
  clear HID HQ3 hbz3 hbw3 hk3 hk4 hbz4 hbw4 hb4
  go_upto_region 6 with fail
  go_cut [] (fun wx => ∃ A' c', Ck wx gk w1.heap.size (.slice A n c) [] (routF C) A' c' ∧ KO gk w1.heap.size w4 none wx A')
  case first =>
    by_cases h0 : (faces C).length = 0
    · have e0 : (((faces C).length : Int) == 0) = true := by simp [h0]
      have HB : Hid (routF C = flag true ⟨1, []⟩) := by show _ = _; rw [HRF.out, decide_eq_true h0]; rfl
      clear h0
      go_wp2_with fail
      refine (hMU.out true).mono ?_
      rintro e wx ⟨rfl, Ax, cx, hkx, kox⟩
      go_wp2_with fail
      go_meet
      exact ⟨Ax, cx, by rw [HB.out]; exact hkx, kox⟩
    · have e0 : (((faces C).length : Int) == 0) = false := by rw [beq_eq_false_iff_ne]; omega
      have HB0 : Hid (routF C = flag (decide (rid C ≠ []) && decide (rid C ≠ bb)) ⟨1, []⟩) := by show _ = _; rw [HRF.out, decide_eq_false h0]; rfl
      clear h0
      by_cases h1 : rid C = []
      · rw [decide_eq_true h1] at t1
        have HB : Hid (routF C = flag false ⟨1, []⟩) := by show _ = _; rw [HB0.out, decide_eq_false (fun h => h h1)]; rfl
        clear h1
        go_wp2_with fail
        refine (hMU.out false).mono ?_
        rintro e wx ⟨rfl, Ax, cx, hkx, kox⟩
        go_wp2_with fail
        go_meet
        exact ⟨Ax, cx, by rw [HB.out]; exact hkx, kox⟩
      · rw [decide_eq_false h1] at t1
        by_cases h2 : rid C = bb
        · rw [decide_eq_true h2] at t2
          have HB : Hid (routF C = flag false ⟨1, []⟩) := by show _ = _; rw [HB0.out, decide_eq_false (p := rid C ≠ bb) (fun h => h h2), Bool.and_false]
          clear h1 h2
          go_wp2_with fail
          refine (hMU.out false).mono ?_
          rintro e wx ⟨rfl, Ax, cx, hkx, kox⟩
          go_wp2_with fail
          go_meet
          exact ⟨Ax, cx, by rw [HB.out]; exact hkx, kox⟩
        · rw [decide_eq_false h2] at t2
          have HB : Hid (routF C = flag true ⟨1, []⟩) := by show _ = _; rw [HB0.out, decide_eq_true h1, decide_eq_true h2]; rfl
          clear h1 h2
          go_wp2_with fail
          refine (hMU.out true).mono ?_
          rintro e wx ⟨rfl, Ax, cx, hkx, kox⟩
          go_wp2_with fail
          go_meet
          exact ⟨Ax, cx, by rw [HB.out]; exact hkx, kox⟩
  case rest =>
    obtain ⟨A5, c5, hk5, ko5⟩ := hcut
    obtain ⟨hbz4, hbw4, hk4, hb4⟩ := HQ4.out
    have hbz5 := hbz4.trans (ko5.low hk4)
    have hbw5 := hbw4.trans ((ko5.low hk4).mono HW1.out)
    have hA5 : ∀ a, A5 = some a → w4.heap.size ≤ a.block := fun a ha => by
      rcases ko5.new a ha with ⟨a0, h0, _⟩ | h
      · cases h0
      · exact h
    have hAf : ∀ ad, Af = some ad → w2.heap.size ≤ ad.block ∧ ad.block < w3.heap.size := fun ad had => by subst had; exact HOF.out.lt ad.block rfl
    have hs4 : Sl w4 1 (.slice Af (faces C).length cf) (STR (faces C)) := (own_sl HOF.out).below hb4
    have hs5 := sl_kept hs4 ko5.kept (fun ad had => by
      have h1 := hAf ad had
      have h2 := hk4.lt
      have h3 := HGK3.out
      rintro (e | e | ⟨a, ha, _⟩)
      · omega
      · omega
      · cases ha)
    have HSF : Hid (∀ wr Ao, KO gk w1.heap.size wc A5 wr Ao → Sl wr 1 (.slice Af (faces C).length cf) (STR (faces C))) := fun wr Ao ko => sl_kept hs5 ko.kept (fun ad had => by
      have h1 := hAf ad had
      have h2 := hk4.lt
      have h3 := HGK3.out
      have h4 := hb4.size
      rintro (e | e | ⟨a, ha, e⟩)
      · omega
      · omega
      · have := hA5 a ha; omega)
    have HQ5 := hid (And.intro hbz5 (And.intro hbw5 hk5))
    have h5s : w1.heap.size ≤ wc.heap.size ∧ gk < wc.heap.size := ⟨hbz5.size, blk_lt hk5.blk⟩
    have H5S := hid h5s
    generalize wc = w5 at *
    clear HQ4 hbz4 hbw4 hk4 hb4 hbz5 hbw5 hA5 hAf hs4 hs5 hk5 ko5 hMU HRF t1 t2 HOF HGK3 HGK h5s
    have HUS : Hid (∀ k < (faces C).length, usedK C (k + 1) = useK C (usedK C k) (nAt (faces C) k) ∧ ifacesF C (k + 1) = ifacesF C k ++ ifaceF C (ahead C k) (nAt (faces C) k) ∧ ahead C (k + 1) = ahead C k ++ [vD C (nAt (faces C) k)]) := fun k hk => ⟨used_succ C k hk, ifaces_succ C k, ahead_succ C k hk⟩
    have HLN : Hid (∀ k ≤ (faces C).length, (routF C ++ ifacesF C k).length ≤ 300 ∧ (ahead C k).length = k) := fun k hk => ⟨by
      have h1 := ifaces_len C k
      have h2 := flag_len (decide ((faces C).length = 0) || (decide (rid C ≠ []) && decide (rid C ≠ bb))) ⟨1, []⟩
      have h3 := HNF.out.1
      rw [List.length_append]
      have : (routF C).length ≤ 1 := h2
      omega, ahead_len C k hk⟩
    have nfl : (faces C).length ≤ 64 := HNF.out.1
    go_wp2_with fail
    go_loopw [7, 38] (fun ah i wr => ∃ (k : Nat) (Ao : Option Addr) (co : Nat) (Aa : Option Addr) (ca : Nat), k ≤ (faces C).length ∧ i = .int .i64 k ∧ ah = .slice Aa k ca ∧ Hid (Ck wr gk w1.heap.size (.slice A n c) (usedK C k) (routF C ++ ifacesF C k) Ao co) ∧ Hid (wr.ownsRow w5.heap.size 9 1 (.slice Aa k ca) k (STR (ahead C k))) ∧ Hid (KO gk w1.heap.size w5 A5 wr Ao) ∧ Hid (∀ a o, Aa = some a → Ao = some o → a.block ≠ o.block) ∧ Hid (Below w1.heap.size w1 wr) ∧ Hid (Below w.heap.size w wr)) (fun _ i _ => (faces C).length - (intOf i).toNat)
    case atStart => exact ⟨0, A5, c5, none, 0, Nat.zero_le _, rfl, rfl, by rw [show routF C ++ ifacesF C 0 = routF C by simp [ifacesF]]; exact HQ5.out.2.2, own_nilE _ _ _ _, KO.of_below (Below.refl _ _), (show ∀ a o, (none : Option Addr) = some a → _ from fun a o h => by cases h), HQ5.out.1, HQ5.out.2.1⟩
    case round =>
      obtain ⟨k, Ao, co, Aa, ca, hk, rfl, rfl, HCk, HOA, HKO, HDI, HBZ, HBW⟩ := hrel
      by_cases hlt : k < (faces C).length
      · obtain ⟨b, off, hAf, hbl, hcl⟩ := STR_cell (HSF.out wr Ao HKO.out) hlt
        subst hAf
        rw [show (faces C).getD k [] = nAt (faces C) k from rfl] at hcl
        have HNX := hid (HUS.out k hlt)
        have HL := hid (HLN.out k (by omega))
        have hAaK : ∀ a, Aa = some a → ¬ Ko gk w1.heap.size Ao a.block := fun a ha => by
          have h1 : w5.heap.size ≤ a.block := by subst ha; exact (HOA.out.lt a.block rfl).1
          have h2 := H5S.out
          have h3 := HCk.out.lt
          rintro (e | e | ⟨o, ho, e⟩)
          · omega
          · omega
          · exact HDI.out a o ha ho e.symm
        have HIF := hid (iface_any C A n c gk w1.heap.size (usedK C k) (routF C ++ ifacesF C k) Ao co (nAt (faces C) k) (ahead C k) Aa k ca w1 wr rfl HBZ.out HCk.out (HSL.out w1 HBW1.out) HC.out (HEN.out w1 HBW1.out) (own_sl HOA.out) HL.out.2 (by omega) (ahead_short HC.out k) hAaK (by have := HL.out.1; omega))
        have HVV : Hid (∀ w' A' c' U' F', Ck w' gk w1.heap.size (.slice A n c) U' F' A' c' → Below w.heap.size w w' → Calls Tryz.prog 67 #[.pointer (some ⟨gk, 0, none⟩), .int .i64 2, .string (S8 (nAt (faces C) k)), .string ⟨#[97, 100, 100, 114, 101, 115, 115]⟩] w' fun e w'' => e = .returned (.string (S8 (vD C (nAt (faces C) k)))) ∧ Below w'.heap.size w' w'') :=
          fun w' A' c' U' F' hk' hb' => value_any C A n c gk w1.heap.size U' F' A' c' 2 (nAt (faces C) k) wAddr w' hk' (HSL.out w' hb') HC.out (HEN.out w' hb')
        have HAK := hid hAaK
        generalize nAt (faces C) k = f at *
        clear hAaK HUS HLN HSF HQ5
        go_wp2_with fail
        refine HIF.out.mono ?_
        rintro e w6 ⟨rfl, A6, c6, hk6, ko6⟩
        have hbz6 := HBZ.out.trans (ko6.low HCk.out)
        have hbw6 := HBW.out.trans ((ko6.low HCk.out).mono HW1.out)
        have ho6 := ownsRow_kept HOA.out ko6.kept (fun g hg => by
          cases Aa with
          | none => cases hg
          | some a => simp [Value.ownBlock] at hg; rw [← hg]; exact HAK.out a rfl)
        have hdi6 : ∀ a o, Aa = some a → A6 = some o → a.block ≠ o.block := fun a o ha ho => by
          rcases ko6.new o ho with ⟨o1, h1, e1⟩ | h1
          · have := HDI.out a o1 ha h1; omega
          · have h2 : a.block < wr.heap.size := by subst ha; exact (HOA.out.lt a.block rfl).2
            omega
        have HVV6 := hid (HVV.out w6 A6 c6 _ _ hk6 hbw6)
        have HQ6 := hid (And.intro hbz6 (And.intro hbw6 (And.intro hk6 (And.intro (HKO.out.trans ko6) (And.intro ho6 hdi6)))))
        clear HIF HVV HBZ HBW HCk HKO HDI HOA HAK hbz6 hbw6 ho6 hdi6 hk6 ko6 hcl hbl
        go_wp2_with fail
        refine HVV6.out.mono ?_
        rintro e w7 ⟨rfl, hb7⟩
        obtain ⟨hbz6, hbw6, hk6, ko6, ho6, hdi6⟩ := HQ6.out
        obtain ⟨hb8, hg8, hl8⟩ := box1 w7 (.cells #[.string (S8 (vD C f))] 9)
        have hsl1 : Sl (w7.alloc (.cells #[.string (S8 (vD C f))] 9)) 1 (.slice (some ⟨w7.heap.size, 0, none⟩) 1 1) (STR [vD C f]) := own_sl (own_made w7 0 9 1 1 #[.string (S8 (vD C f))] (STR [vD C f]) (Nat.zero_le _) rfl rfl (by omega) (by omega))
        have h68 := hb7.trans (hb8.mono hb7.size)
        have ho8 := own_below ho6 h68
        have HQ8 := hid (And.intro (hbz6.trans (h68.mono hbz6.size)) (And.intro (hbw6.trans (h68.mono hbw6.size)) (And.intro (hk6.below h68) (And.intro (ko6.trans (KO.of_below h68)) (And.intro ho8 hdi6)))))
        have h5s8 : w5.heap.size ≤ (w7.alloc (.cells #[.string (S8 (vD C f))] 9)).heap.size := Nat.le_trans ko6.kept.size h68.size
        clear HVV6 HQ6 hbz6 hbw6 hk6 ko6 ho6 hdi6 hb7 hb8 hg8 hl8 h68
        go_wp2_with (at_builtin; refine wpList_app rfl (.tmp 46) (.tmp 50) st_strs rfl w5.heap.size rfl ho8 rfl hsl1 (STR_one _) (by simp [maxLen]; omega) (by omega) h5s8 ?_)
        intro A9 c9 w9 ho9 hg9 hn9
        have HEND : Hid (Ck w9 gk w1.heap.size (.slice A n c) (usedK C (k + 1)) (routF C ++ ifacesF C (k + 1)) A6 c6 ∧ w9.ownsRow w5.heap.size 9 1 (.slice A9 (k + 1) c9) (k + 1) (STR (ahead C (k + 1))) ∧ KO gk w1.heap.size w5 A5 w9 A6 ∧ (∀ a o, A9 = some a → A6 = some o → a.block ≠ o.block) ∧ Below w1.heap.size w1 w9 ∧ Below w.heap.size w w9) := by
          obtain ⟨hbz8, hbw8, hk8, ko8, _, hdi8⟩ := HQ8.out
          have hs5 := H5S.out
          have hown8 : ∀ g, Value.ownBlock (.slice Aa k ca) = some g → w5.heap.size ≤ g := fun g hg => (ho8.lt g hg).1
          have kS : Kept (fun b => Value.ownBlock (.slice Aa k ca) = some b) _ w9 := Kept.of_grown hg9 (fun g hg => hg)
          have hlt := hk8.lt
          have hk9 := hk8.kept kS (fun h => by have := hown8 _ h; omega) (fun h => by have := hown8 _ h; omega) (fun o ho h => by
            cases Aa with
            | none => cases h
            | some a => simp [Value.ownBlock] at h; exact hdi8 a o rfl ho h)
          refine ⟨?_, ?_, ⟨ko8.kept.then kS (fun b hb hs => absurd (hown8 b hs) (by omega)), ko8.new⟩, ?_, ?_, ?_⟩
          · rw [HNX.out.1, HNX.out.2.1, ← List.append_assoc]; exact hk9
          · rw [HNX.out.2.2, STR_append]; exact ho9
          · intro a o ha ho
            subst ha
            rcases hn9 with e | e
            · cases Aa with
              | none => cases e
              | some a1 => simp [Value.ownBlock] at e; rw [e]; exact hdi8 a1 o rfl ho
            · simp [Value.ownBlock] at e
              have := (hk8.block ho).2
              have hz : (w7.alloc (.cells #[.string (S8 (vD C f))] 9)).heap.size = w7.heap.size + 1 := by simp
              omega
          · exact hbz8.trans (kS.below_of hbz8.size (fun b hs => by have := hown8 b hs; omega))
          · exact hbw8.trans (kS.below_of hbw8.size (fun b hs => by have := hown8 b hs; have := HW1.out; omega))
        clear HQ8 ho8 hsl1 h5s8 ho9 hg9 hn9
        go_wp2_with fail
        go_light
        exact ⟨⟨k + 1, A6, c6, A9, c9, by omega, by go_num, rfl, HEND.out.1, HEND.out.2.1, HEND.out.2.2.1, HEND.out.2.2.2.1, HEND.out.2.2.2.2.1, HEND.out.2.2.2.2.2⟩, by simp [intOf]; omega⟩
      · obtain rfl : k = (faces C).length := by omega
        rw [show usedK C (faces C).length = used C from rfl] at HCk
        have HNA := hid (Names_any C 1 A n c wr (HSL.out wr HBW.out) HC.out (HEN.out wr HBW.out))
        rw [show namC C 1 = areas C from rfl] at HNA
        have nal : (areas C).length ≤ 64 := HNF.out.2
        clear HUS HSF HQ5 HOA HDI HKO H5S
        go_wp2_with fail
        refine HNA.out.mono ?_
        rintro e w10 ⟨⟨Ar, cr, rfl, hor⟩, hb10⟩
        have hk10 := HCk.out.below hb10
        have hbz10 := HBZ.out.trans (hb10.mono HBZ.out.size)
        have hbw10 := HBW.out.trans (hb10.mono HBW.out.size)
        have HSA : Hid (∀ wx Ax, KO gk w1.heap.size w10 Ao wx Ax → Sl wx 1 (.slice Ar (areas C).length cr) (STR (areas C))) := fun wx Ax ko => sl_kept (own_sl hor) ko.kept (fun ad had => by
          subst had
          have h1 := (hor.lt ad.block rfl).1
          have h2 := blk_lt HCk.out.blk
          have h3 := HCk.out.lt
          rintro (e | e | ⟨a, ha, e⟩)
          · omega
          · omega
          · have := HCk.out.block ha; omega)
        have HQ := hid (And.intro hk10 (And.intro hbz10 hbw10))
        clear HNA HCk HBZ HBW hk10 hbz10 hbw10 hb10 hor
        go_wp2_with fail
        go_loopw [56] (fun i wx => ∃ (k : Nat) (Ax : Option Addr) (cx : Nat), k ≤ (areas C).length ∧ i = .int .i64 k ∧ Hid (Ck wx gk w1.heap.size (.slice A n c) (used C) (routF C ++ (ifacesF C (faces C).length ++ areasF C k)) Ax cx) ∧ Hid (KO gk w1.heap.size w10 Ao wx Ax) ∧ Hid (Below w1.heap.size w1 wx) ∧ Hid (Below w.heap.size w wx)) (fun i _ => (areas C).length - (intOf i).toNat)
        case atStart => exact ⟨0, Ao, co, Nat.zero_le _, rfl, by rw [show areasF C 0 = [] by simp [areasF], List.append_nil]; exact HQ.out.1, KO.of_below (Below.refl _ _), HQ.out.2.1, HQ.out.2.2⟩
        case round =>
          obtain ⟨k, Ax, cx, hk, rfl, HCx, HKX, HBZ, HBW⟩ := hrel
          have HFL : Hid ((routF C ++ (ifacesF C (faces C).length ++ areasF C k)).length ≤ 500) := by
            have h1 := ifaces_len C (faces C).length
            have h2 := flag_len (decide ((faces C).length = 0) || (decide (rid C ≠ []) && decide (rid C ≠ bb))) ⟨1, []⟩
            have h3 := areas_len C k
            have h4 := HNF.out
            have : (routF C).length ≤ 1 := h2
            show _ ≤ _
            simp only [List.length_append]
            omega
          by_cases hlt : k < (areas C).length
          · obtain ⟨b, off, hAr, hbl, hcl⟩ := STR_cell (HSA.out wr Ax HKX.out) hlt
            subst hAr
            rw [show (areas C).getD k [] = nAt (areas C) k from rfl] at hcl
            have HAS : Hid (areasF C (k + 1) = areasF C k ++ areaF C (used C) (nAt (areas C) k)) := areas_succ C k
            have HAF : Hid (areaF C (used C) (nAt (areas C) k) = flag (decide (nAt (areas C) k ≠ bb) || decide (valC C 1 (nAt (areas C) k) wType = cNormal)) ⟨6, nAt (areas C) k⟩ ++ flag (decide (nAt (areas C) k ∈ used C)) ⟨7, nAt (areas C) k⟩) := rfl
            have HVV := hid (value_any C A n c gk w1.heap.size (used C) _ Ax cx 1 (nAt (areas C) k) wType wr HCx.out (HSL.out wr HBW.out) HC.out (HEN.out wr HBW.out))
            rw [show S8 wType = (⟨#[116, 121, 112, 101]⟩ : ByteArray) from rfl] at HVV
            have HM6 : Hid (∀ (b : Bool) w', Ck w' gk w1.heap.size (.slice A n c) (used C) (routF C ++ (ifacesF C (faces C).length ++ areasF C k)) Ax cx → Calls Tryz.prog 68 #[.pointer (some ⟨gk, 0, none⟩), .bool b, .int .i64 6, .string (S8 (nAt (areas C) k))] w' fun e w'' => e = .returned (.tuple #[]) ∧ ∃ Ao' co', Ck w'' gk w1.heap.size (.slice A n c) (used C) ((routF C ++ (ifacesF C (faces C).length ++ areasF C k)) ++ flag b ⟨6, nAt (areas C) k⟩) Ao' co' ∧ KO gk w1.heap.size w' Ax w'' Ao') :=
              fun b w' h => must_any gk w1.heap.size (.slice A n c) (used C) _ Ax cx b 6 (nAt (areas C) k) w' h (by have := HFL.out; omega)
            generalize valC C 1 (nAt (areas C) k) wType = ty at *
            generalize nAt (areas C) k = a at *
            have t1 := tl_eq a bb
            have t2 := tl_eq ty cNormal
            rw [show (S8 bb).toList = [48, 46, 48, 46, 48, 46, 48] from Lib.toList_data _] at t1
            rw [show (S8 cNormal).toList = [110, 111, 114, 109, 97, 108] from Lib.toList_data _] at t2
            go_upto_region 17 with fail
            clear hcl hbl
            go_cut [] (fun wy => ∃ A' c', Ck wy gk w1.heap.size (.slice A n c) (used C) ((routF C ++ (ifacesF C (faces C).length ++ areasF C k)) ++ flag (decide (a ≠ bb) || decide (ty = cNormal)) ⟨6, a⟩) A' c' ∧ KO gk w1.heap.size wr Ax wy A')
            case first =>
              by_cases h1 : a = bb
              · rw [decide_eq_true h1] at t1
                have HB : Hid ((decide (a ≠ bb) || decide (ty = cNormal)) = decide (ty = cNormal)) := by show _ = _; rw [decide_eq_false (p := a ≠ bb) (fun h => h h1)]; rfl
                clear h1
                go_wp2_with fail
                refine HVV.out.mono ?_
                rintro e wv ⟨rfl, hbv⟩
                have hkv := HCx.out.below hbv
                by_cases h2 : ty = cNormal
                · rw [decide_eq_true h2] at t2
                  have HB2 : Hid ((decide (a ≠ bb) || decide (ty = cNormal)) = true) := by show _ = _; rw [HB.out]; exact decide_eq_true h2
                  clear h2
                  go_wp2_with fail
                  refine (HM6.out true wv hkv).mono ?_
                  rintro e wy ⟨rfl, Ay, cy, hky, koy⟩
                  go_wp2_with fail
                  go_meet
                  exact ⟨Ay, cy, by rw [HB2.out]; exact hky, (KO.of_below hbv).trans koy⟩
                · rw [decide_eq_false h2] at t2
                  have HB2 : Hid ((decide (a ≠ bb) || decide (ty = cNormal)) = false) := by show _ = _; rw [HB.out]; exact decide_eq_false h2
                  clear h2
                  go_wp2_with fail
                  refine (HM6.out false wv hkv).mono ?_
                  rintro e wy ⟨rfl, Ay, cy, hky, koy⟩
                  go_wp2_with fail
                  go_meet
                  exact ⟨Ay, cy, by rw [HB2.out]; exact hky, (KO.of_below hbv).trans koy⟩
              · rw [decide_eq_false h1] at t1
                have HB2 : Hid ((decide (a ≠ bb) || decide (ty = cNormal)) = true) := by show _ = _; rw [decide_eq_true (p := a ≠ bb) h1]; rfl
                clear h1
                go_wp2_with fail
                refine (HM6.out true wr HCx.out).mono ?_
                rintro e wy ⟨rfl, Ay, cy, hky, koy⟩
                go_wp2_with fail
                go_meet
                exact ⟨Ay, cy, by rw [HB2.out]; exact hky, koy⟩
            case rest =>
              obtain ⟨Ay, cy, hky, koy⟩ := hcut
              have hbzy := HBZ.out.trans (koy.low HCx.out)
              have hbwy := HBW.out.trans ((koy.low HCx.out).mono HW1.out)
              have koxy := HKX.out.trans koy
              have hFy : ((routF C ++ (ifacesF C (faces C).length ++ areasF C k)) ++ flag (decide (a ≠ bb) || decide (ty = cNormal)) ⟨6, a⟩).length ≤ 501 := by
                have := flag_len (decide (a ≠ bb) || decide (ty = cNormal)) ⟨6, a⟩
                have := HFL.out
                rw [List.length_append]; omega
              have HM7 := hid (must_any gk w1.heap.size (.slice A n c) (used C) _ Ay cy (decide (a ∈ used C)) 7 a wc hky (by omega))
              have HKK := hid hky
              obtain ⟨_, hblk, ⟨es, clk, hm, he⟩, _⟩ := hky
              have q1 := blkCell hblk 1
              simp only [List.getElem?_toArray, List.getElem?_cons_zero, List.getElem?_cons_succ] at q1
              have HMB := hid (And.intro hm he)
              have HQY := hid (And.intro hbzy (And.intro hbwy koxy))
              clear hblk hm he hbzy hbwy koxy koy HVV HM6 t1 t2 HCx HKX HBZ HBW
              go_wp2_with (refine wpList_slook (by rfl) (.tmp 75) (.tmp 76) rfl a Tryz.underlying117 Tryz.underlying9 (zero_bool _) HMB.out.1 HMB.out.2 rfl rfl ?_)
              refine HM7.out.mono ?_
              rintro e wz ⟨rfl, Az, cz, hkz, koz⟩
              have HEND : Hid (Ck wz gk w1.heap.size (.slice A n c) (used C) (routF C ++ (ifacesF C (faces C).length ++ areasF C (k + 1))) Az cz ∧ KO gk w1.heap.size w10 Ao wz Az ∧ Below w1.heap.size w1 wz ∧ Below w.heap.size w wz) := by
                refine ⟨?_, HQY.out.2.2.trans koz, HQY.out.1.trans (koz.low HKK.out), HQY.out.2.1.trans ((koz.low HKK.out).mono HW1.out)⟩
                rw [HAS.out, HAF.out]
                simpa only [List.append_assoc] using hkz
              clear HM7 HMB q1 HKK HQY hkz koz
              go_wp2_with fail
              go_light
              exact ⟨⟨k + 1, Az, cz, by omega, by go_num, HEND.out.1, HEND.out.2.1, HEND.out.2.2.1, HEND.out.2.2.2⟩, by simp [intOf]; omega⟩
          · obtain rfl : k = (areas C).length := by omega
            have HBF : Hid (backF C = flag (decide ((used C).length < 2) || decide (bb ∈ used C)) ⟨6, []⟩) := rfl
            have HMF : Hid (manyF C = flag (decide ((faces C).length ≤ 8)) ⟨8, []⟩) := rfl
            have HM6 : Hid (∀ (b : Bool), Calls Tryz.prog 68 #[.pointer (some ⟨gk, 0, none⟩), .bool b, .int .i64 6, .string ⟨#[]⟩] wr fun e w'' => e = .returned (.tuple #[]) ∧ ∃ Ao' co', Ck w'' gk w1.heap.size (.slice A n c) (used C) ((routF C ++ (ifacesF C (faces C).length ++ areasF C (areas C).length)) ++ flag b ⟨6, []⟩) Ao' co' ∧ KO gk w1.heap.size wr Ax w'' Ao') :=
              fun b => must_any gk w1.heap.size (.slice A n c) (used C) _ Ax cx b 6 [] wr HCx.out (by have := HFL.out; omega)
            obtain ⟨_, hblk, ⟨es, clk, hm, he⟩, _⟩ := HCx.out
            have q1 := blkCell hblk 1
            simp only [List.getElem?_toArray, List.getElem?_cons_zero, List.getElem?_cons_succ] at q1
            have hes := slen he
            have hml := fun ty => run_len_map (P := Tryz.prog) (w := wr) 117 ty w1.heap.size es clk map_u hm
            have HMB := hid (And.intro hm he)
            clear hblk he HSA HQ
            go_upto_region 20 with fail
            go_cut [] (fun wy => ∃ A' c', Ck wy gk w1.heap.size (.slice A n c) (used C) ((routF C ++ (ifacesF C (faces C).length ++ areasF C (areas C).length)) ++ backF C) A' c' ∧ KO gk w1.heap.size wr Ax wy A')
            case first =>
              by_cases h1 : (used C).length < 2
              · have h1' : (es.size : Int) < 2 := by omega
                have HB : Hid (backF C = flag true ⟨6, []⟩) := by show _ = _; rw [HBF.out, decide_eq_true h1]; rfl
                clear h1 hes
                go_wp2_with fail
                refine (HM6.out true).mono ?_
                rintro e wy ⟨rfl, Ay, cy, hky, koy⟩
                go_wp2_with fail
                go_meet
                exact ⟨Ay, cy, by rw [HB.out]; exact hky, koy⟩
              · have h1' : ¬ (es.size : Int) < 2 := by omega
                have HB : Hid (backF C = flag (decide (bb ∈ used C)) ⟨6, []⟩) := by show _ = _; rw [HBF.out, decide_eq_false h1]; rfl
                clear h1 hes
                go_wp2_with (refine wpList_slook (by rfl) (.tmp 92) (.const (.string ⟨#[48, 46, 48, 46, 48, 46, 48]⟩)) rfl bb Tryz.underlying117 Tryz.underlying9 (zero_bool _) HMB.out.1 HMB.out.2 rfl rfl ?_)
                refine (HM6.out (decide (bb ∈ used C))).mono ?_
                rintro e wy ⟨rfl, Ay, cy, hky, koy⟩
                go_wp2_with fail
                go_meet
                exact ⟨Ay, cy, by rw [HB.out]; exact hky, koy⟩
            case rest =>
              obtain ⟨Ay, cy, hky, koy⟩ := hcut
              have hbwy := HBW.out.trans ((koy.low HCx.out).mono HW1.out)
              have hF8 : ((routF C ++ (ifacesF C (faces C).length ++ areasF C (areas C).length)) ++ backF C).length ≤ 501 := by
                have h1 := flag_len (decide ((used C).length < 2) || decide (bb ∈ used C)) ⟨6, []⟩
                have h2 := HFL.out
                have : (backF C).length ≤ 1 := h1
                rw [List.length_append]; omega
              obtain ⟨b8, hb8⟩ : ∃ z, z = decide ((faces C).length ≤ 8) := ⟨_, rfl⟩
              have HB8 := hid hb8
              have z1 : decide (((faces C).length : Int) ≤ 8) = b8 := by rw [hb8]; exact decide_eq_decide.2 (by omega)
              have z2 : decide ((faces C).length ≤ 8) = b8 := hb8.symm
              clear hb8
              have HM8 := hid (must_any gk w1.heap.size (.slice A n c) (used C) _ Ay cy b8 8 [] wc hky (by omega))
              rw [show S8 [] = (⟨#[]⟩ : ByteArray) from rfl] at HM8
              have HLO := hid (fun w' A' (ko : KO gk w1.heap.size wc Ay w' A') => ko.low hky)
              have HBY := hid hbwy
              have HF8 := hid hF8
              clear HM6 HMB hm hes hml q1 HBF HCx HKX HBZ HBW HFL hky koy hbwy hF8
              go_wp2_with fail
              refine HM8.out.mono ?_
              rintro e wz ⟨rfl, Az, cz, hkz, koz⟩
              obtain ⟨F3, hF3⟩ : ∃ z, z = ((routF C ++ (ifacesF C (faces C).length ++ areasF C (areas C).length)) ++ backF C) ++ flag b8 ⟨8, []⟩ := ⟨_, rfl⟩
              rw [← hF3] at hkz
              have hN3 : F3.length ≤ 1000 := by
                have h1 := flag_len b8 ⟨8, []⟩
                have h2 := HF8.out
                rw [hF3, List.length_append]; omega
              have HCC : Hid (CC = RS.sortL ltF F3 ∧ CC.length = F3.length) := by
                have h1 : CC = RS.sortL ltF F3 := by
                  rw [HCK.out, hF3, HB8.out, ← HMF.out]
                  simp only [List.append_assoc]
                exact ⟨h1, by rw [h1, RS.sortL_len]⟩
              have hbz := HBY.out.trans ((HLO.out wz Az koz).mono HW1.out)
              have hlz := hkz.lt
              have q2 := blkCell hkz.blk 2
              simp only [List.getElem?_toArray, List.getElem?_cons_zero, List.getElem?_cons_succ] at q2
              have HSO := hid (sortAny F3 (gk + 1) Az F3.length cz wz hkz.own (blk_lt hkz.blk) hN3)
              unfold CB at HSO
              have HKZ := hid hkz
              have HBz := hid hbz
              have HLZ := hid hlz
              clear HM8 HLO HBY HF8 hF3 hkz koz hbz hlz hN3 z1 z2
              go_wp2_with fail
              refine HSO.out.mono ?_
              rintro e wq ⟨rfl, hoq, hkq⟩
              have q3 : wq.cell? ⟨gk, 2, none⟩ = some (.slice Az F3.length cz) := by
                have := blkCell (blk_kept HKZ.out.blk hkq (fun ⟨a, ha, hle⟩ => by have := HKZ.out.block ha; omega)) 2
                simpa using this
              have HEND : Hid (wq.ownsRow w.heap.size 75 2 (.slice Az CC.length cz) CC.length (FTS CC) ∧ Below w.heap.size w wq) := by
                have h1 := HLZ.out
                have h2 := HW1.out
                refine ⟨?_, HBz.out.trans (hkq.below_of HBz.out.size (fun b ⟨a, ha, hle⟩ => by have := HKZ.out.block ha; omega))⟩
                rw [HCC.out.2, HCC.out.1]
                exact own_base hoq (by omega)
              clear HSO HKZ HBz HLZ hoq hkq q2
              go_wp2_with fail
              go_ret2
              exact ⟨⟨Az, cz, by rw [HCC.out.2]; rfl, HEND.out.1⟩, HEND.out.2⟩
end RL
end Go.Proofs.YtecfkhgocjbocaaGreatDoor
namespace Go.Proofs.YtecfkhgocjbocaaGreatDoor
set_option linter.unusedVariables false
set_option linter.unusedSimpArgs false
open Go Go.RowKit

namespace RL
open CF
set_option maxRecDepth 100000 in
set_option maxHeartbeats 400000 in
theorem Check_no (C : List Ln) (A : Option Addr) (n c : Nat) (w : World) (hsl : Sl w 4 (.slice A n c) (LNS C)) (hC : ∀ l ∈ C, LnOk l) (hen : Env w) (hr : RightC C = false) :
    Calls Tryz.prog 36 #[.slice A n c] w fun e w' => e = .returned (.tuple #[.slice none 0 0, .int .i64 1]) ∧ Below w.heap.size w w' := by
  have HRC := hid (Right_any C A n c w hsl hC hen)
  rw [hr] at HRC
  clear hsl hC hen hr
  go_enter Tryz.func36, Tryz.ntmps36
  go_wp2_with fail
  refine HRC.out.mono ?_
  rintro e w1 ⟨rfl, hb1⟩
  clear HRC
  go_wp2_with fail
  go_ret2
  exact ⟨rfl, hb1⟩
set_option maxRecDepth 100000 in
set_option maxHeartbeats 800000 in
theorem word8_any (k : Int) (w : World) : Calls Tryz.prog 78 #[.int .i64 k] w fun e w' => e = .returned (.string (S8 (wordT k))) ∧ Below w.heap.size w w' := by
  have hk : k < 0 ∨ k = 0 ∨ k = 1 ∨ k = 2 ∨ k = 3 ∨ k = 4 ∨ k = 5 ∨ k = 6 ∨ k = 7 ∨ k = 8 ∨ 9 ≤ k := by omega
  rcases hk with hk | rfl | rfl | rfl | rfl | rfl | rfl | rfl | rfl | rfl | hk
  · have HW : Hid (wordT k = [63]) := by
      show _ = _; unfold wordT
      rw [if_neg (by omega), if_neg (by omega), if_neg (by omega), if_neg (by omega), if_neg (by omega), if_neg (by omega), if_neg (by omega), if_neg (by omega)]
    go_enter Tryz.func78, Tryz.ntmps78
    go_wp2_with fail
    go_ret
    exact ⟨by first | rfl | (rw [HW.out]; rfl), (Below.refl _ _).alloc (Nat.le_refl _) _⟩
  ·
    go_enter Tryz.func78, Tryz.ntmps78
    go_wp2_with fail
    go_ret
    exact ⟨by first | rfl | (rw [HW.out]; rfl), (Below.refl _ _).alloc (Nat.le_refl _) _⟩
  ·
    go_enter Tryz.func78, Tryz.ntmps78
    go_wp2_with fail
    go_ret
    exact ⟨by first | rfl | (rw [HW.out]; rfl), (Below.refl _ _).alloc (Nat.le_refl _) _⟩
  ·
    go_enter Tryz.func78, Tryz.ntmps78
    go_wp2_with fail
    go_ret
    exact ⟨by first | rfl | (rw [HW.out]; rfl), (Below.refl _ _).alloc (Nat.le_refl _) _⟩
  ·
    go_enter Tryz.func78, Tryz.ntmps78
    go_wp2_with fail
    go_ret
    exact ⟨by first | rfl | (rw [HW.out]; rfl), (Below.refl _ _).alloc (Nat.le_refl _) _⟩
  ·
    go_enter Tryz.func78, Tryz.ntmps78
    go_wp2_with fail
    go_ret
    exact ⟨by first | rfl | (rw [HW.out]; rfl), (Below.refl _ _).alloc (Nat.le_refl _) _⟩
  ·
    go_enter Tryz.func78, Tryz.ntmps78
    go_wp2_with fail
    go_ret
    exact ⟨by first | rfl | (rw [HW.out]; rfl), (Below.refl _ _).alloc (Nat.le_refl _) _⟩
  ·
    go_enter Tryz.func78, Tryz.ntmps78
    go_wp2_with fail
    go_ret
    exact ⟨by first | rfl | (rw [HW.out]; rfl), (Below.refl _ _).alloc (Nat.le_refl _) _⟩
  ·
    go_enter Tryz.func78, Tryz.ntmps78
    go_wp2_with fail
    go_ret
    exact ⟨by first | rfl | (rw [HW.out]; rfl), (Below.refl _ _).alloc (Nat.le_refl _) _⟩
  ·
    go_enter Tryz.func78, Tryz.ntmps78
    go_wp2_with fail
    go_ret
    exact ⟨by first | rfl | (rw [HW.out]; rfl), (Below.refl _ _).alloc (Nat.le_refl _) _⟩
  · have HW : Hid (wordT k = [63]) := by
      show _ = _; unfold wordT
      rw [if_neg (by omega), if_neg (by omega), if_neg (by omega), if_neg (by omega), if_neg (by omega), if_neg (by omega), if_neg (by omega), if_neg (by omega)]
    go_enter Tryz.func78, Tryz.ntmps78
    go_wp2_with fail
    go_ret
    exact ⟨by first | rfl | (rw [HW.out]; rfl), (Below.refl _ _).alloc (Nat.le_refl _) _⟩
theorem wordT_len (k : Int) : (wordT k).length ≤ 9 := by
  unfold wordT
  repeat' split
  all_goals decide
theorem ftT_len (f : Ft) (h : f.name.length ≤ 2000000) : (ftT f).length ≤ 2000020 := by
  unfold ftT
  have := wordT_len f.kind
  rw [List.length_append, List.length_append]
  by_cases e : f.name = []
  · rw [if_pos e]; simp; omega
  · rw [if_neg e]; simp; omega
theorem textF_len (F : List Ft) (h : ∀ f ∈ F, f.name.length ≤ 2000000) : (textF F).length ≤ F.length * 2000020 := flat_len F ftT _ fun f hf => ftT_len f (h f hf)
theorem textF_succ (F : List Ft) (k : Nat) (hk : k < F.length) : textF (F.take (k + 1)) = textF (F.take k) ++ ftT (RS.nth F k) := by
  unfold textF
  rw [List.take_succ_eq_append_getElem hk, List.flatMap_append, RS.nth_get hk]
  simp
theorem iF : (Tryz.prog.info? 75).map (·.size) = some 2 := by kernel_rfl
theorem ftV_one (f : Ft) : (ftV f).all (·.oneCell') = true := by simp [ftV, Value.oneCell']
set_option maxRecDepth 100000 in
set_option maxHeartbeats 3200000 in
theorem Text8_any (F : List Ft) (A : Option Addr) (n c : Nat) (w : World) (hsl : Sl w 2 (.slice A n c) (FTS F)) (hF : ∀ f ∈ F, f.name.length ≤ 2000000) (hn : n ≤ 1000) :
    Calls Tryz.prog 41 #[.slice A n c] w fun e w' => e = .returned (.string (S8 (textF F))) ∧ Below w.heap.size w w' := by
  have hl := (sl_fts hsl).1
  have HSL : Hid (∀ w', Below w.heap.size w w' → Sl w' 2 (.slice A n c) (FTS F)) := fun w' hb => hsl.below hb
  have HS : Hid (∀ k < n, textF (F.take (k + 1)) = textF (F.take k) ++ ftT (RS.nth F k)) := fun k hk => textF_succ F k (by omega)
  have HL : Hid (∀ k, (textF (F.take k)).length ≤ 2000020000) := fun k => by
    have := textF_len (F.take k) (fun f hf => hF f (List.mem_of_mem_take hf))
    have h2 : (F.take k).length ≤ 1000 := by rw [List.length_take]; omega
    have : (F.take k).length * 2000020 ≤ 1000 * 2000020 := Nat.mul_le_mul_right _ h2
    omega
  have HN : Hid (∀ k < n, (RS.nth F k).name.length ≤ 2000000) := fun k hk => hF _ (RS.nth_mem (by omega))
  have HZ : Hid (textF (F.take n) = textF F) := by show _ = _; rw [List.take_of_length_le (by omega)]
  have hnew := isB_new w
  obtain ⟨hb2, _, hl2⟩ := box1 w (.cells #[.pointer none, .slice none 0 0] 107)
  have HW2 := hid (And.intro hnew (And.intro hb2 hl2))
  clear hsl hF hl hnew hb2 hl2
  go_enter Tryz.func41, Tryz.ntmps41
  go_upto_region 2 with fail
  generalize w.alloc (.cells #[.pointer none, .slice none 0 0] 107) = w2 at *
  obtain ⟨hnew, hb2, hl2⟩ := HW2.out
  have HSB : Hid (∀ w', Below w.heap.size w2 w' → Sl w' 2 (.slice A n c) (FTS F)) := fun w' hb => HSL.out w' (hb2.trans hb)
  have HFI : Hid (∀ w', Below w.heap.size w2 w' → Below w.heap.size w w') := fun w' hb => hb2.trans hb
  clear HW2 hb2 HSL
  obtain ⟨b, hb⟩ : ∃ b, b = w.heap.size := ⟨_, rfl⟩
  have HBE := hid hb
  rw [← hb] at HSB HFI hnew hl2 ⊢
  clear hb
  go_wp2_with fail
  go_loopw [8] (fun i wr => ∃ k : Nat, k ≤ n ∧ i = .int .i64 k ∧ IsB b b (textF (F.take k)) wr ∧ Below b w2 wr) (fun i _ => n - (intOf i).toNat)
  case atStart => exact ⟨0, Nat.zero_le _, rfl, hnew, Below.refl _ _⟩
  case round =>
    obtain ⟨k, hk, rfl, hib, hbl⟩ := hrel
    have hszr := hbl.size
    by_cases hlt : k < n
    · obtain ⟨bb, off, rfl, hbb, hcl⟩ := sl_ft (HSB.out wr hbl) hlt
      have HS1 := hid (HS.out k hlt)
      have hll := HL.out k
      have hfn := HN.out k hlt
      obtain ⟨hb3, hg3, hl3⟩ := box1 wr (.cells (ftV (RS.nth F k)) 75)
      have HT : Hid (ftT (RS.nth F k) = wordT (RS.nth F k).kind ++ ((if (RS.nth F k).name = [] then [] else 32 :: (RS.nth F k).name) ++ [10])) := rfl
      clear HS HZ HL HN hnew
      generalize RS.nth F k = f at *
      generalize textF (F.take k) = R at *
      go_upto_region 5 with (first | refine wpList_load_mid rfl 75 (.tmp 10) rfl bb (off + k * 2) rfl (ftC f) _ hcl Tryz.underlying75 rfl iF ?_ | refine wpList_store_last rfl 75 (.tmp 5) (.tmp 11) rfl (ftV f) rfl rfl iF rfl (ftV_one _) ?_)
      generalize wr.alloc (.cells (ftV f) 75) = w3 at *
      have HB3 := hid (isB_below hib hb3)
      have hbl3 := hbl.trans (hb3.mono (show b ≤ wr.heap.size by omega))
      have q0 : w3.cell? ⟨wr.heap.size, 0, none⟩ = some (.int .i64 f.kind) := by rw [blkCell hg3 0]; rfl
      have hsz3 := hb3.size
      have HG3 := hid hg3
      have HWD := hid (word8_any f.kind w3)
      clear hcl hg3 hib hb3 hbl
      go_wp2_with fail
      refine HWD.out.mono ?_
      rintro e w4 ⟨rfl, hb4⟩
      have HB4 := hid (isB_below HB3.out hb4)
      have hbl4 := hbl3.trans (hb4.mono (show b ≤ w3.heap.size by omega))
      have hg4 := blk_below HG3.out hb4 (blk_lt HG3.out)
      have hwl := wordT_len f.kind
      have hsz4 := hb4.size
      clear HB3 HG3 HWD q0 hbl3 hb4
      obtain ⟨gF, hgF⟩ : ∃ z, z = wr.heap.size := ⟨_, rfl⟩
      have hgb : gF ≠ b := by omega
      rw [← hgF] at hg4 ⊢
      clear hgF
      go_wp2_with fail
      refine (writeString_any b b R (wordT f.kind) w4 HB4.out (by omega) (by omega)).mono ?_
      rintro e w5 ⟨rfl, hb5, hbl5, hk5⟩
      have HB5 := hid hb5
      have hblz := hbl4.trans hbl5
      have hg5 := hk5 gF _ hg4 (by simp; omega) (fun c fz e => by injection e with _ e2 _; exact absurd e2 (by decide))
      have q1 : w5.cell? ⟨gF, 1, none⟩ = some (.string (S8 f.name)) := by rw [blkCell hg5 1]; rfl
      have t1 := tl_emp f.name
      have hsz5 := hbl5.size
      have HNL : Hid (∀ (X : List UInt8) w', X.length ≤ 3000000000 → IsB b b X w' → b ≤ w'.heap.size → Calls Tryz.prog 61 #[.pointer (some ⟨b, 0, none⟩), .string ⟨#[10]⟩] w' fun e w'' => e = .returned (.tuple #[.int .i64 (1 : Nat), .nilIface]) ∧ IsB b b (X ++ [10]) w'' ∧ Below b w' w'' ∧ KeptB b w' w'') :=
        fun X w' hx hib hb => writeString_any b b X [10] w' hib (by simp; omega) hb
      clear HB4 hbl4 hb5 hbl5 hk5 hg4 hg5
      by_cases e : f.name = []
      · rw [decide_eq_true e] at t1
        have HT2 : Hid (ftT f = wordT f.kind ++ [10]) := by show _ = _; rw [HT.out, if_pos e]; rfl
        have HC := hid (HNL.out (R ++ wordT f.kind) w5 (by rw [List.length_append]; omega) HB5.out (by omega))
        clear HT e HNL
        go_wp2_with fail
        refine HC.out.mono ?_
        rintro e w6 ⟨rfl, hb6, hbl6, -⟩
        have HB6 : Hid (IsB b b (textF (F.take (k + 1))) w6) := by
          rw [HS1.out, HT2.out, ← List.append_assoc]; exact hb6
        have hbl7 := hblz.trans hbl6
        clear HC HB5 hb6 hbl6 hblz q1 t1
        go_wp2_with fail
        go_light
        exact ⟨⟨k + 1, by omega, by go_num, HB6.out, hbl7⟩, by simp [intOf]; omega⟩
      · rw [decide_eq_false e] at t1
        obtain ⟨y, hy⟩ : ∃ z, z = [32] ++ f.name := ⟨_, rfl⟩
        have hyl : y.length ≤ 2000001 := by rw [hy, List.length_append]; simp only [List.length_cons, List.length_nil]; omega
        have a1 := fun w' : World => cat8 (w := w') [32] f.name y hy (by simp; omega)
        rw [show S8 [32] = (⟨#[32]⟩ : ByteArray) from rfl] at a1
        have HT2 : Hid (ftT f = wordT f.kind ++ (y ++ [10])) := by show _ = _; rw [HT.out, if_neg e, hy]; rfl
        have HC := hid (writeString_any b b (R ++ wordT f.kind) y w5 HB5.out (by rw [List.length_append]; omega) (by omega))
        clear HT e hy
        go_wp2_with fail
        refine HC.out.mono ?_
        rintro e w6 ⟨rfl, hb6, hbl6, -⟩
        have hs6 := hbl6.size
        have HC2 := hid (HNL.out _ w6 (by rw [List.length_append, List.length_append]; omega) hb6 (by omega))
        have hbl7 := hblz.trans hbl6
        clear HC HB5 hb6 hbl6 hblz q1 t1 a1 HNL
        go_wp2_with fail
        refine HC2.out.mono ?_
        rintro e w7 ⟨rfl, hb7, hbl8, -⟩
        have HB7 : Hid (IsB b b (textF (F.take (k + 1))) w7) := by
          rw [HS1.out, HT2.out, ← List.append_assoc, ← List.append_assoc]; exact hb7
        have hbl9 := hbl7.trans hbl8
        clear HC2 hb7 hbl8 hbl7
        go_wp2_with fail
        go_light
        exact ⟨⟨k + 1, by omega, by go_num, HB7.out, hbl9⟩, by simp [intOf]; omega⟩
    · obtain rfl : k = n := by omega
      have hll := HL.out k
      rw [HZ.out] at hib hll
      have HIB := hid hib
      clear HS HZ HL HN hib hnew
      obtain ⟨T, hT⟩ : ∃ z, z = textF F := ⟨_, rfl⟩
      rw [← hT] at HIB hll
      have HTT := hid hT
      clear hT
      go_wp2_with fail
      refine (builderString_any b b T wr HIB.out (by omega)).mono ?_
      rintro e w9 ⟨rfl, hb9⟩
      have hblz := hbl.trans hb9
      clear hb9 HIB
      go_wp2_with fail
      go_ret
      refine ⟨by rw [← HTT.out]; rfl, ?_⟩
      have := HFI.out w9 hblz
      rwa [HBE.out] at this
end RL
end Go.Proofs.YtecfkhgocjbocaaGreatDoor
namespace Go.Proofs.YtecfkhgocjbocaaGreatDoor
set_option linter.unusedVariables false
set_option linter.unusedSimpArgs false
open Go Go.RowKit

namespace RL
open CF
def WL : List (List UInt8) := [[63], [110, 111, 114, 111, 117, 116, 101, 114], [110, 111, 97, 114, 101, 97], [110, 111, 97, 100, 100, 114, 101, 115, 115], [111, 118, 101, 114, 108, 97, 112], [98, 97, 100, 100, 101, 97, 100], [98, 97, 99, 107, 98, 111, 110, 101], [117, 110, 117, 115, 101, 100], [116, 111, 111, 109, 97, 110, 121]]
theorem wl_word (k : Nat) (hk : k ≤ 8) : WL.getD k [] = wordT (k : Int) := by
  have : k = 0 ∨ k = 1 ∨ k = 2 ∨ k = 3 ∨ k = 4 ∨ k = 5 ∨ k = 6 ∨ k = 7 ∨ k = 8 := by omega
  rcases this with rfl | rfl | rfl | rfl | rfl | rfl | rfl | rfl | rfl <;> rfl
theorem word_out (k : Int) (h : k < 0 ∨ 8 < k) : wordT k = wordT 0 := by
  unfold wordT
  rw [if_neg (by omega), if_neg (by omega), if_neg (by omega), if_neg (by omega), if_neg (by omega), if_neg (by omega), if_neg (by omega), if_neg (by omega)]
  rfl
set_option maxRecDepth 100000 in
set_option maxHeartbeats 3200000 in
theorem refText8_any (F : List Ft) (A : Option Addr) (n c : Nat) (w : World) (hsl : Sl w 2 (.slice A n c) (FTS F)) (hF : ∀ f ∈ F, f.name.length ≤ 2000000) (hn : n ≤ 90) :
    Calls Tryz.prog 42 #[.slice A n c] w fun e w' => e = .returned (.string (S8 (textF F))) ∧ Below w.heap.size w w' := by
  have hl := (sl_fts hsl).1
  have HS : Hid (∀ k < n, textF (F.take (k + 1)) = textF (F.take k) ++ ftT (RS.nth F k)) := fun k hk => textF_succ F k (by omega)
  have HL : Hid (∀ k, (textF (F.take k)).length ≤ 180001800) := fun k => by
    have := textF_len (F.take k) (fun f hf => hF f (List.mem_of_mem_take hf))
    have h2 : (F.take k).length ≤ 90 := by rw [List.length_take]; omega
    have : (F.take k).length * 2000020 ≤ 90 * 2000020 := Nat.mul_le_mul_right _ h2
    omega
  have HN : Hid (∀ k < n, (RS.nth F k).name.length ≤ 2000000) := fun k hk => hF _ (RS.nth_mem (by omega))
  have HZ : Hid (textF (F.take n) = textF F) := by show _ = _; rw [List.take_of_length_le (by omega)]
  obtain ⟨hb1, hg1, hl1⟩ := box1 w (.cells (STR WL).toArray 9)
  have hs1 := hsl.below hb1
  have hwl : Sl (w.alloc (.cells (STR WL).toArray 9)) 1 (.slice (some ⟨w.heap.size, 0, none⟩) 9 9) (STR WL) := own_sl (own_made w 0 9 1 9 (STR WL).toArray (STR WL) (Nat.zero_le _) rfl rfl (by omega) (by omega))
  have HQ := hid (And.intro hb1 (And.intro hs1 hwl))
  clear hsl hF hl hb1 hg1 hl1 hs1 hwl
  go_enter Tryz.func42, Tryz.ntmps42
  go_upto_region 2 with fail
  change Code.wp _ _ _ _ (w.alloc (.cells (STR WL).toArray 9))
  obtain ⟨gw, hgw⟩ : ∃ z, z = w.heap.size := ⟨_, rfl⟩
  have HGW := hid hgw
  rw [← hgw] at HQ ⊢
  generalize w.alloc (.cells (STR WL).toArray 9) = w1 at *
  obtain ⟨hb1, hs1, hwl⟩ := HQ.out
  have HS1 := hid hs1
  have HWL := hid hwl
  have HB1 := hid hb1
  clear HQ hgw hs1 hwl hb1
  go_wp2_with fail
  go_loopw [4, 5] (fun o i wr => ∃ k : Nat, k ≤ n ∧ i = .int .i64 k ∧ o = .string (S8 (textF (F.take k))) ∧ wr = w1) (fun _ i _ => n - (intOf i).toNat)
  case atStart => exact ⟨0, Nat.zero_le _, rfl, rfl, rfl⟩
  case round =>
    obtain ⟨k, hk, rfl, rfl, rfl⟩ := hrel
    by_cases hlt : k < n
    · obtain ⟨bb, off, rfl, hbb, hcl⟩ := sl_ft HS1.out hlt
      have HS1 := hid (HS.out k hlt)
      have hll := HL.out k
      have hfn := HN.out k hlt
      have HT : Hid (ftT (RS.nth F k) = wordT (RS.nth F k).kind ++ ((if (RS.nth F k).name = [] then [] else 32 :: (RS.nth F k).name) ++ [10])) := rfl
      have q0 : wr.cell? ⟨bb, off + k * 2, none⟩ = some (.int .i64 (RS.nth F k).kind) := hcl 0 _ rfl
      have q1 : wr.cell? ⟨bb, off + k * 2 + 1, none⟩ = some (.string (S8 (RS.nth F k).name)) := hcl 1 _ rfl
      have t1 := tl_emp (RS.nth F k).name
      have hwl9 := wordT_len (RS.nth F k).kind
      clear HS HZ HL HN hcl
      generalize RS.nth F k = f at *
      generalize textF (F.take k) = R at *
      obtain ⟨y1, hy1⟩ : ∃ z, z = R ++ wordT f.kind := ⟨_, rfl⟩
      have hl1 : y1.length ≤ 200000000 := by rw [hy1, List.length_append]; omega
      have a1 := fun w' : World => cat8 (w := w') R (wordT f.kind) y1 hy1 (by omega)
      have HY1 := hid hy1
      clear hy1
      have hcw : ∀ j, j < 9 → wr.cell? ⟨gw, j, none⟩ = some (.string (S8 (WL.getD j []))) := fun j hj => by
        obtain ⟨b, o, he, _, hc⟩ := STR_cell HWL.out hj
        injection he with he
        injection he with e1 e2 _
        subst e1; subst e2
        rwa [Nat.zero_add] at hc
      by_cases h0 : f.kind < 0
      · have q2 : wr.cell? ⟨gw, 0, none⟩ = some (.string (S8 (wordT f.kind))) := by rw [word_out _ (.inl h0)]; exact hcw 0 (by omega)
        clear hcw
        by_cases e : f.name = []
        · rw [decide_eq_true e] at t1
          obtain ⟨y2, hy2⟩ : ∃ z, z = y1 ++ [10] := ⟨_, rfl⟩
          have a2 := fun w' : World => cat8 (w := w') y1 [10] y2 hy2 (by simp; omega)
          rw [show S8 [10] = (⟨#[10]⟩ : ByteArray) from rfl] at a2
          have HE : Hid (textF (F.take (k + 1)) = y2) := by
            show _ = _
            rw [HS1.out, HT.out, if_pos e, hy2, HY1.out]; simp
          clear hy2 e HT HS1 HY1
          go_wp2_with fail
          go_light
          exact ⟨⟨k + 1, by omega, by go_num, by rw [HE.out], trivial⟩, by simp [intOf]; omega⟩
        · rw [decide_eq_false e] at t1
          obtain ⟨y2, hy2⟩ : ∃ z, z = y1 ++ [32] := ⟨_, rfl⟩
          obtain ⟨y3, hy3⟩ : ∃ z, z = y2 ++ f.name := ⟨_, rfl⟩
          obtain ⟨y4, hy4⟩ : ∃ z, z = y3 ++ [10] := ⟨_, rfl⟩
          have hl2 : y2.length ≤ 200000001 := by rw [hy2, List.length_append]; simp only [List.length_cons, List.length_nil]; omega
          have hl3 : y3.length ≤ 202000001 := by rw [hy3, List.length_append]; omega
          have a2 := fun w' : World => cat8 (w := w') y1 [32] y2 hy2 (by simp; omega)
          have a3 := fun w' : World => cat8 (w := w') y2 f.name y3 hy3 (by omega)
          have a4 := fun w' : World => cat8 (w := w') y3 [10] y4 hy4 (by simp; omega)
          rw [show S8 [32] = (⟨#[32]⟩ : ByteArray) from rfl] at a2
          rw [show S8 [10] = (⟨#[10]⟩ : ByteArray) from rfl] at a4
          have HE : Hid (textF (F.take (k + 1)) = y4) := by
            show _ = _
            rw [HS1.out, HT.out, if_neg e, hy4, hy3, hy2, HY1.out]; simp
          clear hy2 hy3 hy4 e HT HS1 HY1
          go_wp2_with fail
          go_light
          exact ⟨⟨k + 1, by omega, by go_num, by rw [HE.out], trivial⟩, by simp [intOf]; omega⟩
      · by_cases h8 : 8 < f.kind
        · have q2 : wr.cell? ⟨gw, 0, none⟩ = some (.string (S8 (wordT f.kind))) := by rw [word_out _ (.inr h8)]; exact hcw 0 (by omega)
          clear hcw
          by_cases e : f.name = []
          · rw [decide_eq_true e] at t1
            obtain ⟨y2, hy2⟩ : ∃ z, z = y1 ++ [10] := ⟨_, rfl⟩
            have a2 := fun w' : World => cat8 (w := w') y1 [10] y2 hy2 (by simp; omega)
            rw [show S8 [10] = (⟨#[10]⟩ : ByteArray) from rfl] at a2
            have HE : Hid (textF (F.take (k + 1)) = y2) := by
              show _ = _
              rw [HS1.out, HT.out, if_pos e, hy2, HY1.out]; simp
            clear hy2 e HT HS1 HY1
            go_wp2_with fail
            go_light
            exact ⟨⟨k + 1, by omega, by go_num, by rw [HE.out], trivial⟩, by simp [intOf]; omega⟩
          · rw [decide_eq_false e] at t1
            obtain ⟨y2, hy2⟩ : ∃ z, z = y1 ++ [32] := ⟨_, rfl⟩
            obtain ⟨y3, hy3⟩ : ∃ z, z = y2 ++ f.name := ⟨_, rfl⟩
            obtain ⟨y4, hy4⟩ : ∃ z, z = y3 ++ [10] := ⟨_, rfl⟩
            have hl2 : y2.length ≤ 200000001 := by rw [hy2, List.length_append]; simp only [List.length_cons, List.length_nil]; omega
            have hl3 : y3.length ≤ 202000001 := by rw [hy3, List.length_append]; omega
            have a2 := fun w' : World => cat8 (w := w') y1 [32] y2 hy2 (by simp; omega)
            have a3 := fun w' : World => cat8 (w := w') y2 f.name y3 hy3 (by omega)
            have a4 := fun w' : World => cat8 (w := w') y3 [10] y4 hy4 (by simp; omega)
            rw [show S8 [32] = (⟨#[32]⟩ : ByteArray) from rfl] at a2
            rw [show S8 [10] = (⟨#[10]⟩ : ByteArray) from rfl] at a4
            have HE : Hid (textF (F.take (k + 1)) = y4) := by
              show _ = _
              rw [HS1.out, HT.out, if_neg e, hy4, hy3, hy2, HY1.out]; simp
            clear hy2 hy3 hy4 e HT HS1 HY1
            go_wp2_with fail
            go_light
            exact ⟨⟨k + 1, by omega, by go_num, by rw [HE.out], trivial⟩, by simp [intOf]; omega⟩
        · obtain ⟨kk, hkk, hk8⟩ : ∃ kk : Nat, f.kind = (kk : Int) ∧ kk ≤ 8 := ⟨f.kind.toNat, by omega, by omega⟩
          have q2 : wr.cell? ⟨gw, kk, none⟩ = some (.string (S8 (wordT f.kind))) := by rw [hkk, ← wl_word kk hk8]; exact hcw kk (by omega)
          rw [hkk] at q0
          have HKK := hid hkk
          clear hcw hkk h0 h8
          by_cases e : f.name = []
          · rw [decide_eq_true e] at t1
            obtain ⟨y2, hy2⟩ : ∃ z, z = y1 ++ [10] := ⟨_, rfl⟩
            have a2 := fun w' : World => cat8 (w := w') y1 [10] y2 hy2 (by simp; omega)
            rw [show S8 [10] = (⟨#[10]⟩ : ByteArray) from rfl] at a2
            have HE : Hid (textF (F.take (k + 1)) = y2) := by
              show _ = _
              rw [HS1.out, HT.out, if_pos e, hy2, HY1.out]; simp
            clear hy2 e HT HS1 HY1
            go_wp2_with fail
            go_light
            exact ⟨⟨k + 1, by omega, by go_num, by rw [HE.out], trivial⟩, by simp [intOf]; omega⟩
          · rw [decide_eq_false e] at t1
            obtain ⟨y2, hy2⟩ : ∃ z, z = y1 ++ [32] := ⟨_, rfl⟩
            obtain ⟨y3, hy3⟩ : ∃ z, z = y2 ++ f.name := ⟨_, rfl⟩
            obtain ⟨y4, hy4⟩ : ∃ z, z = y3 ++ [10] := ⟨_, rfl⟩
            have hl2 : y2.length ≤ 200000001 := by rw [hy2, List.length_append]; simp only [List.length_cons, List.length_nil]; omega
            have hl3 : y3.length ≤ 202000001 := by rw [hy3, List.length_append]; omega
            have a2 := fun w' : World => cat8 (w := w') y1 [32] y2 hy2 (by simp; omega)
            have a3 := fun w' : World => cat8 (w := w') y2 f.name y3 hy3 (by omega)
            have a4 := fun w' : World => cat8 (w := w') y3 [10] y4 hy4 (by simp; omega)
            rw [show S8 [32] = (⟨#[32]⟩ : ByteArray) from rfl] at a2
            rw [show S8 [10] = (⟨#[10]⟩ : ByteArray) from rfl] at a4
            have HE : Hid (textF (F.take (k + 1)) = y4) := by
              show _ = _
              rw [HS1.out, HT.out, if_neg e, hy4, hy3, hy2, HY1.out]; simp
            clear hy2 hy3 hy4 e HT HS1 HY1
            go_wp2_with fail
            go_light
            exact ⟨⟨k + 1, by omega, by go_num, by rw [HE.out], trivial⟩, by simp [intOf]; omega⟩
    · obtain rfl : k = n := by omega
      have HE := hid HZ.out
      clear HS HZ HL HN
      go_wp2_with fail
      go_ret
      exact ⟨by rw [← HE.out]; rfl, by have := HB1.out; rwa [HGW.out] at this⟩
end RL
end Go.Proofs.YtecfkhgocjbocaaGreatDoor
namespace Go.Proofs.YtecfkhgocjbocaaGreatDoor
set_option linter.unusedVariables false
set_option linter.unusedSimpArgs false
open Go Go.RowKit

namespace RL
open CF
def t0 : Ln := ⟨2, [101, 116, 104, 48], [99, 111, 115, 116], [53]⟩
theorem t0_right : RightC [t0] = true := by kernel_rfl
theorem t0_ref : textF (checkR [t0]) = [110, 111, 114, 111, 117, 116, 101, 114, 10, 110, 111, 97, 114, 101, 97, 32, 101, 116, 104, 48, 10, 110, 111, 97, 100, 100, 114, 101, 115, 115, 32, 101, 116, 104, 48, 10] := by kernel_rfl
theorem t0_text : textF (checkC [t0]) = [110, 111, 114, 111, 117, 116, 101, 114, 10, 110, 111, 97, 114, 101, 97, 32, 101, 116, 104, 48, 10, 110, 111, 97, 100, 100, 114, 101, 115, 115, 32, 101, 116, 104, 48, 10] := by
  rw [← check_eq t0_right]; exact t0_ref
theorem t0_ok : ∀ l ∈ [t0], LnOk l := fun l hl => by rw [List.mem_singleton.1 hl]; unfold LnOk t0; simp
theorem t0_built : (Tryz.prog).built 29 [(0, .int .i64 2), (1, .string ⟨#[101, 116, 104, 48]⟩), (2, .string ⟨#[99, 111, 115, 116]⟩), (3, .string ⟨#[53]⟩)] = some (lnV t0) := by kernel_rfl
theorem sl_cl {w : World} {g : Nat} {l : Ln} {T : TypeId} (h : w.heap[g]? = some (.cells (lnV l) T (0, 0))) : Sl w 4 (.slice (some ⟨g, 0, none⟩) 1 1) (LNS [l]) :=
  ⟨_, _, _, rfl, rfl, Nat.le_refl _, by decide, fun _ => ⟨g, 0, rfl, blk_lt h, fun i hi => by rw [Nat.zero_add, blkCell h i]; simp [LNS]⟩⟩
/-- names of faults are short -/
theorem names_short {C : List Ln} (hC : ∀ l ∈ C, LnOk l) (h : Int) : ∀ x ∈ namC C h, x.length ≤ 2000000 := by
  intro x hx
  obtain ⟨l, hl, _, rfl⟩ := namC_mem C h x hx
  exact (hC l hl).1
theorem checkC_names {C : List Ln} (hC : ∀ l ∈ C, LnOk l) : ∀ f ∈ checkC C, f.name.length ≤ 2000000 := by
  intro f hf
  have hf : f ∈ checkP C := (RS.sortL_perm ltF (checkP C)).mem_iff.1 hf
  unfold checkP routF backF manyF ifacesF areasF ifaceF areaF at hf
  simp only [List.mem_append, List.mem_flatMap, List.mem_range] at hf
  have hfa : ∀ i, i < (faces C).length → (nAt (faces C) i).length ≤ 2000000 := fun i hi => names_short hC 2 _ (nAt_mem _ i hi)
  have har : ∀ i, i < (areas C).length → (nAt (areas C) i).length ≤ 2000000 := fun i hi => names_short hC 1 _ (nAt_mem _ i hi)
  rcases hf with h | ⟨i, hi, h | h | h | h⟩ | ⟨i, hi, h | h⟩ | h | h
  all_goals rw [flag_kind h]
  all_goals first | exact hfa i hi | exact har i hi | (simp)
theorem checkC_len {C : List Ln} (hn : C.length ≤ 64) : (checkC C).length ≤ 1000 := by
  unfold checkC
  rw [RS.sortL_len]
  unfold checkP
  have h1 := ifaces_len C (faces C).length
  have h2 := areas_len C (areas C).length
  have h3 : (routF C).length ≤ 1 := flag_len _ _
  have h4 : (backF C).length ≤ 1 := flag_len _ _
  have h5 : (manyF C).length ≤ 1 := flag_len _ _
  have h6 := names_len C 2
  have h7 := names_len C 1
  have h8 : (faces C).length ≤ 64 := by unfold faces; omega
  have h9 : (areas C).length ≤ 64 := by unfold areas; omega
  simp only [List.length_append]
  omega
set_option maxRecDepth 100000 in
set_option maxHeartbeats 1600000 in
theorem tells8_any (w : World) (hen : Env w) : Calls Tryz.prog 38 #[] w fun e w' => e = .returned (.bool true) ∧ Below w.heap.size w w' := by
  obtain ⟨hb1, hg1, hl1⟩ := box1 w (.cells (lnV t0) 29)
  have HCH := hid (Check_yes [t0] (some ⟨w.heap.size, 0, none⟩) 1 1 _ (sl_cl hg1) t0_ok (hen.below hb1) t0_right)
  have HTX : Hid (∀ A c w', Sl w' 2 (.slice A (checkC [t0]).length c) (FTS (checkC [t0])) → Calls Tryz.prog 41 #[.slice A (checkC [t0]).length c] w' fun e w'' => e = .returned (.string ⟨#[110, 111, 114, 111, 117, 116, 101, 114, 10, 110, 111, 97, 114, 101, 97, 32, 101, 116, 104, 48, 10, 110, 111, 97, 100, 100, 114, 101, 115, 115, 32, 101, 116, 104, 48, 10]⟩) ∧ Below w'.heap.size w' w'') := fun A c w' hs => by
    have := Text8_any (checkC [t0]) A _ c w' hs (checkC_names t0_ok) (checkC_len (by simp))
    rw [t0_text] at this
    exact this
  have HBL := t0_built
  have HB1 := hid hb1
  clear hg1 hl1 hen hb1
  generalize checkC [t0] = F at *
  go_enter Tryz.func38, Tryz.ntmps38
  go_wp2_with (refine wpList_build1 rfl st_lns (.tmp 4) rfl (lnV t0) rfl rfl (by omega) (by omega) ?_)
  refine HCH.out.mono ?_
  rintro e w2 ⟨⟨A2, c2, rfl, ho2⟩, hb2⟩
  have hbw2 := HB1.out.trans (hb2.mono HB1.out.size)
  have HT2 := hid (HTX.out A2 c2 w2 (own_sl ho2))
  clear HCH HTX HB1 ho2 hb2 HBL
  go_wp2_with fail
  refine HT2.out.mono ?_
  rintro e w3 ⟨rfl, hb3⟩
  have hbw3 := hbw2.trans (hb3.mono hbw2.size)
  clear HT2 hb3 hbw2
  go_wp2_with fail
  go_ret
  exact ⟨rfl, hbw3⟩
end RL
end Go.Proofs.YtecfkhgocjbocaaGreatDoor
namespace Go.Proofs.YtecfkhgocjbocaaGreatDoor
set_option linter.unusedVariables false
set_option linter.unusedSimpArgs false
open Go Go.RowKit Go.ChangeShapes Go.WideShapes Go.Deep

namespace RL
open CF
theorem sl_nilF (w : World) : Sl w 2 (.slice none 0 0) (FTS []) := ⟨none, 0, 0, rfl, rfl, by omega, by decide, fun h => by omega⟩
section
variable {H : Type} {enc : TypeId × Value → H} {w : World} {base : Nat} {held : Bool}
theorem open_faults {P : Program} {r : Reach} {b0 : Nat} {t e : TypeId} {f0 f1 : Field} {v : Value} {d : DataW H} {p : List MemPlace} (ht : P.underlying t = some (.slice e)) (he : P.underlying e = some (.struct #[f0, f1]))
    (hone : oneCellFields P #[f0, f1] = true) (hC : P.cellsOf e = 2) (u0 : P.underlying f0.type = some (.int .i64)) (u1 : P.underlying f1.type = some .string)
    (hv : Value.okWide P w r b0 t v) (h : DataW.Trod enc P w base (fun _ => true) held t v d p) (hk : Rows.uptoBulk d ≤ 1048576) :
    ∃ (A : Option Addr) (n c : Nat) (L : List Ft), v = .slice A n c ∧ Sl w 2 (.slice A n c) (FTS L) ∧ (∀ l ∈ L, l.name.length ≤ 2000000) ∧ (∀ l ∈ L, -9223372036854775808 ≤ l.kind ∧ l.kind ≤ 9223372036854775807) := by
  obtain ⟨a0, n0, c0, rfl⟩ := okWide_slice ht hv
  obtain ⟨fuel, hf⟩ := h
  rcases open_slice_fields ht he hone hC hf with ⟨e0, _⟩ | ⟨a, len, cap, m, D, Pl, e0, hb, hl, hm, hmm, hx, hi⟩
  · simp [Value.cells] at e0
    obtain ⟨rfl, rfl, rfl⟩ := e0
    exact ⟨none, 0, 0, [], rfl, sl_nilF w, by simp, by simp⟩
  · simp [Value.cells] at e0
    obtain ⟨rfl, rfl, rfl⟩ := e0
    simp only [if_true] at hmm
    subst hmm
    have hd : d = .slice ((List.range n0).map D) ((List.range (m - n0)).map fun j => D (n0 + j)) := by
      simp only [Prod.mk.injEq] at hx
      exact hx.1
    have hi' : ∀ i, i < n0 → ∃ (z : Int) (s1 : ByteArray), w.cell? (a.add (i * 2 + 0)) = some (.int .i64 z) ∧ w.cell? (a.add (i * 2 + 1)) = some (.string s1) ∧
        (-9223372036854775808 ≤ z ∧ z ≤ 9223372036854775807) ∧ s1.data.toList.length ≤ 2000000 := by
      intro i him
      obtain ⟨ys, n, hD, _, _, hf⟩ := hi i (by omega)
      obtain ⟨v0, y0, c0, g0, t0⟩ := hf 0 f0 rfl
      obtain ⟨v1, y1, c1, g1, t1⟩ := hf 1 f1 rfl
      obtain ⟨z0, e0, _, b0⟩ := DataW.trod_int u0 t0
      obtain ⟨s1, e1, x1, _⟩ := DataW.trod_string u1 t1
      injection e0 with e0; injection e1 with e1
      subst e0; subst e1
      have hDm : Rows.uptoBulk (D i) ≤ 1048576 := by
        have q1 : D i ∈ (List.range n0).map D := List.mem_map.2 ⟨i, List.mem_range.2 him, rfl⟩
        have q2 := bulk_part q1
        have q3 := bulk_slice ((List.range n0).map D) ((List.range (m - n0)).map fun j => D (n0 + j))
        rw [← hd] at q3
        omega
      have hone : ∀ (j : Nat) (y : DataW H × List MemPlace) (s : ByteArray), ys[j]? = some y → y = (.lit (.string s.data.toList), []) → s.data.toList.length ≤ 2000000 := by
        intro j y s hy hs
        have q1 : y.1 ∈ ys.map (·.1) := List.mem_map.2 ⟨y, List.mem_of_getElem? hy, rfl⟩
        have q2 := bulk_part q1
        have q3 := bulk_agg (ys.map (·.1))
        rw [← hD] at q3
        rw [hs] at q2
        have q4 := bulk_string (H := H) s.data.toList
        have q5 : Rows.uptoBulk (DataW.lit (H := H) (.string s.data.toList)) ≤ 1048576 := by
          have : Rows.uptoBulk (DataW.lit (H := H) (.string s.data.toList)) ≤ Rows.uptoBulkAll (ys.map (·.1)) := q2
          omega
        omega
      exact ⟨z0, s1, c0, c1, i64_bd b0, hone 1 y1 s1 g1 x1⟩
    let lk : Nat → Ft := fun i => ⟨cellInt w (a.add (i * 2 + 0)), cellStr w (a.add (i * 2 + 1))⟩
    have hlk : ∀ i, i < n0 → ((lk i).name.length ≤ 2000000 ∧ (-9223372036854775808 ≤ (lk i).kind ∧ (lk i).kind ≤ 9223372036854775807)) ∧ ∀ j, j < 2 → w.cell? (a.add (i * 2 + j)) = (ftC (lk i))[j]? := by
      intro i him
      obtain ⟨z, s1, c0, c1, bz, b1⟩ := hi' i him
      have e : lk i = ⟨z, s1.data.toList⟩ := by simp only [lk, cellInt, cellStr, c0, c1]
      rw [e]
      refine ⟨⟨b1, bz⟩, fun j hj => ?_⟩
      match j, hj with
      | 0, _ => rw [c0]; rfl
      | 1, _ => rw [c1]; rfl
    refine ⟨some a, n0, m, (List.range n0).map lk, rfl, ?_, ?_, ?_⟩
    · refine ⟨some a, n0, m, rfl, by rw [FTS_length]; simp, hl, hm, fun hn => ?_⟩
      obtain ⟨b, off, spot⟩ := a
      obtain ⟨z, _, c0, _⟩ := hi' 0 (by omega)
      have hspot : spot = none := by simpa [Addr.add] using World.cell?_spot c0
      subst hspot
      have hbl : b < w.heap.size := by
        have := World.block_lt_of_cell? w _ c0
        rw [addr_add] at this
        exact this
      refine ⟨b, off, rfl, hbl, fun i hi2 => ?_⟩
      have h1 := (hlk (i / 2) (by omega)).2 (i % 2) (by omega)
      rw [addr_add, show i / 2 * 2 + i % 2 = i by omega] at h1
      rw [h1]
      have h2 := FTS_get ((List.range n0).map lk) (i / 2) (by simp; omega) (i % 2) (by omega)
      rw [show i / 2 * 2 + i % 2 = i by omega] at h2
      rw [h2]
      congr 2
      rw [RS.nth_get (by simp; omega)]
      simp
    · intro y hy
      obtain ⟨i, hi2, rfl⟩ := List.mem_map.1 hy
      exact (hlk i (List.mem_range.1 hi2)).1.1
    · intro y hy
      obtain ⟨i, hi2, rfl⟩ := List.mem_map.1 hy
      exact (hlk i (List.mem_range.1 hi2)).1.2
end
end RL
end Go.Proofs.YtecfkhgocjbocaaGreatDoor
