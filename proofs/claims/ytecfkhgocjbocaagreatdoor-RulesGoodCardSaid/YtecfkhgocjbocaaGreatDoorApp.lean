/-
  append onto a row of bytes of the call's own: of a string; of zeros that are made.
-/
import Derived.Test.YtecfkhgocjbocaaGreatDoorBase
import Derived.Lib.AppendStr
namespace Go.Proofs.YtecfkhgocjbocaaGreatDoor
set_option linter.unusedVariables false
set_option linter.unusedSimpArgs false
open Go Go.RowKit

theorem str_cells (l : List UInt8) : Go.Lib.strCells (S8 l) = B8 l := rfl
theorem S8_len (l : List UInt8) : (S8 l).size = l.length := by show l.toArray.size = _; simp
/-- append of a string onto a row of bytes -/
theorem app_str {P : Program} (w : World) {t u e : TypeId} {i : TypeInfo} (ty : TypeId) (ht : P.underlying t = some (.slice e)) (hu : P.underlying u = some .string) (hi : P.info? e = some i) (hz : i.zero = some (.int .u8 0)) (hs1 : i.size = 1) (hby : i.bytes = 1)
    (base n c : Nat) (A : Option Addr) (xs : List Value) (hown : w.ownsRow base e 1 (.slice A n c) n xs) (s : List UInt8) (hb : n + s.length ≤ 140737488355328) (hbase : base ≤ w.heap.size) :
    ∃ A' c' w', (Builtin.append_ #[t, u] ty #[.slice A n c, .string (S8 s)]).run P w = .ok (.slice A' (n + s.length) c') w' ∧
      w'.ownsRow base e 1 (.slice A' (n + s.length) c') (n + s.length) (xs ++ B8 s) ∧ w.grownBy w' (Value.ownBlock (.slice A n c)) ∧
      (Value.ownBlock (.slice A' (n + s.length) c') = Value.ownBlock (.slice A n c) ∨ Value.ownBlock (.slice A' (n + s.length) c') = some w.heap.size) := by
  have hS := S8_len s
  obtain ⟨v', w', hr, h2, h3, h4⟩ := Go.Lib.run_append_own_string (P := P) w base t u ty e i ht hu hi hz hs1 hby (.slice A n c) n xs hown (S8 s) (by simp [maxLen]; omega) (by omega) hbase
  rw [hS, str_cells] at h2
  have hxl : xs.length = n := by simpa using hown.1
  rcases hown.2 with ⟨hv, rfl⟩ | ⟨g, cap, cur, hv, hbg, hg, hnc, hcm, hcs, htake⟩
  · injection hv with e1 e2 e3
    subst e1; subst e3
    by_cases hm : s.length = 0
    · obtain rfl := h4.2 ⟨rfl, by omega⟩
      obtain rfl : s = [] := List.eq_nil_of_length_eq_zero hm
      exact ⟨none, 0, w', hr, h2, h3, .inl rfl⟩
    · have hr2 := run_append_nil_string (P := P) w t u ty e i (.int .u8 0) ht hu hi hz (S8 s) (by omega) (by omega) (by rw [hby]; omega)
      rw [hr] at hr2
      injection hr2 with e1 e2
      subst e1
      refine ⟨_, _, w', by rw [hr, hS, Nat.zero_add], by simpa [hS] using h2, h3, .inr ?_⟩
      simp [Value.ownBlock]
  · injection hv with e1 e2 e3
    subst e1; subst e3
    by_cases hroom : n + s.length ≤ c
    · have hcs' : cur.size = c := by simpa using hcs
      have hr2 := Go.Lib.run_append_room_string (P := P) w t u ty e i ht hu hi hs1 g n c cur hg (S8 s) (by omega) (by omega)
      rw [hr] at hr2
      injection hr2 with e1 e2
      subst e1
      exact ⟨_, _, w', by rw [hr, hS], by simpa [hS] using h2, h3, .inl rfl⟩
    · have holds : ∀ j u, xs[j]? = some u → w.cell? ((⟨g, 0, none⟩ : Addr).add j) = some u := hown.cells (g := g) rfl
      have hr2 := Go.Lib.run_append_grow_string (P := P) w t u ty e i (.int .u8 0) ht hu hi hz ⟨g, 0, none⟩ n c xs (by rw [hs1]; simpa using hxl) holds (S8 s) (by omega) (by omega) (by rw [hby]; exact growslice_fits (by omega) (by omega))
      rw [hr] at hr2
      injection hr2 with e1 e2
      subst e1
      refine ⟨_, _, w', by rw [hr, hS], by simpa [hS] using h2, h3, .inr ?_⟩
      simp [Value.ownBlock]
theorem zero_cells (k : Nat) : Builtin.zeroCells (Value.int .u8 0).cells k = (B8 (List.replicate k 0)).toArray := by
  apply Array.ext'
  apply List.ext_getElem
  · simp [Builtin.zeroCells, Value.cells, B8]
  · intro i h1 h2
    simp [Builtin.zeroCells, Value.cells, B8] at h1 ⊢
    simp [Nat.mod_one]
/-- append of zeros is append of a string of zeros -/
theorem app_zeros_eq {P : Program} (w : World) {t u ti e : TypeId} {i : TypeInfo} (ty : TypeId) (ht : P.underlying t = some (.slice e)) (hu : P.underlying u = some .string) (hti : P.underlying ti = some (.int .i64)) (hi : P.info? e = some i) (hz : i.zero = some (.int .u8 0)) (hs1 : i.size = 1) (hby : i.bytes = 1)
    (n c : Nat) (A : Option Addr) (k : Nat) (hnc : n ≤ c) (olds : Array Value) (hold : (Builtin.firstCells 1 n (.slice A n c)).run P w.drew = .ok olds w.drew) (hk : n + k ≤ 140737488355328) :
    (Builtin.append_ #[t, ti] ty #[.slice A n c, .int .i64 k]).run P w = (Builtin.append_ #[t, u] ty #[.slice A n c, .string (S8 (List.replicate k 0))]).run P w := by
  have hw : IntKind.i64.wrap (k : Int) = k := by rw [IntKind.wrap_i64]; omega
  have hneg : ¬ ((k : Int) < 0) := by omega
  have h48i : ¬ (281474976710656 < (k : Int)) := by omega
  have h63' : ¬ (9223372036854775807 < ((n : Int) + (k : Int))) := by omega
  have hf : ∀ w' : World, (Builtin.firstCells 1 k (.string (S8 (List.replicate k 0)))).run P w' = .ok (B8 (List.replicate k 0)).toArray w' := by
    intro w'
    have h := Go.Lib.run_firstCells_string (P := P) w' 1 (S8 (List.replicate k 0))
    rw [S8_len, List.length_replicate, str_cells] at h
    exact h
  have hgr : c < n + k → ¬ (281474976710656 < Builtin.nextslicecap (n + k) c) := fun h => by
    have := nextslicecap_le h
    omega
  rcases Nat.eq_zero_or_pos k with rfl | h0
  · have hw0 : IntKind.i64.wrap 0 = 0 := by decide
    have := hf w
    simp [B8] at this
    rcases A with _ | ad <;> simp [Builtin.append_, run_underlying ht, run_underlying hu, run_underlying hti, sizeOf, typeInfo, zeroValue, hi, hz, asInt, asIntOf, hw0, hs1, hby, Builtin.lenOf, S8_len, hnc, B8, this]
  · have hk0 : k ≠ 0 := by omega
    by_cases hroom : n + k ≤ c
    · have := hf w
      rcases A with _ | ad <;> simp [Builtin.append_, run_underlying ht, run_underlying hu, run_underlying hti, sizeOf, typeInfo, zeroValue, hi, hz, asInt, asIntOf, hw, hs1, hby, Builtin.lenOf, S8_len, hroom, this, hneg, h48i, hk0, zero_cells]
    · have hnc2 := hgr (by omega)
      have := hf w.drew
      simp [Builtin.append_, run_underlying ht, run_underlying hu, run_underlying hti, sizeOf, typeInfo, zeroValue, hi, hz, asInt, asIntOf, hw, hs1, hby, Builtin.lenOf, S8_len, hroom, this, hneg, h48i, h63', hnc2, hk0, zero_cells, Question.forced, hold]
theorem own_first {P : Program} {w : World} {base n c : Nat} {A : Option Addr} {e : TypeId} {xs : List Value} (hown : w.ownsRow base e 1 (.slice A n c) n xs) : n ≤ c ∧ ∃ olds : Array Value, (Builtin.firstCells 1 n (.slice A n c)).run P w.drew = .ok olds w.drew := by
  have hxl : xs.length = n := by simpa using hown.1
  rcases hown.2 with ⟨hv, rfl⟩ | ⟨g, cap, cur, hv, hbg, hg, hnc, hcm, hcs, htake⟩
  · injection hv with e1 e2 e3
    subst e1; subst e3
    exact ⟨Nat.le_refl _, _, run_firstCells_none w.drew 1 0 0 0⟩
  · injection hv with e1 e2 e3
    subst e1; subst e3
    exact ⟨hnc, _, run_firstCells_some (P := P) w.drew 1 n ⟨g, 0, none⟩ n c xs (by omega) (by simpa using hown.cells (g := g) rfl)⟩
theorem app_zeros {P : Program} (w : World) {t u ti e : TypeId} {i : TypeInfo} (ty : TypeId) (ht : P.underlying t = some (.slice e)) (hu : P.underlying u = some .string) (hti : P.underlying ti = some (.int .i64)) (hi : P.info? e = some i) (hz : i.zero = some (.int .u8 0)) (hs1 : i.size = 1) (hby : i.bytes = 1)
    (base n c : Nat) (A : Option Addr) (xs : List Value) (hown : w.ownsRow base e 1 (.slice A n c) n xs) (k : Nat) (hb : n + k ≤ 140737488355328) (hbase : base ≤ w.heap.size) :
    ∃ A' c' w', (Builtin.append_ #[t, ti] ty #[.slice A n c, .int .i64 k]).run P w = .ok (.slice A' (n + k) c') w' ∧
      w'.ownsRow base e 1 (.slice A' (n + k) c') (n + k) (xs ++ B8 (List.replicate k 0)) ∧ w.grownBy w' (Value.ownBlock (.slice A n c)) ∧
      (Value.ownBlock (.slice A' (n + k) c') = Value.ownBlock (.slice A n c) ∨ Value.ownBlock (.slice A' (n + k) c') = some w.heap.size) := by
  obtain ⟨hnc, olds, hold⟩ := own_first (P := P) hown
  rw [app_zeros_eq w ty ht hu hti hi hz hs1 hby n c A k hnc olds hold hb]
  have h := app_str w ty ht hu hi hz hs1 hby base n c A xs hown (List.replicate k 0) (by simpa using hb) hbase
  simp only [List.length_replicate] at h
  exact h
/-- the two as operations of a walk -/
theorem wpList_app_str {P : Program} {w : World} {ops : Array Oper} {rest : List Oper} {o : Oper} {a : Act} {Q : Exit → Act → World → Prop} (hgd : o.guard = none) (s x : Operand)
    {t u e : TypeId} (hT : ST P t e 1 1) (hz0 : (P.info? e).map (fun i => i.zero) = some (some (.int .u8 0))) (hu : P.underlying u = some .string) (ho : o.op = .call { callee := .builtin .append, args := #[s, x], argTypes := #[t, u] })
    (base : Nat) {n c : Nat} {A : Option Addr} {xs : List Value} (hs : a.eval s = .slice A n c) (hown : w.ownsRow base e 1 (.slice A n c) n xs)
    (l : List UInt8) (hx : a.eval x = .string (S8 l)) (hby : n + l.length ≤ 140737488355328) (hbase : base ≤ w.heap.size)
    (h : ∀ A' c' w', w'.ownsRow base e 1 (.slice A' (n + l.length) c') (n + l.length) (xs ++ B8 l) → w.grownBy w' (Value.ownBlock (.slice A n c)) →
      (Value.ownBlock (.slice A' (n + l.length) c') = Value.ownBlock (.slice A n c) ∨ Value.ownBlock (.slice A' (n + l.length) c') = some w.heap.size) →
      wpList P ops Q rest (a.put o.dst (.slice A' (n + l.length) c')) w') : wpList P ops Q (o :: rest) a w := by
  obtain ⟨ht, _, i, z, hi, hz, hs1, hb1, _⟩ := hT
  have hzz : i.zero = some (.int .u8 0) := by rw [hi] at hz0; simpa using hz0
  obtain ⟨A', c', w', hrun, h2, h3, h4⟩ := app_str (P := P) w o.type ht hu hi hzz hs1 hb1 base n c A xs hown l hby hbase
  refine wpList_plain hgd fun _ hK => ?_
  unfold Oper.wp execOp
  simp only [ho, resolve, invoke, builtin, Sem.run_bind, Sem.run_pure, Result.andThen_ok, List.map_toArray, List.map_cons, List.map_nil, hs, hx, hrun]
  exact hK _ _ (h A' c' w' h2 h3 h4)
theorem wpList_app_zeros {P : Program} {w : World} {ops : Array Oper} {rest : List Oper} {o : Oper} {a : Act} {Q : Exit → Act → World → Prop} (hgd : o.guard = none) (s x : Operand)
    {t u ti e : TypeId} (hT : ST P t e 1 1) (hz0 : (P.info? e).map (fun i => i.zero) = some (some (.int .u8 0))) (hu : P.underlying u = some .string) (hti : P.underlying ti = some (.int .i64)) (ho : o.op = .call { callee := .builtin .append, args := #[s, x], argTypes := #[t, ti] })
    (base : Nat) {n c : Nat} {A : Option Addr} {xs : List Value} (hs : a.eval s = .slice A n c) (hown : w.ownsRow base e 1 (.slice A n c) n xs)
    (k : Nat) (hx : a.eval x = .int .i64 k) (hby : n + k ≤ 140737488355328) (hbase : base ≤ w.heap.size)
    (h : ∀ A' c' w', w'.ownsRow base e 1 (.slice A' (n + k) c') (n + k) (xs ++ B8 (List.replicate k 0)) → w.grownBy w' (Value.ownBlock (.slice A n c)) →
      (Value.ownBlock (.slice A' (n + k) c') = Value.ownBlock (.slice A n c) ∨ Value.ownBlock (.slice A' (n + k) c') = some w.heap.size) →
      wpList P ops Q rest (a.put o.dst (.slice A' (n + k) c')) w') : wpList P ops Q (o :: rest) a w := by
  obtain ⟨ht, _, i, z, hi, hz, hs1, hb1, _⟩ := hT
  have hzz : i.zero = some (.int .u8 0) := by rw [hi] at hz0; simpa using hz0
  obtain ⟨A', c', w', hrun, h2, h3, h4⟩ := app_zeros (P := P) w o.type ht hu hti hi hzz hs1 hb1 base n c A xs hown k hby hbase
  refine wpList_plain hgd fun _ hK => ?_
  unfold Oper.wp execOp
  simp only [ho, resolve, invoke, builtin, Sem.run_bind, Sem.run_pure, Result.andThen_ok, List.map_toArray, List.map_cons, List.map_nil, hs, hx, hrun]
  exact hK _ _ (h A' c' w' h2 h3 h4)
end Go.Proofs.YtecfkhgocjbocaaGreatDoor
