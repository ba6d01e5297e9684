/-
  Words of our own for memory: a slice that reads as a list; small lemmas that all walks of this seat use.
-/
import Derived.WalkKit
import Derived.Below
import Derived.Deep.Light
import Derived.Deep.QuietTactic
import Derived.BigQuiet
import Derived.RegionTactic
import Derived.ChangeAlike
import Derived.Deep.LoopGhost
import Derived.Deep.RegionWith
import Derived.WalkSpells
import Derived.WalkLawsBesides
import Derived.Outline
import Derived.Maps.AppendAt
import Derived.Deep.RegionHeld3
import Derived.Deep.DeepCutAuto
import Derived.Lib.MinMax
import Derived.Laws.IdiomStrings
import Derived.Laws.BytesArg
import Derived.Deep.AppendLies
namespace Go.Proofs.YtecfkhgocjbocaaGreatDoor
set_option linter.unusedVariables false
set_option linter.unusedSimpArgs false
open Go.RowKit

theorem hid {p : Prop} (h : p) : Hid p := h

/-- The slice value v reads as the cells xs, 'size' cells an element. -/
def Sl (w : World) (size : Nat) (v : Value) (xs : List Value) : Prop :=
  ∃ A n c, v = .slice A n c ∧ xs.length = n * size ∧ n ≤ c ∧ c ≤ maxLen ∧
    (0 < n → ∃ b off, A = some ⟨b, off, none⟩ ∧ b < w.heap.size ∧ ∀ i, i < n * size → w.cell? ⟨b, off + i, none⟩ = xs[i]?)

/-- bytes as values -/
def B8 (l : List UInt8) : List Value := l.map fun c => Value.int .u8 (c.toNat : Int)

/-- the byte at a place, as a number; nought behind the end -/
def byt (l : List UInt8) (k : Nat) : Nat := (l.getD k 0).toNat
theorem byt_lt (l : List UInt8) (k : Nat) : byt l k < 256 := (l.getD k 0).toNat_lt

theorem B8_length (l : List UInt8) : (B8 l).length = l.length := by simp [B8]
theorem B8_get (l : List UInt8) (i : Nat) (h : i < l.length) : (B8 l)[i]? = some (.int .u8 (byt l i : Int)) := by
  simp [B8, byt, List.getElem?_eq_getElem h, List.getD_eq_getElem?_getD]
theorem B8_append (l r : List UInt8) : B8 (l ++ r) = B8 l ++ B8 r := by simp [B8]

theorem Sl.below {w w' : World} {size : Nat} {v : Value} {xs : List Value} (h : Sl w size v xs) (hb : Below w.heap.size w w') : Sl w' size v xs := by
  obtain ⟨A, n, c, rfl, hl, hnc, hcm, hr⟩ := h
  refine ⟨A, n, c, rfl, hl, hnc, hcm, fun hn => ?_⟩
  obtain ⟨b, off, rfl, hlt, hc⟩ := hr hn
  exact ⟨b, off, rfl, Nat.lt_of_lt_of_le hlt hb.size, fun i hi => (hb.cell (p := ⟨b, off + i, none⟩) hlt).trans (hc i hi)⟩

theorem Sl.drew {w : World} {size : Nat} {v : Value} {xs : List Value} (h : Sl w size v xs) : Sl w.drew size v xs := h

/-- bytes: what a walk wants at an index -/
theorem Sl.byte {w : World} {A : Option Addr} {n c : Nat} {l : List UInt8} (h : Sl w 1 (.slice A n c) (B8 l)) {k : Nat} (hk : k < n) :
    ∃ b off, A = some ⟨b, off, none⟩ ∧ b < w.heap.size ∧ w.cell? ⟨b, off + k, none⟩ = some (.int .u8 (byt l k : Int)) := by
  obtain ⟨A', n', c', he, hl, _, _, hr⟩ := h
  injection he with h1 h2 h3
  subst h1; subst h2; subst h3
  obtain ⟨b, off, rfl, hlt, hc⟩ := hr (by omega)
  rw [B8_length, Nat.mul_one] at hl
  exact ⟨b, off, rfl, hlt, (hc k (by omega)).trans (B8_get l k (by omega))⟩
theorem Sl.len {w : World} {A : Option Addr} {n c : Nat} {l : List UInt8} (h : Sl w 1 (.slice A n c) (B8 l)) : l.length = n ∧ n ≤ c ∧ c ≤ 9223372036854775807 := by
  obtain ⟨A', n', c', he, hl, h2, h3, hr⟩ := h
  injection he with h4 h5 h6
  subst h4; subst h5; subst h6
  rw [B8_length, Nat.mul_one] at hl
  exact ⟨hl, h2, by simpa [maxLen] using h3⟩
theorem Sl.form {w : World} {size : Nat} {v : Value} {xs : List Value} (h : Sl w size v xs) : ∃ A n c, v = .slice A n c := by
  obtain ⟨A, n, c, h, _⟩ := h
  exact ⟨A, n, c, h⟩

theorem not16 (m : Nat) (h : m < 65536) : 65535 ^^^ m = 65535 - m := by
  have h1 : (BitVec.ofNat 16 65535 ^^^ BitVec.ofNat 16 m) = ~~~ (BitVec.ofNat 16 m) := by
    have : BitVec.ofNat 16 65535 = BitVec.allOnes 16 := by decide
    rw [this, BitVec.allOnes_xor]
  have h2 := congrArg BitVec.toNat h1
  simp [BitVec.toNat_not] at h2
  rw [Nat.mod_eq_of_lt h] at h2
  omega
theorem ret_int {k : IntKind} {a b : Int} (h : a = b) : Ending.returned (.int k a) = .returned (.int k b) := by rw [h]
theorem ret_bool {a b : Bool} (h : a = b) : Ending.returned (.bool a) = .returned (.bool b) := by rw [h]
theorem ret_int2 {k k' : IntKind} {a b c d : Int} (h : a = c) (h' : b = d) : Ending.returned (.tuple #[.int k a, .int k' b]) = .returned (.tuple #[.int k c, .int k' d]) := by rw [h, h']
theorem beq0 (n : Nat) : ((n : Int) == 0) = (n == 0) := by rw [Bool.eq_iff_iff]; simp
theorem tmod_cases (n m : Int) (hm : 0 < m) : (0 ≤ n ∧ n.tmod m = n % m) ∨ (n < 0 ∧ n.tmod m = -((-n) % m)) := by
  rcases Int.lt_or_le n 0 with h | h
  · right
    refine ⟨h, ?_⟩
    have h1 : (-n).tmod m = (-n) % m := Int.tmod_eq_emod_of_nonneg (by omega)
    rw [Int.neg_tmod] at h1
    omega
  · exact .inl ⟨h, Int.tmod_eq_emod_of_nonneg h⟩

/-- the row's block is a new one, or the one that was there -/
def From (w : World) (b b' : Option Nat) : Prop := b' = b ∨ ∃ g, b' = some g ∧ w.heap.size ≤ g
theorem From.refl (w : World) (b : Option Nat) : From w b b := .inl rfl
theorem From.trans {w w' : World} {a b c : Option Nat} (h : From w a b) (hs : w.heap.size ≤ w'.heap.size) (k : From w' b c) : From w a c := by
  rcases k with rfl | ⟨g, rfl, hg⟩
  · exact h
  · exact .inr ⟨g, rfl, by omega⟩
/-! ### append onto a row of the call's own -/

/-- t is the slice type of e; e's zero has 'size' cells, e takes 'bytes' bytes -/
def ST (P : Program) (t e : TypeId) (size bytes : Nat) : Prop :=
  P.underlying t = some (.slice e) ∧ 0 < size ∧ ∃ i z, P.info? e = some i ∧ i.zero = some z ∧ i.size = size ∧ i.bytes = bytes ∧ z.cells.size = size
theorem ST.mk {P : Program} {t e : TypeId} {z : Value} {size bytes : Nat} (h1 : P.underlying t = some (.slice e))
    (h2 : (P.info? e).map (fun i => (i.zero, i.size, i.bytes)) = some (some z, size, bytes)) (h3 : z.cells.size = size) (h4 : 0 < size) : ST P t e size bytes := by
  obtain ⟨i, a, b, c, d⟩ := info_parts h2
  exact ⟨h1, h4, i, z, a, b, c, d, h3⟩

theorem addr_add (b off j : Nat) : (⟨b, off, none⟩ : Addr).add j = ⟨b, off + j, none⟩ := by unfold Addr.add; split <;> simp_all

theorem own_sl {w : World} {base : Nat} {e : TypeId} {size n c : Nat} {A : Option Addr} {xs : List Value} (h : w.ownsRow base e size (.slice A n c) n xs) : Sl w size (.slice A n c) xs := by
  obtain ⟨hl, h | ⟨g, cap, cur, hv, hb, hg, hnc, hm, hsz, ht⟩⟩ := h
  · obtain ⟨h, rfl⟩ := h
    injection h with h1 h2 h3
    subst h1; subst h3
    exact ⟨none, 0, 0, rfl, hl, Nat.le_refl _, by simp [maxLen], fun h => absurd h (by omega)⟩
  · injection hv with h1 h2 h3
    subst h1; subst h3
    refine ⟨_, n, c, rfl, hl, hnc, hm, fun hn => ⟨g, 0, rfl, (Array.getElem?_eq_some_iff.1 hg).1, fun i hi => ?_⟩⟩
    rw [Nat.zero_add, cell_of_row w g i cur e (0, 0) hg, ← ht, List.getElem?_take, if_pos hi]
    simp

theorem own_nilE (w : World) (base : Nat) (e : TypeId) (size : Nat) : w.ownsRow base e size (.slice none 0 0) 0 [] := World.ownsRow_nil w base e size
/-- '[]T{}' -/
theorem own_empty (w : World) (base : Nat) (e : TypeId) (size g : Nat) (hg : g = w.heap.size) (h : base ≤ w.heap.size) : (w.alloc (.cells #[] e)).ownsRow base e size (.slice (some ⟨g, 0, none⟩) 0 0) 0 [] := by
  subst hg
  exact World.ownsRow_made w #[] 0 h (by simp [maxLen]) (by simp)

theorem append_run {P : Program} (w : World) {t e : TypeId} {size bytes : Nat} (hT : ST P t e size bytes) (ty : TypeId)
    (base n c : Nat) (A : Option Addr) (xs : List Value) (hown : w.ownsRow base e size (.slice A n c) n xs)
    (m c2 : Nat) (A2 : Option Addr) (news : List Value) (hr : Sl w size (.slice A2 m c2) news) (h1 : ∀ u ∈ news, u.oneCell' = true)
    (h63 : n + m ≤ maxLen) (hby : (n + m) * bytes ≤ 140737488355328) (hbase : base ≤ w.heap.size) :
    ∃ A' c' w', (Builtin.append_ #[t, t] ty #[.slice A n c, .slice A2 m c2]).run P w = .ok (.slice A' (n + m) c') w' ∧
      w'.ownsRow base e size (.slice A' (n + m) c') (n + m) (xs ++ news) ∧ w.grownBy w' (Value.ownBlock (.slice A n c)) ∧
      (Value.ownBlock (.slice A' (n + m) c') = Value.ownBlock (.slice A n c) ∨ Value.ownBlock (.slice A' (n + m) c') = some w.heap.size) := by
  obtain ⟨ht, hsz, i, z, hi, hz, hs, hb, hzs⟩ := hT
  obtain ⟨A2', m', c2', he, hl, _, _, hc⟩ := hr
  injection he with e1 e2 e3
  subst e1; subst e2; subst e3
  have key : ∀ (v' : Value) (w' : World), w'.ownsRow base e size v' (n + m) (xs ++ news) → v' = .slice none 0 0 ∧ n + m = 0 ∨ ∃ g cap, v' = .slice (some ⟨g, 0, none⟩) (n + m) cap := fun v' w' h => by
    rcases h.2 with h | ⟨g, cap, cur, h, _⟩
    · exact .inl h
    · exact .inr ⟨g, cap, h⟩
  rcases Nat.eq_zero_or_pos m with h0 | h0
  · subst h0
    have hn : news = [] := List.eq_nil_of_length_eq_zero (by omega)
    subst hn
    have hrun : (Builtin.append_ #[t, t] ty #[.slice A n c, .slice A2 0 c2]).run P w = .ok (.slice A n c) w := by
      rcases hown.2 with ⟨hv, rfl⟩ | ⟨g, cap, cur, hv, _, hg, hnc, _, hcs, _⟩
      · injection hv with e1 e2 e3
        subst e1; subst e3
        rcases A2 with _ | ad
        · simp [Builtin.append_, run_underlying ht, sizeOf, typeInfo, hi, Builtin.lenOf, Builtin.firstCells]
        · have hf := run_firstCells_some (P := P) w i.size 0 ad 0 c2 [] (by simp) (by simp)
          simp [Builtin.append_, run_underlying ht, sizeOf, typeInfo, hi, Builtin.lenOf, hf]
      · injection hv with e1 e2 e3
        subst e1; subst e3
        rcases A2 with _ | ad
        · simp [Builtin.append_, run_underlying ht, sizeOf, typeInfo, hi, Builtin.lenOf, Builtin.firstCells, hnc, storeCells]
        · have hf := run_firstCells_some (P := P) w i.size 0 ad 0 c2 [] (by simp) (by simp)
          simp [Builtin.append_, run_underlying ht, sizeOf, typeInfo, hi, Builtin.lenOf, hnc, hf, storeCells]
    exact ⟨A, c, w, hrun, by simpa using hown, World.grownBy.refl w _, .inl rfl⟩
  · obtain ⟨b, off, rfl, _, hcell⟩ := hc h0
    have hcells : ∀ j u, news[j]? = some u → w.cell? ((⟨b, off, none⟩ : Addr).add j) = some u := by
      intro j u hu
      have hj : j < m * size := by rw [← hl]; exact (List.getElem?_eq_some_iff.1 hu).1
      rw [addr_add, hcell j hj, hu]
    obtain ⟨v', w', hrun, h2, h3, _, h5⟩ := run_append_own_at (P := P) w base t ty e i z size bytes ht hi hz hs hb hzs hsz _ n xs hown ⟨b, off, none⟩ m c2 news hl hcells h1 h63 hby hbase
    rcases key v' w' h2 with ⟨rfl, hz0⟩ | ⟨g, cap, rfl⟩
    · omega
    · exact ⟨_, cap, w', hrun, h2, h3, h5⟩

theorem wpList_app {P : Program} {w : World} {ops : Array Oper} {rest : List Oper} {o : Oper} {a : Act} {Q : Exit → Act → World → Prop} (hgd : o.guard = none) (s x : Operand)
    {t e : TypeId} {size bytes : Nat} (hT : ST P t e size bytes) (ho : o.op = .call { callee := .builtin .append, args := #[s, x], argTypes := #[t, t] })
    (base : Nat) {n c : Nat} {A : Option Addr} {xs : List Value} (hs : a.eval s = .slice A n c) (hown : w.ownsRow base e size (.slice A n c) n xs)
    {m c2 : Nat} {A2 : Option Addr} {news : List Value} (hx : a.eval x = .slice A2 m c2) (hr : Sl w size (.slice A2 m c2) news) (h1 : ∀ u ∈ news, u.oneCell' = true)
    (h63 : n + m ≤ maxLen) (hby : (n + m) * bytes ≤ 140737488355328) (hbase : base ≤ w.heap.size)
    (h : ∀ A' c' w', w'.ownsRow base e size (.slice A' (n + m) c') (n + m) (xs ++ news) → w.grownBy w' (Value.ownBlock (.slice A n c)) →
      (Value.ownBlock (.slice A' (n + m) c') = Value.ownBlock (.slice A n c) ∨ Value.ownBlock (.slice A' (n + m) c') = some w.heap.size) →
      wpList P ops Q rest (a.put o.dst (.slice A' (n + m) c')) w') : wpList P ops Q (o :: rest) a w :=
  wpList_plain hgd fun _ hK => by
    obtain ⟨A', c', w', hrun, h2, h3, h4⟩ := append_run (P := P) w hT o.type base n c A xs hown m c2 A2 news hr h1 h63 hby hbase
    unfold Oper.wp execOp
    simp only [ho, resolve, invoke, builtin, Sem.run_bind, Sem.run_pure, Result.andThen_ok, List.map_toArray, List.map_cons, List.map_nil, hs, hx, hrun]
    exact hK _ _ (h A' c' w' h2 h3 h4)

/-- the same inside a region that draws its order -/
theorem step_app {P : Program} {w : World} {ops : Array Oper} {o : Oper} {a : Act} {K : Act → World → Prop} {Q : Exit → Act → World → Prop} {E : Prop} (hgd : o.guard = none) (s x : Operand)
    {t e : TypeId} {size bytes : Nat} (hT : ST P t e size bytes) (ho : o.op = .call { callee := .builtin .append, args := #[s, x], argTypes := #[t, t] })
    (base : Nat) {n c : Nat} {A : Option Addr} {xs : List Value} (hs : a.eval s = .slice A n c) (hown : w.ownsRow base e size (.slice A n c) n xs)
    {m c2 : Nat} {A2 : Option Addr} {news : List Value} (hx : a.eval x = .slice A2 m c2) (hr : Sl w size (.slice A2 m c2) news) (h1 : ∀ u ∈ news, u.oneCell' = true)
    (h63 : n + m ≤ maxLen) (hby : (n + m) * bytes ≤ 140737488355328) (hbase : base ≤ w.heap.size)
    (h : ∀ A' c' w', w'.ownsRow base e size (.slice A' (n + m) c') (n + m) (xs ++ news) → Below base w w' → w.grownBy w' (Value.ownBlock (.slice A n c)) →
      From w (Value.ownBlock (.slice A n c)) (Value.ownBlock (.slice A' (n + m) c')) → K (a.put o.dst (.slice A' (n + m) c')) w') :
    if Region.wanted o (yielded ops a.tmps) = true then Oper.wp P o a w K Q else E := by
  have hw : Region.wanted o (yielded ops a.tmps) = true := by simp [Region.wanted, hgd]
  rw [if_pos hw]
  obtain ⟨A', c', w', hrun, h2, h3, h4⟩ := append_run (P := P) w hT o.type base n c A xs hown m c2 A2 news hr h1 h63 hby hbase
  unfold Oper.wp execOp
  simp only [ho, resolve, invoke, builtin, Sem.run_bind, Sem.run_pure, Result.andThen_ok, List.map_toArray, List.map_cons, List.map_nil, hs, hx, hrun]
  refine h A' c' w' h2 ((Below.refl base w).grown h3 hbase fun k hk => (hown.lt k hk).1) h3 ?_
  rcases h4 with h4 | h4
  · exact .inl h4
  · exact .inr ⟨_, h4, Nat.le_refl _⟩

theorem B8_one (l : List UInt8) : ∀ u ∈ B8 l, u.oneCell' = true := by
  intro u hu
  obtain ⟨c, _, rfl⟩ := List.mem_map.1 hu
  rfl
theorem grown_below {w w' : World} {base n c : Nat} {e : TypeId} {size : Nat} {A : Option Addr} {xs : List Value} (hown : w.ownsRow base e size (.slice A n c) n xs)
    (hg : w.grownBy w' (Value.ownBlock (.slice A n c))) (hbase : base ≤ w.heap.size) : Below base w w' :=
  (Below.refl base w).grown hg hbase fun k hk => (hown.lt k hk).1

theorem own_some {w : World} {base : Nat} {e : TypeId} {size n c : Nat} {A : Option Addr} {xs : List Value} (h : w.ownsRow base e size (.slice A n c) n xs) (hn : 0 < n) :
    ∃ g, A = some ⟨g, 0, none⟩ ∧ base ≤ g ∧ g < w.heap.size := by
  obtain ⟨g, cap, hv, h1, h2⟩ := h.form hn
  injection hv with h3 h4 h5
  exact ⟨g, h3, h1, h2⟩
/-- a cell of an own row -/
theorem own_cell {w : World} {base g : Nat} {e : TypeId} {size n c : Nat} {xs : List Value} (h : w.ownsRow base e size (.slice (some ⟨g, 0, none⟩) n c) n xs) (j : Nat) (hj : j < n * size) :
    w.cell? ⟨g, j, none⟩ = xs[j]? ∧ w.frozen? ⟨g, j, none⟩ = false := ⟨h.cellAt j hj, h.frozenAt j⟩
theorem own_byte {w : World} {base g : Nat} {e : TypeId} {n c : Nat} {l : List UInt8} (h : w.ownsRow base e 1 (.slice (some ⟨g, 0, none⟩) n c) n (B8 l)) (j : Nat) (hj : j < n) :
    w.cell? ⟨g, j, none⟩ = some (.int .u8 (byt l j : Int)) ∧ w.frozen? ⟨g, j, none⟩ = false := by
  have h1 := own_cell h j (by omega)
  have hl := h.1
  rw [B8_length, Nat.mul_one] at hl
  exact ⟨h1.1.trans (B8_get l j (by omega)), h1.2⟩
theorem B8_set (l : List UInt8) (k : Nat) (x : UInt8) : (B8 l).set k (.int .u8 (x.toNat : Int)) = B8 (l.set k x) := by simp [B8, List.map_set]

/-- a new row of bytes -/
theorem sl_new (w : World) (l : List UInt8) (e : TypeId) (cs : Array Value) (n g : Nat) (hg : g = w.heap.size) (hcs : cs = (B8 l).toArray) (hn : n = l.length) (hm : l.length ≤ 9223372036854775807) :
    Sl (w.alloc (.cells cs e)) 1 (.slice (some ⟨g, 0, none⟩) n n) (B8 l) := by
  subst hcs; subst hn; subst hg
  refine ⟨_, _, _, rfl, by simp [B8], Nat.le_refl _, by simpa [maxLen] using hm, fun hn => ⟨w.heap.size, 0, rfl, by simp, fun i hi => ?_⟩⟩
  rw [World.cell?_alloc_at _ _ _ _ rfl]
  simp
theorem sl_nil (w : World) (size : Nat) : Sl w size (.slice none 0 0) [] := ⟨none, 0, 0, rfl, by simp, Nat.le_refl _, by simp [maxLen], fun h => absurd h (by omega)⟩

/-- 'string(b)' -/
def S8 (l : List UInt8) : ByteArray := ⟨l.toArray⟩
theorem str_of {P : Program} {w : World} {A : Option Addr} {n c : Nat} {l : List UInt8} (h : Sl w 1 (.slice A n c) (B8 l)) (src dst e : TypeId)
    (hs : P.underlying src = some (.slice e)) (he : P.underlying e = some (.int .u8)) (hd : P.underlying dst = some .string) :
    (convert src dst (.slice A n c)).run P w = .ok (.string (S8 l)) w := by
  have hlen := h.len.1
  subst hlen
  rcases l with _ | ⟨x, l⟩
  · rcases A with _ | ad
    · exact run_convert_bytes_nil w src e hs he _ _ dst hd
    · exact run_convert_bytes_back w src dst e ad c [] hs he hd (fun j hj => absurd hj (by simp))
  · obtain ⟨b, off, rfl, _, _⟩ := h.byte (k := 0) (by simp)
    refine run_convert_bytes_back w src dst e _ c (x :: l) hs he hd (fun j hj => ?_)
    obtain ⟨b', off', e1, _, hc⟩ := h.byte (k := j) hj
    injection e1 with e1
    injection e1 with e1 e2
    subst e1; subst e2
    rw [addr_add, hc]
    simp [byt, List.getD_eq_getElem?_getD, List.getElem?_eq_getElem hj]
theorem Sl.take {w : World} {A : Option Addr} {n c : Nat} {l : List UInt8} (h : Sl w 1 (.slice A n c) (B8 l)) (m : Nat) (hm : m ≤ n) : Sl w 1 (.slice A m c) (B8 (l.take m)) := by
  obtain ⟨A', n', c', he, hl, hnc, hcm, hr⟩ := h
  injection he with e1 e2 e3
  subst e1; subst e2; subst e3
  rw [B8_length, Nat.mul_one] at hl
  refine ⟨_, _, _, rfl, by rw [B8_length, List.length_take]; omega, by omega, hcm, fun h0 => ?_⟩
  obtain ⟨b, off, e, hlt, hc⟩ := hr (by omega)
  refine ⟨b, off, e, hlt, fun i hi => ?_⟩
  rw [hc i (by omega)]
  simp only [B8, ← List.map_take, List.getElem?_map, List.getElem?_take]
  rw [if_pos (by omega)]

theorem below_grown {w w' : World} (h : Below w.heap.size w w') (row : Option Nat) : w.grownBy w' row := ⟨h.os, h.tape, h.output, h.size, fun k hk _ => h.block k hk⟩
theorem wf_i64_bd {n : Int} (h : (Lit.int .i64 n).wf = true) : -9223372036854775808 ≤ n ∧ n ≤ 9223372036854775807 := by
  simpa [Lit.wf, IntKind.min, IntKind.max, IntKind.bits, IntKind.signed] using h
theorem grown_alloc {w w' : World} {row : Option Nat} (h : w.grownBy w' row) (o : Obj) : w.grownBy (w'.alloc o) row :=
  ⟨h.os, h.tape, h.output, Nat.le_trans h.size (by simp), fun i hi hne => (Below.heap_alloc w' o i (Nat.lt_of_lt_of_le hi h.size)).trans (h.block i hi hne)⟩
/-- two steps, the second one over a row that stems from the first one's -/
theorem grown_trans {w w1 w2 : World} {a b : Option Nat} (h : w.grownBy w1 a) (hf : From w a b) (k : w1.grownBy w2 b) : w.grownBy w2 a :=
  ⟨k.os.trans h.os, k.tape.trans h.tape, k.output.trans h.output, Nat.le_trans h.size k.size, fun i hi hne => by
    refine (k.block i (Nat.lt_of_lt_of_le hi h.size) ?_).trans (h.block i hi hne)
    rcases hf with rfl | ⟨g, rfl, hg⟩
    · exact hne
    · intro e
      injection e with e
      omega⟩
theorem grown_drewN {w w' : World} {row : Option Nat} (h : w.grownBy w' row) (n : Nat) : w.grownBy (w'.drewN n) row := ⟨h.os, h.tape, h.output, h.size, h.block⟩
theorem grown_drew {w w' : World} {row : Option Nat} (h : w.grownBy w' row) : w.grownBy w'.drew row := ⟨h.os, h.tape, h.output, h.size, h.block⟩
theorem own_below_base {w w' : World} {base n c : Nat} {e : TypeId} {size : Nat} {A : Option Addr} {xs : List Value} (hown : w.ownsRow base e size (.slice A n c) n xs)
    (hg : w.grownBy w' (Value.ownBlock (.slice A n c))) (hb : base ≤ w.heap.size) : Below base w w' := grown_below hown hg hb
theorem own_base {w : World} {base base' : Nat} {e : TypeId} {size n : Nat} {v : Value} {xs : List Value} (h : w.ownsRow base e size v n xs) (hb : base' ≤ base) : w.ownsRow base' e size v n xs := by
  obtain ⟨h1, h2⟩ := h
  refine ⟨h1, ?_⟩
  rcases h2 with h2 | ⟨g, cap, cur, hv, hg, r⟩
  · exact .inl h2
  · exact .inr ⟨g, cap, cur, hv, Nat.le_trans hb hg, r⟩
/-- what reads goes on reading where only new blocks, and a row elsewhere, were written -/
theorem Sl.grown {w w' : World} {size : Nat} {A : Option Addr} {n c : Nat} {xs : List Value} {row : Option Nat} (h : Sl w size (.slice A n c) xs) (hg : w.grownBy w' row) (hne : ∀ ad, A = some ad → some ad.block ≠ row) : Sl w' size (.slice A n c) xs := by
  obtain ⟨A', n', c', he, hl, hnc, hcm, hr⟩ := h
  injection he with e1 e2 e3
  subst e1; subst e2; subst e3
  refine ⟨_, _, _, rfl, hl, hnc, hcm, fun hn => ?_⟩
  obtain ⟨b, off, rfl, hlt, hc⟩ := hr hn
  exact ⟨b, off, rfl, Nat.lt_of_lt_of_le hlt hg.size, fun i hi => (World.cell?_of_block (hg.block b hlt (hne _ rfl))).trans (hc i hi)⟩
theorem Sl.grown0 {w w' : World} {size : Nat} {A : Option Addr} {n c : Nat} {xs : List Value} (h : Sl w size (.slice A n c) xs) (hg : w.grownBy w' none) : Sl w' size (.slice A n c) xs :=
  h.grown hg (by simp)
theorem Sl.alloc {w : World} {size : Nat} {v : Value} {xs : List Value} (h : Sl w size v xs) (o : Obj) : Sl (w.alloc o) size v xs := h.below ((Below.refl _ _).alloc (Nat.le_refl _) o)
theorem own_drew {w : World} {base : Nat} {e : TypeId} {size n : Nat} {v : Value} {xs : List Value} (h : w.ownsRow base e size v n xs) : w.drew.ownsRow base e size v n xs := h
theorem keepc2 {w w' : World} {B b i j : Nat} {x y : Option Value} (hb : Below B w w') (hlt : b < B) (h : w.cell? ⟨b, i, none⟩ = x ∧ w.cell? ⟨b, j, none⟩ = y) : w'.cell? ⟨b, i, none⟩ = x ∧ w'.cell? ⟨b, j, none⟩ = y :=
  ⟨(hb.cell (p := ⟨b, i, none⟩) hlt).trans h.1, (hb.cell (p := ⟨b, j, none⟩) hlt).trans h.2⟩
theorem keepc3 {w w' : World} {B b i j k : Nat} {x y z : Option Value} (hb : Below B w w') (hlt : b < B) (h : w.cell? ⟨b, i, none⟩ = x ∧ w.cell? ⟨b, j, none⟩ = y ∧ w.cell? ⟨b, k, none⟩ = z) : w'.cell? ⟨b, i, none⟩ = x ∧ w'.cell? ⟨b, j, none⟩ = y ∧ w'.cell? ⟨b, k, none⟩ = z :=
  ⟨(hb.cell (p := ⟨b, i, none⟩) hlt).trans h.1, (hb.cell (p := ⟨b, j, none⟩) hlt).trans h.2.1, (hb.cell (p := ⟨b, k, none⟩) hlt).trans h.2.2⟩
theorem below_drewN {B : Nat} {a w : World} (h : Below B a w) (n : Nat) : Below B a (w.drewN n) := ⟨h.os, h.tape, h.output, h.size, h.block⟩
theorem own_below {w w' : World} {base : Nat} {e : TypeId} {size n : Nat} {v : Value} {xs : List Value} (h : w.ownsRow base e size v n xs) (hb : Below w.heap.size w w') : w'.ownsRow base e size v n xs :=
  h.kept (below_grown hb none) (by cases hv : v.ownBlock <;> simp)

/-- an argument of bytes, as the frame of the row hands it over -/
theorem sl_row {w : World} {a : Option Addr} {len cap : Nat} {zs : List Int}
    (h : (a = none ∧ len = 0 ∧ cap = 0 ∧ zs = []) ∨
      ∃ x, a = some x ∧ len ≤ cap ∧ cap ≤ maxLen ∧ zs.length = cap ∧ (∀ i, i < zs.length → w.cell? (x.add i) = some (.int .u8 (zs.getD i 0))) ∧ ∀ n ∈ zs, (Lit.int .u8 n).wf = true) :
    ∃ l : List UInt8, Sl w 1 (.slice a len cap) (B8 l) := by
  rcases h with ⟨rfl, rfl, rfl, rfl⟩ | ⟨x, rfl, hl, hm, hz, hc, hwf⟩
  · exact ⟨[], sl_nil _ _⟩
  · refine ⟨(zs.take len).map fun z => UInt8.ofNat z.toNat, _, _, _, rfl, by simp [B8]; omega, hl, hm, fun hn => ?_⟩
    obtain ⟨b, off, spot⟩ := x
    have h0 := hc 0 (by omega)
    have hspot : spot = none := by simpa [Addr.add] using World.cell?_spot h0
    subst hspot
    have hb : b < w.heap.size := by
      have := World.block_lt_of_cell? w _ h0
      rw [addr_add] at this
      exact this
    refine ⟨b, off, rfl, hb, fun i hi => ?_⟩
    have h1 := hc i (by omega)
    rw [addr_add] at h1
    rw [h1]
    have hi2 : i < zs.length := by omega
    have hw := hwf _ (List.getElem_mem hi2)
    have hb2 : 0 ≤ zs[i] ∧ zs[i] ≤ 255 := by
      simp [Lit.wf, IntKind.min, IntKind.max, IntKind.bits, IntKind.signed] at hw
      omega
    simp [B8, List.getElem?_take, show i < len by omega, List.getElem?_eq_getElem hi2, List.getD_eq_getElem?_getD, UInt8.toNat_ofNat']
    omega

end Go.Proofs.YtecfkhgocjbocaaGreatDoor
