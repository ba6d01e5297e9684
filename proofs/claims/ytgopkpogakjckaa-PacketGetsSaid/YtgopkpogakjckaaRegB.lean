/-
  Loud operations on rows of bytes: what each leaves, in one word.
-/
import Derived.Test.YtgopkpogakjckaaReg
import Derived.Test.YtgopkpogakjckaaLsa1
namespace Go.Proofs.Ytgopkpogakjckaa
set_option linter.unusedVariables false
set_option linter.unusedSimpArgs false
open Go Go.RowKit SM LM

/-- what a loud operation that makes a row leaves -/
abbrev LeavesRow (S : Nat → Prop) (w : World) (base : Nat) (e : TypeId) (size n : Nat) (xs : List Value) (v : Value) (w' : World) : Prop :=
  IsSlice n v ∧ Kept S w w' ∧ OwnF base e size n xs v (fun b => S b ∨ (w.heap.size ≤ b ∧ b < w'.heap.size)) w'

theorem num_x {S : Nat → Prop} {base : Nat} (size : Nat) (z : Int) (w : World) (hb : base ≤ w.heap.size) (h0 : 0 ≤ z) (hx : z < 18446744073709551616) (hs : size ≤ 8) :
    Calls Try.prog 80 #[.int .u64 z, .int .i64 size] w fun e w' => ∃ v, e = .returned v ∧ LeavesRow S w base 5 1 size (B8 (be size z.toNat)) v w' := by
  refine (num_any w.heap.size size z w (Nat.le_refl _) h0 hx hs).mono ?_
  rintro e w' ⟨A', c', rfl, h1, h2⟩
  exact ⟨_, rfl, ⟨_, _, rfl⟩, Kept.of_below h2, own_fresh h1 hb⟩

theorem appS_x {w : World} {o : Oper} {a : Act} {S : Nat → Prop} (s x : Operand) {t e : TypeId} {size bytes : Nat} (hT : ST Try.prog t e size bytes)
    (ho : o.op = .call { callee := .builtin .append, args := #[s, x], argTypes := #[t, t] })
    {base n m c c2 : Nat} {A A2 : Option Addr} {xs ys zs : List Value} (hs : a.eval s = .slice A n c) (hx : a.eval x = .slice A2 m c2)
    (k1 : OwnF base e size n xs (.slice A n c) S w) (k2 : Sl w size (.slice A2 m c2) ys) (h1 : ∀ u ∈ ys, u.oneCell' = true) (h63 : n + m ≤ maxLen) (hby : (n + m) * bytes ≤ 140737488355328) (hbase : base ≤ w.heap.size) (hz : zs = xs ++ ys) :
    runs Try.prog o a w fun v w' => LeavesRow S w base e size (n + m) zs v w' := by
  subst hz
  refine runs_app s x hT ho base hs k1.2 hx k2 h1 h63 hby hbase ?_
  intro A' c' w' h1 h2 h3
  exact ⟨⟨_, _, rfl⟩, own_kept k1 h2, own_app k1 h1 h3⟩
theorem app_x {w : World} {o : Oper} {a : Act} {S : Nat → Prop} (s x : Operand)
    (ho : o.op = .call { callee := .builtin .append, args := #[s, x], argTypes := #[31, 31] })
    {base n m c c2 : Nat} {A A2 : Option Addr} {l r : List UInt8} (hs : a.eval s = .slice A n c) (hx : a.eval x = .slice A2 m c2)
    (k1 : OwnF base 5 1 n (B8 l) (.slice A n c) S w) (k2 : Sl w 1 (.slice A2 m c2) (B8 r)) (hn : n + m ≤ 1099511627776) (hbase : base ≤ w.heap.size) :
    runs Try.prog o a w fun v w' => LeavesRow S w base 5 1 (n + m) (B8 (l ++ r)) v w' :=
  appS_x s x st_bytes ho hs hx k1 k2 (B8_one _) (by simp [maxLen]; omega) (by omega) hbase (B8_append l r)

/-- '[]T{..}' -/
theorem own_made (w : World) (base : Nat) (e : TypeId) (size n : Nat) (cs : Array Value) (xs : List Value) (hb : base ≤ w.heap.size) (hcs : cs = xs.toArray) (hn : xs.length = n * size) (hm : n ≤ 1099511627776) (hsz : 0 < size) :
    (w.alloc (.cells cs e)).ownsRow base e size (.slice (some ⟨w.heap.size, 0, none⟩) n n) n xs := by
  subst hcs
  refine ⟨hn, .inr ⟨w.heap.size, n, xs.toArray, rfl, hb, heap_alloc_new w _, Nat.le_refl _, by simp [maxLen]; omega, by simp [hn], by simp [← hn]⟩⟩
theorem made_x {w w' : World} {S : Nat → Prop} {base n : Nat} {e : TypeId} {size : Nat} {cs : Array Value} {xs : List Value} (hw : w' = w.alloc (.cells cs e)) (hb : base ≤ w.heap.size) (hcs : cs = xs.toArray) (hn : xs.length = n * size) (hm : n ≤ 1099511627776) (hsz : 0 < size) :
    LeavesRow S w base e size n xs (.slice (some ⟨w.heap.size, 0, none⟩) n n) w' := by
  subst hw
  refine ⟨⟨_, _, rfl⟩, (Kept.refl _ _).alloc _, fun g hg => .inr ?_, own_made w base e size n cs xs hb hcs hn hm hsz⟩
  simp [Value.ownBlock] at hg
  subst hg
  simp
/-- a row that is there goes in -/
theorem ownF_in {w : World} {base n : Nat} {e : TypeId} {size : Nat} {v : Value} {xs : List Value} (h : w.ownsRow base e size v n xs) : OwnF base e size n xs v (fun b => v.ownBlock = some b) w := ⟨fun g hg => hg, h⟩
theorem ownF_lt {w : World} {base n : Nat} {e : TypeId} {size : Nat} {v : Value} {xs : List Value} (h : w.ownsRow base e size v n xs) : ∀ b, v.ownBlock = some b → b < w.heap.size := fun b hb => (h.lt b hb).2
theorem ownF_ge {w : World} {base n : Nat} {e : TypeId} {size : Nat} {v : Value} {xs : List Value} (h : w.ownsRow base e size v n xs) : ∀ b, v.ownBlock = some b → base ≤ b := fun b hb => (h.lt b hb).1
/-- a row whose length stays a letter -/
def rowN (us : List Nat) (base : Nat) (e : TypeId) (size : Nat) (xs : List Value) : Loud :=
  ⟨us, fun _ v => ∃ A n c, v = .slice A n c, fun _ v S w => ∀ n, IsSlice n v → OwnF base e size n xs v S w⟩
theorem rowN_ok (us : List Nat) (base : Nat) (e : TypeId) (size : Nat) (xs : List Value) : (rowN us base e size xs).Ok :=
  ⟨fun _ => ⟨.slice none 0 0, none, 0, 0, rfl⟩, fun _ v S S' w w' h1 h2 h3 n hn => good_own _ _ _ _ _ _ S S' w w' h1 h2 (h3 n hn)⟩
theorem leavesN {S : Nat → Prop} {w w' : World} {us : List Nat} {base : Nat} {e : TypeId} {size n : Nat} {xs : List Value} {v : Value} {as_ : List Value} (h : LeavesRow S w base e size n xs v w') :
    (rowN us base e size xs).ph as_ v ∧ Kept S w w' ∧ (rowN us base e size xs).rh as_ v (fun b => S b ∨ (w.heap.size ≤ b ∧ b < w'.heap.size)) w' := by
  obtain ⟨⟨A, c, rfl⟩, h2, h3⟩ := h
  refine ⟨⟨A, n, c, rfl⟩, h2, fun m hm => ?_⟩
  obtain ⟨A', c', he⟩ := hm
  injection he with _ h4 _
  subst h4
  exact h3
theorem runs_mono {P : Program} {o : Oper} {a : Act} {w : World} {R R' : Value → World → Prop} (h : runs P o a w R) (hr : ∀ v w', R v w' → R' v w') : runs P o a w R' := by
  unfold runs at *
  split
  · rename_i he; simp only [he] at h; exact hr _ _ h
  · rename_i he; simp only [he] at h; exact hr _ _ h
  · rename_i he; simp only [he] at h; exact h.mono fun e w'' ⟨v, h1, h2⟩ => ⟨v, h1, hr _ _ h2⟩
  · rename_i r h1 h2 h3
    split at h
    · rename_i he; exact (h1 _ _ he).elim
    · rename_i he; exact (h2 _ he).elim
    · rename_i he; exact (h3 _ _ _ he).elim
    · exact h
theorem sat_rowN {w0 w : World} {S0 : Nat → Prop} {Γ : Nat → Fact} (h : Sat w0 S0 Γ w) (l : Nat) {us : List Nat} {base n c : Nat} {A : Option Addr} {e : TypeId} {size : Nat} {xs as_ : List Value} (hl : Γ l = (rowN us base e size xs).rh as_ (.slice A n c)) :
    w.ownsRow base e size (.slice A n c) n xs := by
  obtain ⟨S, _, h2⟩ := sat_get h l
  rw [hl] at h2
  exact (h2 n ⟨_, _, rfl⟩).2
/-- a block known whole, of the region's own -/
def BlkF (b : Nat) (T : TypeId) (cs : Array Value) : Fact := fun S w => S b ∧ w.heap[b]? = some (.cells cs T (0, 0))
theorem good_blk (b : Nat) (T : TypeId) (cs : Array Value) : Good (BlkF b T cs) := fun S S' w w' h1 h2 ⟨h3, h4⟩ => ⟨h1 b h3, (h2 b h3).trans h4⟩
theorem blkF_cells {b : Nat} {T : TypeId} {cs : Array Value} {S : Nat → Prop} {w : World} (h : BlkF b T cs S w) : (∀ i, w.cell? ⟨b, i, none⟩ = cs[i]?) ∧ (∀ i, w.frozen? ⟨b, i, none⟩ = false) :=
  ⟨fun i => by have := h.2; simp [World.cell?, this], fun i => by have := h.2; simp [World.frozen?, this]⟩
theorem blk_set {w : World} {g : Nat} {T : TypeId} {cs : Array Value} (hb : w.heap[g]? = some (.cells cs T (0, 0))) (i : Nat) (v : Value) : (w.setCell ⟨g, i, none⟩ v).heap[g]? = some (.cells (cs.setIfInBounds i v) T (0, 0)) := by
  simp [World.setCell, Array.getElem?_modify, hb]
theorem blk_set_far {w : World} {g : Nat} {T : TypeId} {cs : Array Value} (hb : w.heap[g]? = some (.cells cs T (0, 0))) {p : Addr} (hp : g ≠ p.block) (v : Value) : (w.setCell p v).heap[g]? = some (.cells cs T (0, 0)) :=
  (Below.heap_setCell w p v g hp).trans hb
/-- a store's word: only the blocks of these labels, and their fact -/
def keepL (us : List Nat) (ρ : Fact) : Loud := ⟨us, fun _ _ => True, fun _ _ => ρ⟩
theorem keepL_ok (us : List Nat) {ρ : Fact} (h : Good ρ) : (keepL us ρ).Ok := ⟨fun _ => ⟨undef, trivial⟩, fun _ _ => h⟩
end Go.Proofs.Ytgopkpogakjckaa
