/-
  Regions that draw their order: loud operations' words, two labels, picks and guards (no word of a package in it).
-/
import Derived.Test.YtecfkhgocjbocaaGreatDoorProg
import Derived.Test.YtecfkhgocjbocaaGreatDoorReg
namespace Go.Proofs.YtecfkhgocjbocaaGreatDoor
set_option linter.unusedVariables false
set_option linter.unusedSimpArgs false
open Go Go.RowKit

/-- what a loud operation that makes a row leaves -/
abbrev LeavesRow (S : Nat → Prop) (w : World) (base : Nat) (e : TypeId) (size n : Nat) (xs : List Value) (v : Value) (w' : World) : Prop :=
  IsSlice n v ∧ Kept S w w' ∧ OwnF base e size n xs v (fun b => S b ∨ (w.heap.size ≤ b ∧ b < w'.heap.size)) w'

theorem appS_x {w : World} {o : Oper} {a : Act} {S : Nat → Prop} (s x : Operand) {t e : TypeId} {size bytes : Nat} (hT : ST Tryz.prog t e size bytes)
    (ho : o.op = .call { callee := .builtin .append, args := #[s, x], argTypes := #[t, t] })
    {base n m c c2 : Nat} {A A2 : Option Addr} {xs ys zs : List Value} (hs : a.eval s = .slice A n c) (hx : a.eval x = .slice A2 m c2)
    (k1 : OwnF base e size n xs (.slice A n c) S w) (k2 : Sl w size (.slice A2 m c2) ys) (h1 : ∀ u ∈ ys, u.oneCell' = true) (h63 : n + m ≤ maxLen) (hby : (n + m) * bytes ≤ 140737488355328) (hbase : base ≤ w.heap.size) (hz : zs = xs ++ ys) :
    runs Tryz.prog o a w fun v w' => LeavesRow S w base e size (n + m) zs v w' := by
  subst hz
  refine runs_app s x hT ho base hs k1.2 hx k2 h1 h63 hby hbase ?_
  intro A' c' w' h1 h2 h3
  exact ⟨⟨_, _, rfl⟩, own_kept k1 h2, own_app k1 h1 h3⟩
/-- '[]T{..}' -/
theorem own_made (w : World) (base : Nat) (e : TypeId) (size n : Nat) (cs : Array Value) (xs : List Value) (hb : base ≤ w.heap.size) (hcs : cs = xs.toArray) (hn : xs.length = n * size) (hm : n ≤ 1099511627776) (hsz : 0 < size) :
    (w.alloc (.cells cs e)).ownsRow base e size (.slice (some ⟨w.heap.size, 0, none⟩) n n) n xs := by
  subst hcs
  refine ⟨hn, .inr ⟨w.heap.size, n, xs.toArray, rfl, hb, heap_alloc_new w _, Nat.le_refl _, by simp [maxLen]; omega, by simp [hn], by simp [← hn]⟩⟩
theorem made_x {w w' : World} {S : Nat → Prop} {base n : Nat} {e : TypeId} {size : Nat} {cs : Array Value} {xs : List Value} (hw : w' = w.alloc (.cells cs e)) (hb : base ≤ w.heap.size) (hcs : cs = xs.toArray) (hn : xs.length = n * size) (hm : n ≤ 1099511627776) (hsz : 0 < size) :
    LeavesRow S w base e size n xs (.slice (some ⟨w.heap.size, 0, none⟩) n n) w' := by
  subst hw
  refine ⟨⟨_, _, rfl⟩, (Kept.refl _ _).alloc _, fun g hg => .inr ?_, own_made w base e size n cs xs hb hcs hn hm hsz⟩
  simp [Value.ownBlock] at hg
  subst hg
  simp
/-- a row that is there goes in -/
theorem ownF_in {w : World} {base n : Nat} {e : TypeId} {size : Nat} {v : Value} {xs : List Value} (h : w.ownsRow base e size v n xs) : OwnF base e size n xs v (fun b => v.ownBlock = some b) w := ⟨fun g hg => hg, h⟩
theorem ownF_lt {w : World} {base n : Nat} {e : TypeId} {size : Nat} {v : Value} {xs : List Value} (h : w.ownsRow base e size v n xs) : ∀ b, v.ownBlock = some b → b < w.heap.size := fun b hb => (h.lt b hb).2
theorem ownF_ge {w : World} {base n : Nat} {e : TypeId} {size : Nat} {v : Value} {xs : List Value} (h : w.ownsRow base e size v n xs) : ∀ b, v.ownBlock = some b → base ≤ b := fun b hb => (h.lt b hb).1
/-- a row whose length stays a letter -/
def rowN (us : List Nat) (base : Nat) (e : TypeId) (size : Nat) (xs : List Value) : Loud :=
  ⟨us, fun _ v => ∃ A n c, v = .slice A n c, fun _ v S w => ∀ n, IsSlice n v → OwnF base e size n xs v S w⟩
theorem rowN_ok (us : List Nat) (base : Nat) (e : TypeId) (size : Nat) (xs : List Value) : (rowN us base e size xs).Ok :=
  ⟨fun _ => ⟨.slice none 0 0, none, 0, 0, rfl⟩, fun _ v S S' w w' h1 h2 h3 n hn => good_own _ _ _ _ _ _ S S' w w' h1 h2 (h3 n hn)⟩
theorem leavesN {S : Nat → Prop} {w w' : World} {us : List Nat} {base : Nat} {e : TypeId} {size n : Nat} {xs : List Value} {v : Value} {as_ : List Value} (h : LeavesRow S w base e size n xs v w') :
    (rowN us base e size xs).ph as_ v ∧ Kept S w w' ∧ (rowN us base e size xs).rh as_ v (fun b => S b ∨ (w.heap.size ≤ b ∧ b < w'.heap.size)) w' := by
  obtain ⟨⟨A, c, rfl⟩, h2, h3⟩ := h
  refine ⟨⟨A, n, c, rfl⟩, h2, fun m hm => ?_⟩
  obtain ⟨A', c', he⟩ := hm
  injection he with _ h4 _
  subst h4
  exact h3
theorem runs_mono {P : Program} {o : Oper} {a : Act} {w : World} {R R' : Value → World → Prop} (h : runs P o a w R) (hr : ∀ v w', R v w' → R' v w') : runs P o a w R' := by
  unfold runs at *
  split
  · rename_i he; simp only [he] at h; exact hr _ _ h
  · rename_i he; simp only [he] at h; exact hr _ _ h
  · rename_i he; simp only [he] at h; exact h.mono fun e w'' ⟨v, h1, h2⟩ => ⟨v, h1, hr _ _ h2⟩
  · rename_i r h1 h2 h3
    split at h
    · rename_i he; exact (h1 _ _ he).elim
    · rename_i he; exact (h2 _ he).elim
    · rename_i he; exact (h3 _ _ _ he).elim
    · exact h
theorem sat_rowN {w0 w : World} {S0 : Nat → Prop} {Γ : Nat → Fact} (h : Sat w0 S0 Γ w) (l : Nat) {us : List Nat} {base n c : Nat} {A : Option Addr} {e : TypeId} {size : Nat} {xs as_ : List Value} (hl : Γ l = (rowN us base e size xs).rh as_ (.slice A n c)) :
    w.ownsRow base e size (.slice A n c) n xs := by
  obtain ⟨S, _, h2⟩ := sat_get h l
  rw [hl] at h2
  exact (h2 n ⟨_, _, rfl⟩).2
/-- a block known whole, of the region's own -/
def BlkF (b : Nat) (T : TypeId) (cs : Array Value) : Fact := fun S w => S b ∧ w.heap[b]? = some (.cells cs T (0, 0))
theorem good_blk (b : Nat) (T : TypeId) (cs : Array Value) : Good (BlkF b T cs) := fun S S' w w' h1 h2 ⟨h3, h4⟩ => ⟨h1 b h3, (h2 b h3).trans h4⟩
theorem blkF_cells {b : Nat} {T : TypeId} {cs : Array Value} {S : Nat → Prop} {w : World} (h : BlkF b T cs S w) : (∀ i, w.cell? ⟨b, i, none⟩ = cs[i]?) ∧ (∀ i, w.frozen? ⟨b, i, none⟩ = false) :=
  ⟨fun i => by have := h.2; simp [World.cell?, this], fun i => by have := h.2; simp [World.frozen?, this]⟩
theorem blk_set {w : World} {g : Nat} {T : TypeId} {cs : Array Value} (hb : w.heap[g]? = some (.cells cs T (0, 0))) (i : Nat) (v : Value) : (w.setCell ⟨g, i, none⟩ v).heap[g]? = some (.cells (cs.setIfInBounds i v) T (0, 0)) := by
  simp [World.setCell, Array.getElem?_modify, hb]
theorem blk_set_far {w : World} {g : Nat} {T : TypeId} {cs : Array Value} (hb : w.heap[g]? = some (.cells cs T (0, 0))) {p : Addr} (hp : g ≠ p.block) (v : Value) : (w.setCell p v).heap[g]? = some (.cells cs T (0, 0)) :=
  (Below.heap_setCell w p v g hp).trans hb
/-- a store's word: only the blocks of these labels, and their fact -/
def keepL (us : List Nat) (ρ : Fact) : Loud := ⟨us, fun _ _ => True, fun _ _ => ρ⟩
theorem keepL_ok (us : List Nat) {ρ : Fact} (h : Good ρ) : (keepL us ρ).Ok := ⟨fun _ => ⟨undef, trivial⟩, fun _ _ => h⟩

def labelled2 (n m : Nat) (ρ σ : Fact) : Nat → Fact := fun l => if l = n then ρ else if l = m then σ else Fact.none
theorem sat_two {w : World} {ρ σ : Fact} (n m : Nat) (hnm : n ≠ m) (S1 S2 : Nat → Prop) (hd : ∀ b, S1 b → S2 b → False) (h1 : ∀ b, S1 b → b < w.heap.size) (h2 : ∀ b, S2 b → b < w.heap.size) (hρ : ρ S1 w) (hσ : σ S2 w) :
    Sat w (fun b => S1 b ∨ S2 b) (labelled2 n m ρ σ) w :=
  ⟨Kept.refl _ _, fun l b => (l = n ∧ S1 b) ∨ (l = m ∧ S2 b), fun l l' b h h' => by
      rcases h with ⟨e, h⟩ | ⟨e, h⟩ <;> rcases h' with ⟨e', h'⟩ | ⟨e', h'⟩
      · rw [e, e']
      · exact (hd b h h').elim
      · exact (hd b h' h).elim
      · rw [e, e'],
    fun l b h => by
      rcases h with ⟨_, h⟩ | ⟨_, h⟩
      · exact ⟨.inl (.inl h), h1 b h⟩
      · exact ⟨.inl (.inr h), h2 b h⟩,
    fun l => by
      unfold labelled2
      by_cases e : l = n
      · subst e
        have : (fun b => (l = l ∧ S1 b) ∨ (l = m ∧ S2 b)) = S1 := by funext b; simp [hnm]
        rw [if_pos rfl]
        dsimp only
        rw [this]
        exact hρ
      · rw [if_neg e]
        by_cases e2 : l = m
        · subst e2
          have : (fun b => (l = n ∧ S1 b) ∨ (l = l ∧ S2 b)) = S2 := by funext b; simp [e]
          rw [if_pos rfl]
          dsimp only
          rw [this]
          exact hσ
        · rw [if_neg e2]
          trivial⟩
theorem good_two {ρ σ : Fact} (n m : Nat) (h : Good ρ) (k : Good σ) : ∀ l, Good (labelled2 n m ρ σ l) := fun l => by
  unfold labelled2
  split
  · exact h
  · split
    · exact k
    · exact Good.none
/-- a load from a block of the region's own: the block stays -/
def loadL (us : List Nat) (v : Value) (ρ : Fact) : Loud := ⟨us, fun _ u => u = v, fun _ _ => ρ⟩
theorem loadL_ok (us : List Nat) (v : Value) {ρ : Fact} (h : Good ρ) : (loadL us v ρ).Ok := ⟨fun _ => ⟨v, rfl⟩, fun _ _ => h⟩
theorem load_x {P : Program} {o : Oper} {a : Act} {w : World} {S : Nat → Prop} {v : Value} {ρ : Fact} (hr : (execOp a.eval o).run P w = .ok (.value v) w) (hρ : Good ρ) (h : ρ S w) :
    runs P o a w fun u w' => u = v ∧ Kept S w w' ∧ ρ (fun b => S b ∨ (w.heap.size ≤ b ∧ b < w'.heap.size)) w' :=
  runs_value hr ⟨rfl, Kept.refl _ _, hρ _ _ _ _ (fun b hb => .inl hb) (fun _ _ => rfl) h⟩
theorem ownsRow_kept {S : Nat → Prop} {w w' : World} {base n : Nat} {e : TypeId} {size : Nat} {v : Value} {xs : List Value} (h : w.ownsRow base e size v n xs) (hk : Kept S w w') (hs : ∀ g, v.ownBlock = some g → ¬ S g) : w'.ownsRow base e size v n xs := by
  obtain ⟨h5, h6⟩ := h
  refine ⟨h5, ?_⟩
  rcases h6 with h6 | ⟨g, cap, cur, hv, hb, hg, r⟩
  · exact .inl h6
  · exact .inr ⟨g, cap, cur, hv, hb, (hk.block g (Array.getElem?_eq_some_iff.1 hg).1 (hs g (by rw [hv]; rfl))).trans hg, r⟩
theorem sl_kept {S : Nat → Prop} {w w' : World} {size n c : Nat} {A : Option Addr} {xs : List Value} (h : Sl w size (.slice A n c) xs) (hk : Kept S w w') (hs : ∀ ad, A = some ad → ¬ S ad.block) : Sl w' size (.slice A n c) xs := by
  obtain ⟨A', n', c', he, hl, hnc, hcm, hr⟩ := h
  injection he with e1 e2 e3
  subst e1; subst e2; subst e3
  refine ⟨_, _, _, rfl, hl, hnc, hcm, fun hn => ?_⟩
  obtain ⟨b, off, rfl, hlt, hc⟩ := hr hn
  exact ⟨b, off, rfl, Nat.lt_of_lt_of_le hlt hk.size, fun i hi => (hk.cell (p := ⟨b, off + i, none⟩) hlt (hs ⟨b, off, none⟩ rfl)).trans (hc i hi)⟩
theorem blk_kept {S : Nat → Prop} {w w' : World} {g : Nat} {o : Obj} (h : w.heap[g]? = some o) (hk : Kept S w w') (hs : ¬ S g) : w'.heap[g]? = some o := (hk.block g (Array.getElem?_eq_some_iff.1 h).1 hs).trans h
/-- a step by a wider set -/
theorem Kept.wider {S S' : Nat → Prop} {w w' : World} (h : Kept S w w') (hs : ∀ b, S b → S' b) : Kept S' w w' := ⟨h.os, h.tape, h.output, h.size, fun b hb hn => h.block b hb fun hx => hn (hs b hx)⟩
theorem Kept.then {S S' : Nat → Prop} {w w1 w2 : World} (h : Kept S w w1) (k : Kept S' w1 w2) (hs : ∀ b, b < w.heap.size → S' b → S b) : Kept S w w2 :=
  ⟨k.os.trans h.os, k.tape.trans h.tape, k.output.trans h.output, Nat.le_trans h.size k.size, fun b hb hn => (k.block b (by have := h.size; omega) fun hx => hn (hs b hb hx)).trans (h.block b hb hn)⟩
theorem Kept.of_row {w w' : World} {row : Option Nat} (h : w.grownBy w' row) : Kept (fun b => some b = row) w w' := Kept.of_grown h fun g hg => hg.symm
theorem B8_inj_u8 {l : List UInt8} {i : Nat} {v : Value} (h : (B8 l)[i]? = some v) : ∃ n, v = .int .u8 n := by
  simp [B8] at h
  obtain ⟨x, _, rfl⟩ := h
  exact ⟨_, rfl⟩

def noCallP (o : Oper) : Bool :=
  match o.op with
  | .pick .. => true
  | _ => noCall o
theorem no_enterP {ρ : Operand → Value} {o : Oper} {P : Program} {w w' : World} {f : FuncId} {args : Array Value} (h : noCallP o = true) : (execOp ρ o).run P w ≠ .ok (.enter f args) w' := by
  by_cases hp : ∃ c a b, o.op = .pick c a b
  · obtain ⟨c, a, b, hp⟩ := hp
    intro he
    unfold execOp at he
    rw [hp] at he
    simp only [Sem.run_bind] at he
    cases hs : (asBool (ρ c)).run P w with
    | ok x w1 => rw [hs] at he; simp only [Result.andThen_ok, Sem.run_pure] at he; injection he with h1 h2; cases h1
    | halt x w1 => rw [hs] at he; cases he
  · refine no_enter ?_
    unfold noCallP at h
    split at h
    · rename_i c a b hc
      exact absurd ⟨c, a, b, hc⟩ hp
    · exact h
section
variable {P : Program} {ops : Array Oper} {w0 : World} {S0 : Nat → Prop} {U : Nat → Option (List Nat)} {φ : Nat → List Value → Value → Prop} {ρ : Nat → List Value → Value → Fact} {Fin : (Nat → Fact) → Act → Prop}
  {k : Nat} {o : Oper} {rest : List Oper} {Γ : Nat → Fact} {a : Act}
theorem wpX_quietP (hw : Region.wanted o (yielded ops a.tmps) = true) (hk : U k = none) (hnc : noCallP o = true)
    (h : ∀ K : Act → Prop, (∀ a, wpX P ops w0 S0 U φ ρ Fin (k + 1) rest Γ a → K a) → o.quiet P a (fun w' => ∃ x : WK S0 w0, w' = wat x) K) : wpX P ops w0 S0 U φ ρ Fin k (o :: rest) Γ a := by
  simp only [wpX, opX', hw, if_true, hk]
  obtain ⟨v, h1, h2⟩ := h _ (fun _ h => h)
  refine ⟨v, fun w hw => ?_, h2⟩
  have h3 := h1 w ⟨⟨w, hw⟩, rfl⟩
  unfold Oper.quietAt at h3
  generalize hr : (execOp a.eval o).run P w = r at h3
  cases r with
  | ok n w' =>
    cases n <;> simp only [Oper.quietUpon] at h3
    case value u => obtain ⟨rfl, rfl⟩ := h3; exact .inl rfl
    case skip => obtain ⟨rfl, rfl⟩ := h3; exact .inr ⟨rfl, rfl⟩
    case enter f args => exact absurd hr (no_enterP hnc)
  | halt x w' => simp only [Oper.quietUpon] at h3
theorem wpX_skipK (hw : Region.wanted o (yielded ops a.tmps) = false) (h : ∀ K : Act → Prop, (∀ a, wpX P ops w0 S0 U φ ρ Fin (k + 1) rest Γ a → K a) → K (a.put o.dst undef)) : wpX P ops w0 S0 U φ ρ Fin k (o :: rest) Γ a :=
  wpX_skip hw (h _ fun _ h => h)
theorem wanted_u {y : Nat → Option Bool} (hg : o.guard = none) : Region.wanted o y = true := by unfold Region.wanted; rw [hg]
theorem wanted_g {tmps : Array Value} {g d : Nat} {b b' : Bool} (hg : o.guard = some (g, b)) (hd : (ops[g]?).bind (·.dst) = some d) (hv : tmps[d]? = some (.bool b')) : Region.wanted o (yielded ops tmps) = (b' == b) := by
  unfold Region.wanted
  rw [hg]
  unfold yielded
  dsimp only
  rw [hd]
  simp only [Option.bind_some]
  rw [hv]
  simp
theorem wanted_n {tmps : Array Value} {g d : Nat} {b : Bool} (hg : o.guard = some (g, b)) (hd : (ops[g]?).bind (·.dst) = some d) (hv : tmps[d]? = some undef) : Region.wanted o (yielded ops tmps) = false := by
  unfold Region.wanted
  rw [hg]
  unfold yielded
  dsimp only
  rw [hd]
  simp only [Option.bind_some]
  rw [hv]
  rfl
/-- 'wpX', sealed: a tactic that looks at the goal's type does not unfold it (a long row of operations passed over is dear to unfold) -/
structure WX (P : Program) (ops : Array Oper) (w0 : World) (S0 : Nat → Prop) (U : Nat → Option (List Nat)) (φ : Nat → List Value → Value → Prop) (ρ : Nat → List Value → Value → Fact) (Fin : (Nat → Fact) → Act → Prop) (k : Nat) (l : List Oper) (Γ : Nat → Fact) (a : Act) : Prop where
  out : wpX P ops w0 S0 U φ ρ Fin k l Γ a
theorem wx_quietU (hg : o.guard = none) (hk : U k = none) (hnc : noCallP o = true)
    (h : ∀ K : Act → Prop, (∀ a, WX P ops w0 S0 U φ ρ Fin (k + 1) rest Γ a → K a) → o.quiet P a (fun w' => ∃ x : WK S0 w0, w' = wat x) K) : WX P ops w0 S0 U φ ρ Fin k (o :: rest) Γ a :=
  ⟨wpX_quietP (wanted_u hg) hk hnc fun K hK => h K fun a h => hK a h.out⟩
theorem wx_quietG {g d : Nat} {b : Bool} (hg : o.guard = some (g, b)) (hd : (ops[g]?).bind (·.dst) = some d) (hv : a.tmps[d]? = some (.bool b)) (hk : U k = none) (hnc : noCallP o = true)
    (h : ∀ K : Act → Prop, (∀ a, WX P ops w0 S0 U φ ρ Fin (k + 1) rest Γ a → K a) → o.quiet P a (fun w' => ∃ x : WK S0 w0, w' = wat x) K) : WX P ops w0 S0 U φ ρ Fin k (o :: rest) Γ a :=
  ⟨wpX_quietP ((wanted_g hg hd hv).trans (by simp)) hk hnc fun K hK => h K fun a h => hK a h.out⟩
theorem wx_skipG {g d : Nat} {b : Bool} (hg : o.guard = some (g, b)) (hd : (ops[g]?).bind (·.dst) = some d) (hv : a.tmps[d]? = some (.bool (!b)))
    (h : ∀ K : Act → Prop, (∀ a, WX P ops w0 S0 U φ ρ Fin (k + 1) rest Γ a → K a) → K (a.put o.dst undef)) : WX P ops w0 S0 U φ ρ Fin k (o :: rest) Γ a :=
  ⟨wpX_skipK ((wanted_g hg hd hv).trans (by cases b <;> rfl)) fun K hK => h K fun a h => hK a h.out⟩
theorem wx_skipN {g d : Nat} {b : Bool} (hg : o.guard = some (g, b)) (hd : (ops[g]?).bind (·.dst) = some d) (hv : a.tmps[d]? = some undef)
    (h : ∀ K : Act → Prop, (∀ a, WX P ops w0 S0 U φ ρ Fin (k + 1) rest Γ a → K a) → K (a.put o.dst undef)) : WX P ops w0 S0 U φ ρ Fin k (o :: rest) Γ a :=
  ⟨wpX_skipK (wanted_n hg hd hv) fun K hK => h K fun a h => hK a h.out⟩
theorem wx_loudU {us : List Nat} (hg : o.guard = none) (hk : U k = some us) (h1 : trip P w0 S0 φ ρ o us k Γ a)
    (h2 : ∀ v, φ k (argsOf o a) v → ∀ K : Act → Prop, (∀ a', WX P ops w0 S0 U φ ρ Fin (k + 1) rest (upd Γ k us (ρ k (argsOf o a) v)) a' → K a') → K (a.put o.dst v)) : WX P ops w0 S0 U φ ρ Fin k (o :: rest) Γ a :=
  ⟨wpX_loud (wanted_u hg) hk h1 fun v hv K hK => h2 v hv K fun a h => hK a h.out⟩
theorem wx_loudG {us : List Nat} {g d : Nat} {b : Bool} (hg : o.guard = some (g, b)) (hd : (ops[g]?).bind (·.dst) = some d) (hv : a.tmps[d]? = some (.bool b)) (hk : U k = some us) (h1 : trip P w0 S0 φ ρ o us k Γ a)
    (h2 : ∀ v, φ k (argsOf o a) v → ∀ K : Act → Prop, (∀ a', WX P ops w0 S0 U φ ρ Fin (k + 1) rest (upd Γ k us (ρ k (argsOf o a) v)) a' → K a') → K (a.put o.dst v)) : WX P ops w0 S0 U φ ρ Fin k (o :: rest) Γ a :=
  ⟨wpX_loud ((wanted_g hg hd hv).trans (by simp)) hk h1 fun v hv K hK => h2 v hv K fun a h => hK a h.out⟩
theorem wx_nil (h : Fin Γ a) : WX P ops w0 S0 U φ ρ Fin k [] Γ a := ⟨wpX_nil h⟩
end
end Go.Proofs.YtecfkhgocjbocaaGreatDoor
