/-
  The walk of DiskKept. (Begun.)
-/
import Derived.Test.YtaajhkdifliblaaDk9
import Derived.Test.YtaajhkdifliblaaDkA
namespace Go.Proofs.Ytaajhkdifliblaa
set_option linter.unusedVariables false
set_option linter.unusedSimpArgs false
open Go Go.RowKit

theorem Sl.ii {w : World} {A : Option Addr} {n c : Nat} {l : List Int} (h : Sl w 1 (.slice A n c) (II l)) {k : Nat} (hk : k < n) :
    ∃ b off, A = some ⟨b, off, none⟩ ∧ b < w.heap.size ∧ w.cell? ⟨b, off + k, none⟩ = some (.int .i64 (l.getD k 0)) := by
  obtain ⟨A', n', c', he, hl, _, _, hr⟩ := h
  injection he with h1 h2 h3
  subst h1; subst h2; subst h3
  obtain ⟨b, off, rfl, hlt, hc⟩ := hr (by omega)
  simp [II] at hl
  refine ⟨b, off, rfl, hlt, (hc k (by omega)).trans ?_⟩
  simp [II, List.getD_eq_getElem?_getD, List.getElem?_eq_getElem (show k < l.length by omega)]
theorem full_int (z : Int) (c : UInt8) (h : (c.toNat : Int) = z) (w : World) : Calls Try.prog 23 #[.int .u8 z] w fun e w' => ∃ g, e = .returned (.slice (some ⟨g, 0, none⟩) 64 64) ∧ w.heap.size ≤ g ∧ g < w'.heap.size ∧
      w'.ownsRow w.heap.size 5 1 (.slice (some ⟨g, 0, none⟩) 64 64) 64 (B8 (fullL c)) ∧ Below w.heap.size w w' := by
  subst h
  exact full_any c w
/-- the state of the first loop -/
structure KS (w wr : World) (m d gs cs r : Nat) (B : List (Int × UInt8)) (O : List Int) (Ao : Option Addr) (co : Nat) (Av : Option Addr) (cv : Nat) : Prop where
  ord : Ord B O
  dk : DkAt w.heap.size wr (kD B O) d gs cs r Ao co
  row : wr.ownsRow w.heap.size 3 1 (.slice Av O.length cv) O.length (II O)
  map : ∃ es clk, wr.heap[m]? = some (.map es clk) ∧ Ent es (mB B)
  md : m ≠ d
  mg : m ≠ gs
  mr : m ≠ r
  mo : ∀ ad, Ao = some ad → ad.block ≠ m
  vd : ∀ ad, Av = some ad → ad.block ≠ d ∧ ad.block ≠ gs ∧ ad.block ≠ r ∧ ad.block ≠ m
  vo : ∀ ad a2, Av = some ad → Ao = some a2 → ad.block ≠ a2.block
  bel : Below w.heap.size w wr
  wm : w.heap.size ≤ m
theorem KS.below {w wr w' : World} {m d gs cs r : Nat} {B : List (Int × UInt8)} {O : List Int} {Ao : Option Addr} {co : Nat} {Av : Option Addr} {cv : Nat} (h : KS w wr m d gs cs r B O Ao co Av cv) (hb : Below wr.heap.size wr w') : KS w w' m d gs cs r B O Ao co Av cv := by
  obtain ⟨es, clk, hm, he⟩ := h.map
  exact ⟨h.ord, h.dk.below hb, own_below h.row hb, ⟨es, clk, blk_below hm hb (Array.getElem?_eq_some_iff.1 hm).1, he⟩, h.md, h.mg, h.mr, h.mo, h.vd, h.vo, h.bel.trans (hb.mono h.bel.size), h.wm⟩
/-- a sector written: the law's own row and map stand yet -/
structure KW (w wr : World) (m d gs cs r : Nat) (B B' : List (Int × UInt8)) (O O' : List Int) (Ao : Option Addr) (co : Nat) (Av : Option Addr) (cv : Nat) : Prop where
  dk : DkAt w.heap.size wr (kD B' O') d gs cs r Ao co
  row : wr.ownsRow w.heap.size 3 1 (.slice Av O.length cv) O.length (II O)
  map : ∃ es clk, wr.heap[m]? = some (.map es clk) ∧ Ent es (mB B)
  mo : ∀ ad, Ao = some ad → ad.block ≠ m
  vo : ∀ ad a2, Av = some ad → Ao = some a2 → ad.block ≠ a2.block
  bel : Below w.heap.size w wr
theorem KS.wrote {w wr w' : World} {m d gs cs r : Nat} {B B' : List (Int × UInt8)} {O O' : List Int} {Ao : Option Addr} {co : Nat} {Av : Option Addr} {cv : Nat} (h : KS w wr m d gs cs r B O Ao co Av cv) {Ao' : Option Addr} {co' : Nat}
    (hd : DkAt w.heap.size w' (kD B' O') d gs cs r Ao' co') (hk : Kept (fun x => x = d ∨ x = r ∨ Value.ownBlock (.slice Ao (kD B O).order.length co) = some x) wr w') (hr : RowAt wr.heap.size Ao Ao') : KW w w' m d gs cs r B B' O O' Ao' co' Av cv := by
  obtain ⟨es, clk, hm, he⟩ := h.map
  have hml := (Array.getElem?_eq_some_iff.1 hm).1
  refine ⟨hd, ownsRow_kept h.row hk ?_, ⟨es, clk, blk_kept hm hk ?_, he⟩, ?_, ?_, h.bel.trans (write_below h.dk h.bel.size hk)⟩
  · intro g hg e
    cases Av with
    | none => simp [Value.ownBlock] at hg
    | some ad =>
      simp [Value.ownBlock] at hg
      have hv := h.vd ad rfl
      rcases e with e | e | e
      · exact hv.1 (by omega)
      · exact hv.2.2.1 (by omega)
      · cases Ao with
        | none => simp [Value.ownBlock] at e
        | some a2 => simp [Value.ownBlock] at e; exact h.vo ad a2 rfl rfl (by omega)
  · rintro (e | e | e)
    · exact h.md e
    · exact h.mr e
    · cases Ao with
      | none => simp [Value.ownBlock] at e
      | some a2 => simp [Value.ownBlock] at e; exact h.mo a2 rfl e
  · intro ad had e
    rcases hr ad had with ⟨a0, h0, h1⟩ | h1
    · exact h.mo a0 h0 (by omega)
    · omega
  · intro ad a2 had ha2 e
    rcases hr a2 ha2 with ⟨a0, h0, h1⟩ | h1
    · exact h.vo ad a0 had h0 (by omega)
    · subst had
      have := (h.row.lt ad.block rfl).2
      omega
/-- the law's map written -/
theorem KW.put {w wr : World} {m d gs cs r : Nat} {B B' : List (Int × UInt8)} {O : List Int} {Ao : Option Addr} {co : Nat} {Av : Option Addr} {cv : Nat} (h : KW w wr m d gs cs r B B' O O Ao co Av cv) (ho : Ord B' O) (hmd : m ≠ d) (hmg : m ≠ gs) (hmr : m ≠ r) (hv : ∀ ad, Av = some ad → ad.block ≠ d ∧ ad.block ≠ gs ∧ ad.block ≠ r ∧ ad.block ≠ m) (hwm : w.heap.size ≤ m)
    {es' : Array MapEntry} {clk' : Nat} (he' : Ent es' (mB B')) : KS w (Go.ChangeMaps.setBlock wr m (.map es' clk')) m d gs cs r B' O Ao co Av cv := by
  obtain ⟨es, clk, hm, he⟩ := h.map
  have hk := kept_setBlockD wr m (.map es' clk')
  refine ⟨ho, h.dk.kept hk (fun e => hmd e.symm) (fun e => hmg e.symm) (fun e => hmr e.symm) ?_, ownsRow_kept h.row hk ?_, ⟨es', clk', setBlock_atD hm, he'⟩, hmd, hmg, hmr, h.mo, hv, h.vo, h.bel.trans (hk.below_of h.bel.size (fun b hb => by rw [hb]; exact hwm)), hwm⟩
  · intro g hg e
    cases Ao with
    | none => simp [Value.ownBlock] at hg
    | some a2 => simp [Value.ownBlock] at hg; exact h.mo a2 rfl (by omega)
  · intro g hg e
    cases Av with
    | none => simp [Value.ownBlock] at hg
    | some ad => simp [Value.ownBlock] at hg; exact (hv ad rfl).2.2.2 (by omega)
theorem KW.below {w wr w' : World} {m d gs cs r : Nat} {B B' : List (Int × UInt8)} {O O' : List Int} {Ao : Option Addr} {co : Nat} {Av : Option Addr} {cv : Nat} (h : KW w wr m d gs cs r B B' O O' Ao co Av cv) (hb : Below wr.heap.size wr w') : KW w w' m d gs cs r B B' O O' Ao co Av cv := by
  obtain ⟨es, clk, hm, he⟩ := h.map
  exact ⟨h.dk.below hb, own_below h.row hb, ⟨es, clk, blk_below hm hb (Array.getElem?_eq_some_iff.1 hm).1, he⟩, h.mo, h.vo, h.bel.trans (hb.mono h.bel.size)⟩
/-- the law's own row grown -/
theorem KW.app {w wr w' : World} {m d gs cs r : Nat} {B B' : List (Int × UInt8)} {O O' O2 : List Int} {Ao : Option Addr} {co : Nat} {Av : Option Addr} {cv : Nat} (h : KW w wr m d gs cs r B B' O O' Ao co Av cv) (hvd : ∀ ad, Av = some ad → ad.block ≠ d ∧ ad.block ≠ gs ∧ ad.block ≠ r ∧ ad.block ≠ m)
    {Av' : Option Addr} {cv' : Nat} (ho : w'.ownsRow w.heap.size 3 1 (.slice Av' O2.length cv') O2.length (II O2)) (hg : wr.grownBy w' (Value.ownBlock (.slice Av O.length cv)))
    (hf : Value.ownBlock (.slice Av' O2.length cv') = Value.ownBlock (.slice Av O.length cv) ∨ Value.ownBlock (.slice Av' O2.length cv') = some wr.heap.size) :
    KW w w' m d gs cs r B B' O2 O' Ao co Av' cv' ∧ ∀ ad, Av' = some ad → ad.block ≠ d ∧ ad.block ≠ gs ∧ ad.block ≠ r ∧ ad.block ≠ m := by
  obtain ⟨es, clk, hm, he⟩ := h.map
  have hml := (Array.getElem?_eq_some_iff.1 hm).1
  obtain ⟨l1, l2, l3, l4⟩ := h.dk.lts
  have hk : Kept (fun b => Value.ownBlock (.slice Av O.length cv) = some b) wr w' := Kept.of_grown hg (fun g hg => hg)
  have old : ∀ b, Value.ownBlock (.slice Av O.length cv) = some b → ∃ ad, Av = some ad ∧ ad.block = b := by
    intro b hb
    cases Av with
    | none => simp [Value.ownBlock] at hb
    | some ad => simp [Value.ownBlock] at hb; exact ⟨ad, rfl, hb⟩
  have nw : ∀ ad, Av' = some ad → (∃ a0, Av = some a0 ∧ a0.block = ad.block) ∨ ad.block = wr.heap.size := by
    intro ad had
    subst had
    rcases hf with e | e
    · obtain ⟨a0, h0, h1⟩ := old ad.block (by rw [← e]; rfl)
      exact .inl ⟨a0, h0, h1⟩
    · simp [Value.ownBlock] at e; exact .inr e
  refine ⟨⟨h.dk.kept hk ?_ ?_ ?_ ?_, ho, ⟨es, clk, blk_kept hm hk ?_, he⟩, h.mo, ?_, h.bel.trans ((grown_below h.row hg h.bel.size).mono (Nat.le_refl _))⟩, ?_⟩
  · intro e; obtain ⟨ad, h0, h1⟩ := old _ e; exact (hvd ad h0).1 h1
  · intro e; obtain ⟨ad, h0, h1⟩ := old _ e; exact (hvd ad h0).2.1 h1
  · intro e; obtain ⟨ad, h0, h1⟩ := old _ e; exact (hvd ad h0).2.2.1 h1
  · intro g hg2 e
    obtain ⟨ad, h0, h1⟩ := old _ e
    cases Ao with
    | none => simp [Value.ownBlock] at hg2
    | some a2 => simp [Value.ownBlock] at hg2; exact h.vo ad a2 h0 rfl (by omega)
  · intro e; obtain ⟨ad, h0, h1⟩ := old _ e; exact (hvd ad h0).2.2.2 h1
  · intro ad a2 had ha2 e
    rcases nw ad had with ⟨a0, h0, h1⟩ | h1
    · exact h.vo a0 a2 h0 ha2 (by omega)
    · subst ha2
      have := l4 a2.block rfl
      omega
  · intro ad had
    rcases nw ad had with ⟨a0, h0, h1⟩ | h1
    · have := hvd a0 h0
      rw [← h1]
      exact this
    · omega
theorem mkMapB (w : World) : (Instr.makeMap 38 none).run Try.prog w = .ok (.map (some w.heap.size)) (w.alloc (.map #[] 0)) := by
  simp [Instr.makeMap, go_sem]
set_option maxRecDepth 100000 in
set_option maxHeartbeats 3200000 in
theorem diskKept_walk (A : Option Addr) (n c : Nat) (l : List Int) (K : Option Addr) (nk ck : Nat) (kl : List Bool) (w : World) (hS : Sl w 1 (.slice A n c) (II l)) (hK : Sl w 1 (.slice K nk ck) (BO kl)) :
    Calls Try.prog 5 #[.slice A n c, .slice K nk ck] w fun e w' => e = .returned (.bool true) ∧ Below w.heap.size w w' := by
  have hn9 : n ≤ c ∧ c ≤ 9223372036854775807 := by
    obtain ⟨A', n', c', he, _, h2, h3, _⟩ := hS
    injection he with h4 h5 h6
    subst h4; subst h5; subst h6
    exact ⟨h2, by simpa [maxLen] using h3⟩
  go_enter Try.func5, Try.ntmps5
  go_wp2_with fail
  refine (newDisk_any 32 w (by omega) (by omega)).mono ?_
  rintro e w1 ⟨d, gs, cs, r, rfl, h1, _, hb1⟩
  have hmm := mkMapB w1
  have hl1 := h1.lts
  have hba := (Below.refl w1.heap.size w1).alloc (Nat.le_refl _) (.map #[] 0)
  have h2 := h1.below hba
  have hS0 : KS w (w1.alloc (.map #[] 0)) w1.heap.size d gs cs r [] [] none 0 none 0 :=
    ⟨⟨by simp, by simp [lookB], by simp⟩, h2, own_nilE _ _ _ _, ⟨#[], 0, heap_alloc_new w1 _, rfl⟩, by omega, by omega, by omega, by simp, by simp, by simp, hb1.trans (hba.mono hb1.size), hb1.size⟩
  clear h1 hl1 hba h2 hb1
  go_wp2_with fail
  generalize w1.heap.size = m at *
  go_loopw [8, 9] (fun v i wr => ∃ (j : Nat) (B : List (Int × UInt8)) (O : List Int) (Ao : Option Addr) (co : Nat) (Av : Option Addr) (cv : Nat), j ≤ n ∧ O.length ≤ j ∧ O.length ≤ 60 ∧ i = .int .i64 j ∧ v = .slice Av O.length cv ∧ KS w wr m d gs cs r B O Ao co Av cv) (fun _ i _ => n - (intOf i).toNat)
  case atStart => exact ⟨0, [], [], none, 0, none, 0, Nat.zero_le _, by simp, by simp, rfl, rfl, hS0⟩
  case round =>
    obtain ⟨j, B, O, Ao, co, Av, cv, hj, hOj, hO60, rfl, rfl, hK0⟩ := hrel
    clear hS0 hmm
    by_cases hjn : j < n
    · by_cases h60 : j < 60
      · obtain ⟨ba, oa, rfl, hbl, q0⟩ := (hS.below hK0.bel).ii hjn
        generalize l.getD j 0 = z at *
        obtain ⟨x, hx, ek⟩ : ∃ x : Nat, x < 32 ∧ wrap64 ((IntKind.u64.wrap z).tmod 32) = (x : Int) := by
          refine ⟨((IntKind.u64.wrap z) % 32).toNat, by omega, ?_⟩
          rw [Int.tmod_eq_emod_of_nonneg (by rw [IntKind.wrap_u64]; omega)]
          unfold wrap64
          rw [IntKind.wrap_u64]
          omega
        go_wp2_with fail
        rw [ek]
        obtain ⟨cc, hcc⟩ : ∃ cc, cc = UInt8.ofNat (j + 1) := ⟨_, rfl⟩
        have hc : ((cc.toNat : Nat) : Int) = (j : Int) + 1 := by rw [hcc, UInt8.toNat_ofNat', Nat.mod_eq_of_lt (by omega)]; omega
        clear ek hcc q0
        refine (full_int ((j : Int) + 1) cc hc wr).mono ?_
        rintro e w2 ⟨g, rfl, hg, hg', ho, hb2⟩
        have hK2 := hK0.below hb2
        have hnb := fresh_nb hK0.dk hg
        clear hb2
        go_wp2_with fail
        refine (write_new w.heap.size w2 (kD B O) d gs cs r Ao co x g 0 64 (fullL cc) hK2.dk hK2.bel.size (by unfold mayE; rw [if_neg (by simp [kD]), if_neg (by simp [kD]; omega)]) rfl (own_sl ho) (by simp [kD]; omega) rfl hnb).mono ?_
        rintro e w3 ⟨rfl, Ao3, co3, h3, hk3, hr3⟩
        rw [laid_kD] at h3
        have hW := hK2.wrote h3 hk3 hr3
        have hord := ord_put hK0.ord x cc (by omega)
        obtain ⟨es, clk, hmap, he⟩ := hW.map
        have hlk := ilook (P := Try.prog) (w := w3) true Try.underlying38 Try.underlying3 (z := .int .u8 0) (Try.zeroValue5 w3) hmap he (x : Int)
        rw [if_pos rfl, mB_has, mB_look] at hlk
        obtain ⟨hmd, hmg, hmr, hvd, hwm⟩ := (⟨hK0.md, hK0.mg, hK0.mr, hK0.vd, hK0.wm⟩ : _ ∧ _ ∧ _ ∧ _ ∧ _)
        clear h3 hk3 hr3 ho hnb hK2 hK0
        cases hlo : lookB B (x : Int) with
        | some old =>
          rw [hlo] at hlk
          simp only [hlo, Option.isSome_some, if_true] at hW hord
          obtain ⟨es', clk', hup, he'⟩ := iupd (P := Try.prog) (w := w3) Try.underlying38 Try.underlying3 hmap he (x : Int) (.int .u8 (cc.toNat : Int))
          rw [mB_put] at he'
          rw [hc] at hup
          have hK4 := hW.put (clk' := clk') hord hmd hmg hmr hvd hwm he'
          simp only [Option.isSome_some] at hlk
          clear hW hmap he hlo hc
          go_wp2_with fail
          go_light
          exact ⟨⟨j + 1, putBy B x cc, O, Ao3, co3, Av, cv, by omega, by omega, by omega, by go_num, rfl, hK4⟩, by simp [intOf]; omega⟩
        | none =>
          rw [hlo] at hlk
          simp only [hlo, Option.isSome_none, Bool.false_eq_true, if_false] at hW hord
          simp only [Option.isSome_none] at hlk
          have hba := (Below.refl w3.heap.size w3).alloc (Nat.le_refl _) (.cells #[.int .i64 (x : Int)] 3)
          have hW2 := hW.below hba
          have hsl : Sl (w3.alloc (.cells #[.int .i64 (x : Int)] 3)) 1 (.slice (some ⟨w3.heap.size, 0, none⟩) 1 1) (II [(x : Int)]) := own_sl (own_made w3 0 3 1 1 #[.int .i64 (x : Int)] (II [(x : Int)]) (Nat.zero_le _) rfl rfl (by omega) (by omega))
          clear hW hmap hlo
          go_wp2_with (at_builtin; refine wpList_app rfl (.tmp 55) (.tmp 57) st_ints rfl w.heap.size rfl hW2.row rfl hsl (II_one _) (by simp [maxLen]; omega) (by omega) hW2.bel.size ?_)
          intro A9 c9 w5 ho9 hg9 hf9
          have e9 : O.length + 1 = (O ++ [(x : Int)]).length := by simp
          rw [show II O ++ II [(x : Int)] = II (O ++ [(x : Int)]) by simp [II], e9] at ho9
          rw [e9] at hf9
          obtain ⟨hW5, hvd5⟩ := hW2.app (O2 := O ++ [(x : Int)]) hvd ho9 hg9 (by simpa using hf9)
          obtain ⟨es5, clk5, hmap5, he5⟩ := hW5.map
          obtain ⟨es', clk', hup, he'⟩ := iupd (P := Try.prog) (w := w5) Try.underlying38 Try.underlying3 hmap5 he5 (x : Int) (.int .u8 (cc.toNat : Int))
          rw [mB_put] at he'
          rw [hc] at hup
          have hK4 := hW5.put (clk' := clk') hord hmd hmg hmr hvd5 hwm he'
          clear hW2 hba hsl hlk ho9 hg9 hf9 hW5 hmap5 he5 he hc e9
          go_wp2_with fail
          go_light
          exact ⟨⟨j + 1, putBy B x cc, O ++ [(x : Int)], Ao3, co3, A9, c9, by omega, by simp; omega, by simp; omega, by go_num, by simp, hK4⟩, by simp [intOf]; omega⟩
      ·
        obtain ⟨hmd, hmg, hmr, hvd, hwm⟩ := (⟨hK0.md, hK0.mg, hK0.mr, hK0.vd, hK0.wm⟩ : _ ∧ _ ∧ _ ∧ _ ∧ _)
        have hord := hK0.ord
        go_wp2_with fail
        refine (waits_any w.heap.size wr (kD B O) d gs cs r Ao co hK0.dk).mono ?_
        rintro e w2 ⟨rfl, rfl⟩
        rw [show (kD B O).order.length = O.length from rfl]
        have hKw := hK.below hK0.bel
        have hgs := hK0.dk.ges.2.1
        have hkn : 0 < nk → ∀ ad, K = some ad → ad.block ≠ gs := fun h0 ad had e => by
          obtain ⟨bk, ok, hk1, hk2, _⟩ := BO_cell hK h0
          rw [hk1] at had
          injection had with had
          subst had
          simp only [] at e
          omega
        go_wp2_with fail
        refine (crash_any w.heap.size w2 (kD B O) d gs cs r Ao co K nk ck kl hK0.dk hK0.bel.size (fun x hx => by have := hord.bd x hx; simp [kD]; omega) hKw hkn).mono ?_
        rintro e w3 ⟨rfl, r3, h3, hk3⟩
        have hrow3 := ownsRow_kept hK0.row hk3 (fun g hg e => by
          cases Av with
          | none => simp [Value.ownBlock] at hg
          | some ad =>
            simp [Value.ownBlock] at hg
            have hv := hvd ad rfl
            rcases e with e | e
            · exact hv.2.1 (by omega)
            · exact hv.1 (by omega))
        obtain ⟨es, clk, hm2, he⟩ := hK0.map
        have hmap3 := blk_kept hm2 hk3 (fun e => by rcases e with e | e; exact hmg e; exact hmd e)
        have hbw3 := hK0.bel.trans (hk3.below_of hK0.bel.size (fun b hb => by rcases hb with e | e <;> rw [e]; exact hgs; exact hK0.dk.ges.1))
        have hK3 := hK.below hbw3
        clear hm2 hk3 hK0 hKw hkn
        go_wp2_with fail
        go_loopw [13] (fun v wr => ∃ i : Nat, i ≤ O.length ∧ v = .int .i64 i ∧ Below w3.heap.size w3 wr) (fun v _ => O.length - (intOf v).toNat)
        case atStart => exact ⟨0, Nat.zero_le _, rfl, Below.refl _ _⟩
        case round =>
          obtain ⟨i, hi, rfl, hb4⟩ := hrel
          by_cases hio : i < O.length
          ·
            have hrow4 := own_below hrow3 hb4
            obtain ⟨gv, rfl, _, _⟩ := own_some hrow4 (by omega)
            have p0 := II_cell hrow4 hio
            have hcr := crash_read B O kl hord i hio
            have hbx : 0 ≤ O.getD i 0 ∧ O.getD i 0 < 32 := by
              rw [List.getD_eq_getElem?_getD, List.getElem?_eq_getElem hio]
              exact hord.bd _ (List.getElem_mem hio)
            have hmap4 := blk_below hmap3 hb4 (Array.getElem?_eq_some_iff.1 hmap3).1
            have hlk := fun W (hW : W.heap[m]? = some (.map es clk)) => ilook (P := Try.prog) (w := W) false Try.underlying38 Try.underlying3 (z := .int .u8 0) (Try.zeroValue5 W) hW he (O.getD i 0)
            simp only [Bool.false_eq_true, if_false, mB_look] at hlk
            generalize (lookB B (O.getD i 0)).getD 0 = ov at *
            generalize hgy : O.getD i 0 = y at *
            obtain ⟨x, rfl⟩ := Int.eq_ofNat_of_zero_le hbx.1
            have HGY := hid hgy
            clear hgy
            have hD4 := h3.below hb4
            have hsl3 : (crashD (kD B O) kl).stay.length = 32 := by
              show (crashTo (kD B O) kl _).stay.length = 32
              rw [crashTo_stay]
              simp [kD]
            go_wp2_with fail
            refine (read_any w.heap.size wr (crashD (kD B O) kl) d gs cs r3 none 0 x hD4 (by rw [hsl3]; omega) rfl).mono ?_
            rintro e w5 ⟨g5, rfl, _, _, hs5, hb5'⟩
            have hb5 := hb4.trans (hb5'.mono hb4.size)
            simp only [Int.toNat_natCast] at hcr
            rw [hcr] at hs5
            have hmap5 := blk_below hmap4 hb5' (Array.getElem?_eq_some_iff.1 hmap4).1
            have hrow5 := own_below hrow4 hb5'
            have p5 := II_cell hrow5 hio
            rw [HGY.out] at p5
            have hl5 := hlk w5 hmap5
            have hK5 := hK3.below hb5
            clear hD4 hsl3 hcr hlk hb5' hmap4 hmap5 hrow4 hrow5 p0
            by_cases hin : i < nk
            · obtain ⟨bk, ok, rfl, hbk, s0⟩ := BO_cell hK5 hin
              cases hkv : kl.getD i false with
              | true =>
                rw [hkv] at s0
                rw [hkv, if_pos rfl] at hs5
                clear hkv
                go_wp2_with fail
                have qs : ((S8 (fullL ov)).toList == (S8 (fullL ov)).toList) = true := by simp
                refine wp_region_loud (fun _ => False)
                  [(4, plainL [] (.string (S8 (fullL ov)))), (6, rowL [] w5.heap.size 5 1 64 (B8 (fullL ov))), (7, plainL [6] (.string (S8 (fullL ov))))]
                  (fun _ => Fact.none) (by kernel_rfl) (by kernel_rfl)
                  (.cons (plainL_ok _ _) (.cons (rowL_ok _ _ _ _ _ _) (.cons (plainL_ok _ _) .nil))) good_nothing sat_none (WX.out ?_)
                repeat (first | (refine wx_quietU (by rfl) (by rfl) (by rfl) (fun K hK => ?_); go_big_quiet_op; refine hK _ ?_; clear hK K) | (refine wx_quietG (by rfl) (by rfl) (by rfl) (by rfl) (by rfl) (fun K hK => ?_); go_big_quiet_op; refine hK _ ?_; clear hK K) | (refine wx_skipG (by rfl) (by rfl) (by rfl) (fun K hK => ?_); go_simp; refine hK _ ?_; clear hK K) | (refine wx_skipN (by rfl) (by rfl) (by rfl) (fun K hK => ?_); go_simp; refine hK _ ?_; clear hK K))
                refine wx_loudG (us := []) (by rfl) (by rfl) (by rfl) (by rfl) (fun S wS hC hS hU => ?_) (fun v hv K hK => ?_)
                · have st := bstr (hs5.below hC.below)
                  exact runs_value (by go_simp <;> rfl) ⟨rfl, Kept.refl _ _, trivial⟩
                obtain rfl := hv; (go_simp; refine hK _ ?_; clear hK K)
                repeat (first | (refine wx_quietU (by rfl) (by rfl) (by rfl) (fun K hK => ?_); go_big_quiet_op; refine hK _ ?_; clear hK K) | (refine wx_quietG (by rfl) (by rfl) (by rfl) (by rfl) (by rfl) (fun K hK => ?_); go_big_quiet_op; refine hK _ ?_; clear hK K) | (refine wx_skipG (by rfl) (by rfl) (by rfl) (fun K hK => ?_); go_simp; refine hK _ ?_; clear hK K) | (refine wx_skipN (by rfl) (by rfl) (by rfl) (fun K hK => ?_); go_simp; refine hK _ ?_; clear hK K))
                refine wx_loudG (us := []) (by rfl) (by rfl) (by rfl) (by rfl) (fun S wS hC hS hU => runs_enter (f := 23) (by go_simp <;> rfl) ?_) (fun v hv K hK => ?_)
                · refine (full_int (ov.toNat : Int) ov rfl wS).mono ?_
                  rintro e w' ⟨g, rfl, _, _, ho, hb⟩
                  exact ⟨_, rfl, ⟨_, _, rfl⟩, Kept.of_below hb, own_fresh ho hC.size⟩
                obtain ⟨A7, c7, rfl⟩ := hv; (go_simp; refine hK _ ?_; clear hK K)
                repeat (first | (refine wx_quietU (by rfl) (by rfl) (by rfl) (fun K hK => ?_); go_big_quiet_op; refine hK _ ?_; clear hK K) | (refine wx_quietG (by rfl) (by rfl) (by rfl) (by rfl) (by rfl) (fun K hK => ?_); go_big_quiet_op; refine hK _ ?_; clear hK K) | (refine wx_skipG (by rfl) (by rfl) (by rfl) (fun K hK => ?_); go_simp; refine hK _ ?_; clear hK K) | (refine wx_skipN (by rfl) (by rfl) (by rfl) (fun K hK => ?_); go_simp; refine hK _ ?_; clear hK K))
                refine wx_loudG (us := [6]) (by rfl) (by rfl) (by rfl) (by rfl) (fun S wS hC hS hU => ?_) (fun v hv K hK => ?_)
                · have k6 : OwnF w5.heap.size 5 1 64 (B8 (fullL ov)) (.slice A7 64 c7) S wS := hU 6 (by simp)
                  have st := bstr (own_sl k6.2)
                  exact runs_value (by go_simp <;> rfl) ⟨rfl, Kept.refl _ _, trivial⟩
                obtain rfl := hv; (go_simp; refine hK _ ?_; clear hK K)
                repeat (first | (refine wx_quietU (by rfl) (by rfl) (by rfl) (fun K hK => ?_); go_big_quiet_op; refine hK _ ?_; clear hK K) | (refine wx_quietG (by rfl) (by rfl) (by rfl) (by rfl) (by rfl) (fun K hK => ?_); go_big_quiet_op; refine hK _ ?_; clear hK K) | (refine wx_skipG (by rfl) (by rfl) (by rfl) (fun K hK => ?_); go_simp; refine hK _ ?_; clear hK K) | (refine wx_skipN (by rfl) (by rfl) (by rfl) (fun K hK => ?_); go_simp; refine hK _ ?_; clear hK K))
                refine wx_nil fun w6 hsat => ?_
                have hb6 := sat_below hsat
                have hb7 := hb5.trans (hb6.mono hb5.size)
                clear hsat qs hs5 hb6
                go_wp2_with fail
                go_light
                exact ⟨⟨i + 1, by omega, by go_num, hb7⟩, by simp [intOf]; omega⟩
              | false =>
                rw [hkv] at s0
                rw [hkv, if_neg Bool.false_ne_true, show zero64 = fullL 0 from rfl] at hs5
                clear hkv
                go_wp2_with fail
                have qs : ((S8 (fullL 0)).toList == (S8 (fullL 0)).toList) = true := by simp
                refine wp_region_loud (fun _ => False)
                  [(4, plainL [] (.string (S8 (fullL 0)))), (6, rowL [] w5.heap.size 5 1 64 (B8 (fullL 0))), (7, plainL [6] (.string (S8 (fullL 0))))]
                  (fun _ => Fact.none) (by kernel_rfl) (by kernel_rfl)
                  (.cons (plainL_ok _ _) (.cons (rowL_ok _ _ _ _ _ _) (.cons (plainL_ok _ _) .nil))) good_nothing sat_none (WX.out ?_)
                repeat (first | (refine wx_quietU (by rfl) (by rfl) (by rfl) (fun K hK => ?_); go_big_quiet_op; refine hK _ ?_; clear hK K) | (refine wx_quietG (by rfl) (by rfl) (by rfl) (by rfl) (by rfl) (fun K hK => ?_); go_big_quiet_op; refine hK _ ?_; clear hK K) | (refine wx_skipG (by rfl) (by rfl) (by rfl) (fun K hK => ?_); go_simp; refine hK _ ?_; clear hK K) | (refine wx_skipN (by rfl) (by rfl) (by rfl) (fun K hK => ?_); go_simp; refine hK _ ?_; clear hK K))
                refine wx_loudG (us := []) (by rfl) (by rfl) (by rfl) (by rfl) (fun S wS hC hS hU => ?_) (fun v hv K hK => ?_)
                · have st := bstr (hs5.below hC.below)
                  exact runs_value (by go_simp <;> rfl) ⟨rfl, Kept.refl _ _, trivial⟩
                obtain rfl := hv; (go_simp; refine hK _ ?_; clear hK K)
                repeat (first | (refine wx_quietU (by rfl) (by rfl) (by rfl) (fun K hK => ?_); go_big_quiet_op; refine hK _ ?_; clear hK K) | (refine wx_quietG (by rfl) (by rfl) (by rfl) (by rfl) (by rfl) (fun K hK => ?_); go_big_quiet_op; refine hK _ ?_; clear hK K) | (refine wx_skipG (by rfl) (by rfl) (by rfl) (fun K hK => ?_); go_simp; refine hK _ ?_; clear hK K) | (refine wx_skipN (by rfl) (by rfl) (by rfl) (fun K hK => ?_); go_simp; refine hK _ ?_; clear hK K))
                refine wx_loudG (us := []) (by rfl) (by rfl) (by rfl) (by rfl) (fun S wS hC hS hU => runs_enter (f := 23) (by go_simp <;> rfl) ?_) (fun v hv K hK => ?_)
                · refine (full_int 0 0 rfl wS).mono ?_
                  rintro e w' ⟨g, rfl, _, _, ho, hb⟩
                  exact ⟨_, rfl, ⟨_, _, rfl⟩, Kept.of_below hb, own_fresh ho hC.size⟩
                obtain ⟨A7, c7, rfl⟩ := hv; (go_simp; refine hK _ ?_; clear hK K)
                repeat (first | (refine wx_quietU (by rfl) (by rfl) (by rfl) (fun K hK => ?_); go_big_quiet_op; refine hK _ ?_; clear hK K) | (refine wx_quietG (by rfl) (by rfl) (by rfl) (by rfl) (by rfl) (fun K hK => ?_); go_big_quiet_op; refine hK _ ?_; clear hK K) | (refine wx_skipG (by rfl) (by rfl) (by rfl) (fun K hK => ?_); go_simp; refine hK _ ?_; clear hK K) | (refine wx_skipN (by rfl) (by rfl) (by rfl) (fun K hK => ?_); go_simp; refine hK _ ?_; clear hK K))
                refine wx_loudG (us := [6]) (by rfl) (by rfl) (by rfl) (by rfl) (fun S wS hC hS hU => ?_) (fun v hv K hK => ?_)
                · have k6 : OwnF w5.heap.size 5 1 64 (B8 (fullL 0)) (.slice A7 64 c7) S wS := hU 6 (by simp)
                  have st := bstr (own_sl k6.2)
                  exact runs_value (by go_simp <;> rfl) ⟨rfl, Kept.refl _ _, trivial⟩
                obtain rfl := hv; (go_simp; refine hK _ ?_; clear hK K)
                repeat (first | (refine wx_quietU (by rfl) (by rfl) (by rfl) (fun K hK => ?_); go_big_quiet_op; refine hK _ ?_; clear hK K) | (refine wx_quietG (by rfl) (by rfl) (by rfl) (by rfl) (by rfl) (fun K hK => ?_); go_big_quiet_op; refine hK _ ?_; clear hK K) | (refine wx_skipG (by rfl) (by rfl) (by rfl) (fun K hK => ?_); go_simp; refine hK _ ?_; clear hK K) | (refine wx_skipN (by rfl) (by rfl) (by rfl) (fun K hK => ?_); go_simp; refine hK _ ?_; clear hK K))
                refine wx_nil fun w6 hsat => ?_
                have hb6 := sat_below hsat
                have hb7 := hb5.trans (hb6.mono hb5.size)
                clear hsat qs hs5 hb6
                go_wp2_with fail
                go_light
                exact ⟨⟨i + 1, by omega, by go_num, hb7⟩, by simp [intOf]; omega⟩
            · have hkl : kl.length = nk := by
                obtain ⟨A', n', c', he2, hl, _⟩ := hK
                injection he2 with h1 h2 h3
                subst h2
                simpa [BO] using hl
              have hkv : kl.getD i false = false := by rw [List.getD_eq_getElem?_getD, List.getElem?_eq_none (by omega)]; rfl
              rw [hkv, if_neg Bool.false_ne_true, show zero64 = fullL 0 from rfl] at hs5
              clear hkv hkl
              go_wp2_with fail
              have qs : ((S8 (fullL 0)).toList == (S8 (fullL 0)).toList) = true := by simp
              refine wp_region_loud (fun _ => False)
                [(4, plainL [] (.string (S8 (fullL 0)))), (6, rowL [] w5.heap.size 5 1 64 (B8 (fullL 0))), (7, plainL [6] (.string (S8 (fullL 0))))]
                (fun _ => Fact.none) (by kernel_rfl) (by kernel_rfl)
                (.cons (plainL_ok _ _) (.cons (rowL_ok _ _ _ _ _ _) (.cons (plainL_ok _ _) .nil))) good_nothing sat_none (WX.out ?_)
              repeat (first | (refine wx_quietU (by rfl) (by rfl) (by rfl) (fun K hK => ?_); go_big_quiet_op; refine hK _ ?_; clear hK K) | (refine wx_quietG (by rfl) (by rfl) (by rfl) (by rfl) (by rfl) (fun K hK => ?_); go_big_quiet_op; refine hK _ ?_; clear hK K) | (refine wx_skipG (by rfl) (by rfl) (by rfl) (fun K hK => ?_); go_simp; refine hK _ ?_; clear hK K) | (refine wx_skipN (by rfl) (by rfl) (by rfl) (fun K hK => ?_); go_simp; refine hK _ ?_; clear hK K))
              refine wx_loudG (us := []) (by rfl) (by rfl) (by rfl) (by rfl) (fun S wS hC hS hU => ?_) (fun v hv K hK => ?_)
              · have st := bstr (hs5.below hC.below)
                exact runs_value (by go_simp <;> rfl) ⟨rfl, Kept.refl _ _, trivial⟩
              obtain rfl := hv; (go_simp; refine hK _ ?_; clear hK K)
              repeat (first | (refine wx_quietU (by rfl) (by rfl) (by rfl) (fun K hK => ?_); go_big_quiet_op; refine hK _ ?_; clear hK K) | (refine wx_quietG (by rfl) (by rfl) (by rfl) (by rfl) (by rfl) (fun K hK => ?_); go_big_quiet_op; refine hK _ ?_; clear hK K) | (refine wx_skipG (by rfl) (by rfl) (by rfl) (fun K hK => ?_); go_simp; refine hK _ ?_; clear hK K) | (refine wx_skipN (by rfl) (by rfl) (by rfl) (fun K hK => ?_); go_simp; refine hK _ ?_; clear hK K))
              refine wx_loudG (us := []) (by rfl) (by rfl) (by rfl) (by rfl) (fun S wS hC hS hU => runs_enter (f := 23) (by go_simp <;> rfl) ?_) (fun v hv K hK => ?_)
              · refine (full_int 0 0 rfl wS).mono ?_
                rintro e w' ⟨g, rfl, _, _, ho, hb⟩
                exact ⟨_, rfl, ⟨_, _, rfl⟩, Kept.of_below hb, own_fresh ho hC.size⟩
              obtain ⟨A7, c7, rfl⟩ := hv; (go_simp; refine hK _ ?_; clear hK K)
              repeat (first | (refine wx_quietU (by rfl) (by rfl) (by rfl) (fun K hK => ?_); go_big_quiet_op; refine hK _ ?_; clear hK K) | (refine wx_quietG (by rfl) (by rfl) (by rfl) (by rfl) (by rfl) (fun K hK => ?_); go_big_quiet_op; refine hK _ ?_; clear hK K) | (refine wx_skipG (by rfl) (by rfl) (by rfl) (fun K hK => ?_); go_simp; refine hK _ ?_; clear hK K) | (refine wx_skipN (by rfl) (by rfl) (by rfl) (fun K hK => ?_); go_simp; refine hK _ ?_; clear hK K))
              refine wx_loudG (us := [6]) (by rfl) (by rfl) (by rfl) (by rfl) (fun S wS hC hS hU => ?_) (fun v hv K hK => ?_)
              · have k6 : OwnF w5.heap.size 5 1 64 (B8 (fullL 0)) (.slice A7 64 c7) S wS := hU 6 (by simp)
                have st := bstr (own_sl k6.2)
                exact runs_value (by go_simp <;> rfl) ⟨rfl, Kept.refl _ _, trivial⟩
              obtain rfl := hv; (go_simp; refine hK _ ?_; clear hK K)
              repeat (first | (refine wx_quietU (by rfl) (by rfl) (by rfl) (fun K hK => ?_); go_big_quiet_op; refine hK _ ?_; clear hK K) | (refine wx_quietG (by rfl) (by rfl) (by rfl) (by rfl) (by rfl) (fun K hK => ?_); go_big_quiet_op; refine hK _ ?_; clear hK K) | (refine wx_skipG (by rfl) (by rfl) (by rfl) (fun K hK => ?_); go_simp; refine hK _ ?_; clear hK K) | (refine wx_skipN (by rfl) (by rfl) (by rfl) (fun K hK => ?_); go_simp; refine hK _ ?_; clear hK K))
              refine wx_nil fun w6 hsat => ?_
              have hb6 := sat_below hsat
              have hb7 := hb5.trans (hb6.mono hb5.size)
              clear hsat qs hs5 hb6
              go_wp2_with fail
              go_light
              exact ⟨⟨i + 1, by omega, by go_num, hb7⟩, by simp [intOf]; omega⟩
          · obtain rfl : i = O.length := by omega
            have hb5 := hbw3.trans (hb4.mono hbw3.size)
            go_wp2_with fail
            refine (waitsLaw_any wr).mono ?_
            rintro e w6 ⟨rfl, hb6⟩
            have hb7 := hb5.trans (hb6.mono hb5.size)
            clear hb6 hb5 hb4
            go_wp2_with fail
            go_ret
            exact ⟨rfl, hb7⟩
    ·
      obtain ⟨hmd, hmg, hmr, hvd, hwm⟩ := (⟨hK0.md, hK0.mg, hK0.mr, hK0.vd, hK0.wm⟩ : _ ∧ _ ∧ _ ∧ _ ∧ _)
      have hord := hK0.ord
      go_wp2_with fail
      refine (waits_any w.heap.size wr (kD B O) d gs cs r Ao co hK0.dk).mono ?_
      rintro e w2 ⟨rfl, rfl⟩
      rw [show (kD B O).order.length = O.length from rfl]
      have hKw := hK.below hK0.bel
      have hgs := hK0.dk.ges.2.1
      have hkn : 0 < nk → ∀ ad, K = some ad → ad.block ≠ gs := fun h0 ad had e => by
        obtain ⟨bk, ok, hk1, hk2, _⟩ := BO_cell hK h0
        rw [hk1] at had
        injection had with had
        subst had
        simp only [] at e
        omega
      go_wp2_with fail
      refine (crash_any w.heap.size w2 (kD B O) d gs cs r Ao co K nk ck kl hK0.dk hK0.bel.size (fun x hx => by have := hord.bd x hx; simp [kD]; omega) hKw hkn).mono ?_
      rintro e w3 ⟨rfl, r3, h3, hk3⟩
      have hrow3 := ownsRow_kept hK0.row hk3 (fun g hg e => by
        cases Av with
        | none => simp [Value.ownBlock] at hg
        | some ad =>
          simp [Value.ownBlock] at hg
          have hv := hvd ad rfl
          rcases e with e | e
          · exact hv.2.1 (by omega)
          · exact hv.1 (by omega))
      obtain ⟨es, clk, hm2, he⟩ := hK0.map
      have hmap3 := blk_kept hm2 hk3 (fun e => by rcases e with e | e; exact hmg e; exact hmd e)
      have hbw3 := hK0.bel.trans (hk3.below_of hK0.bel.size (fun b hb => by rcases hb with e | e <;> rw [e]; exact hgs; exact hK0.dk.ges.1))
      have hK3 := hK.below hbw3
      clear hm2 hk3 hK0 hKw hkn
      go_wp2_with fail
      go_loopw [13] (fun v wr => ∃ i : Nat, i ≤ O.length ∧ v = .int .i64 i ∧ Below w3.heap.size w3 wr) (fun v _ => O.length - (intOf v).toNat)
      case atStart => exact ⟨0, Nat.zero_le _, rfl, Below.refl _ _⟩
      case round =>
        obtain ⟨i, hi, rfl, hb4⟩ := hrel
        by_cases hio : i < O.length
        ·
          have hrow4 := own_below hrow3 hb4
          obtain ⟨gv, rfl, _, _⟩ := own_some hrow4 (by omega)
          have p0 := II_cell hrow4 hio
          have hcr := crash_read B O kl hord i hio
          have hbx : 0 ≤ O.getD i 0 ∧ O.getD i 0 < 32 := by
            rw [List.getD_eq_getElem?_getD, List.getElem?_eq_getElem hio]
            exact hord.bd _ (List.getElem_mem hio)
          have hmap4 := blk_below hmap3 hb4 (Array.getElem?_eq_some_iff.1 hmap3).1
          have hlk := fun W (hW : W.heap[m]? = some (.map es clk)) => ilook (P := Try.prog) (w := W) false Try.underlying38 Try.underlying3 (z := .int .u8 0) (Try.zeroValue5 W) hW he (O.getD i 0)
          simp only [Bool.false_eq_true, if_false, mB_look] at hlk
          generalize (lookB B (O.getD i 0)).getD 0 = ov at *
          generalize hgy : O.getD i 0 = y at *
          obtain ⟨x, rfl⟩ := Int.eq_ofNat_of_zero_le hbx.1
          have HGY := hid hgy
          clear hgy
          have hD4 := h3.below hb4
          have hsl3 : (crashD (kD B O) kl).stay.length = 32 := by
            show (crashTo (kD B O) kl _).stay.length = 32
            rw [crashTo_stay]
            simp [kD]
          go_wp2_with fail
          refine (read_any w.heap.size wr (crashD (kD B O) kl) d gs cs r3 none 0 x hD4 (by rw [hsl3]; omega) rfl).mono ?_
          rintro e w5 ⟨g5, rfl, _, _, hs5, hb5'⟩
          have hb5 := hb4.trans (hb5'.mono hb4.size)
          simp only [Int.toNat_natCast] at hcr
          rw [hcr] at hs5
          have hmap5 := blk_below hmap4 hb5' (Array.getElem?_eq_some_iff.1 hmap4).1
          have hrow5 := own_below hrow4 hb5'
          have p5 := II_cell hrow5 hio
          rw [HGY.out] at p5
          have hl5 := hlk w5 hmap5
          have hK5 := hK3.below hb5
          clear hD4 hsl3 hcr hlk hb5' hmap4 hmap5 hrow4 hrow5 p0
          by_cases hin : i < nk
          · obtain ⟨bk, ok, rfl, hbk, s0⟩ := BO_cell hK5 hin
            cases hkv : kl.getD i false with
            | true =>
              rw [hkv] at s0
              rw [hkv, if_pos rfl] at hs5
              clear hkv
              go_wp2_with fail
              have qs : ((S8 (fullL ov)).toList == (S8 (fullL ov)).toList) = true := by simp
              refine wp_region_loud (fun _ => False)
                [(4, plainL [] (.string (S8 (fullL ov)))), (6, rowL [] w5.heap.size 5 1 64 (B8 (fullL ov))), (7, plainL [6] (.string (S8 (fullL ov))))]
                (fun _ => Fact.none) (by kernel_rfl) (by kernel_rfl)
                (.cons (plainL_ok _ _) (.cons (rowL_ok _ _ _ _ _ _) (.cons (plainL_ok _ _) .nil))) good_nothing sat_none (WX.out ?_)
              repeat (first | (refine wx_quietU (by rfl) (by rfl) (by rfl) (fun K hK => ?_); go_big_quiet_op; refine hK _ ?_; clear hK K) | (refine wx_quietG (by rfl) (by rfl) (by rfl) (by rfl) (by rfl) (fun K hK => ?_); go_big_quiet_op; refine hK _ ?_; clear hK K) | (refine wx_skipG (by rfl) (by rfl) (by rfl) (fun K hK => ?_); go_simp; refine hK _ ?_; clear hK K) | (refine wx_skipN (by rfl) (by rfl) (by rfl) (fun K hK => ?_); go_simp; refine hK _ ?_; clear hK K))
              refine wx_loudG (us := []) (by rfl) (by rfl) (by rfl) (by rfl) (fun S wS hC hS hU => ?_) (fun v hv K hK => ?_)
              · have st := bstr (hs5.below hC.below)
                exact runs_value (by go_simp <;> rfl) ⟨rfl, Kept.refl _ _, trivial⟩
              obtain rfl := hv; (go_simp; refine hK _ ?_; clear hK K)
              repeat (first | (refine wx_quietU (by rfl) (by rfl) (by rfl) (fun K hK => ?_); go_big_quiet_op; refine hK _ ?_; clear hK K) | (refine wx_quietG (by rfl) (by rfl) (by rfl) (by rfl) (by rfl) (fun K hK => ?_); go_big_quiet_op; refine hK _ ?_; clear hK K) | (refine wx_skipG (by rfl) (by rfl) (by rfl) (fun K hK => ?_); go_simp; refine hK _ ?_; clear hK K) | (refine wx_skipN (by rfl) (by rfl) (by rfl) (fun K hK => ?_); go_simp; refine hK _ ?_; clear hK K))
              refine wx_loudG (us := []) (by rfl) (by rfl) (by rfl) (by rfl) (fun S wS hC hS hU => runs_enter (f := 23) (by go_simp <;> rfl) ?_) (fun v hv K hK => ?_)
              · refine (full_int (ov.toNat : Int) ov rfl wS).mono ?_
                rintro e w' ⟨g, rfl, _, _, ho, hb⟩
                exact ⟨_, rfl, ⟨_, _, rfl⟩, Kept.of_below hb, own_fresh ho hC.size⟩
              obtain ⟨A7, c7, rfl⟩ := hv; (go_simp; refine hK _ ?_; clear hK K)
              repeat (first | (refine wx_quietU (by rfl) (by rfl) (by rfl) (fun K hK => ?_); go_big_quiet_op; refine hK _ ?_; clear hK K) | (refine wx_quietG (by rfl) (by rfl) (by rfl) (by rfl) (by rfl) (fun K hK => ?_); go_big_quiet_op; refine hK _ ?_; clear hK K) | (refine wx_skipG (by rfl) (by rfl) (by rfl) (fun K hK => ?_); go_simp; refine hK _ ?_; clear hK K) | (refine wx_skipN (by rfl) (by rfl) (by rfl) (fun K hK => ?_); go_simp; refine hK _ ?_; clear hK K))
              refine wx_loudG (us := [6]) (by rfl) (by rfl) (by rfl) (by rfl) (fun S wS hC hS hU => ?_) (fun v hv K hK => ?_)
              · have k6 : OwnF w5.heap.size 5 1 64 (B8 (fullL ov)) (.slice A7 64 c7) S wS := hU 6 (by simp)
                have st := bstr (own_sl k6.2)
                exact runs_value (by go_simp <;> rfl) ⟨rfl, Kept.refl _ _, trivial⟩
              obtain rfl := hv; (go_simp; refine hK _ ?_; clear hK K)
              repeat (first | (refine wx_quietU (by rfl) (by rfl) (by rfl) (fun K hK => ?_); go_big_quiet_op; refine hK _ ?_; clear hK K) | (refine wx_quietG (by rfl) (by rfl) (by rfl) (by rfl) (by rfl) (fun K hK => ?_); go_big_quiet_op; refine hK _ ?_; clear hK K) | (refine wx_skipG (by rfl) (by rfl) (by rfl) (fun K hK => ?_); go_simp; refine hK _ ?_; clear hK K) | (refine wx_skipN (by rfl) (by rfl) (by rfl) (fun K hK => ?_); go_simp; refine hK _ ?_; clear hK K))
              refine wx_nil fun w6 hsat => ?_
              have hb6 := sat_below hsat
              have hb7 := hb5.trans (hb6.mono hb5.size)
              clear hsat qs hs5 hb6
              go_wp2_with fail
              go_light
              exact ⟨⟨i + 1, by omega, by go_num, hb7⟩, by simp [intOf]; omega⟩
            | false =>
              rw [hkv] at s0
              rw [hkv, if_neg Bool.false_ne_true, show zero64 = fullL 0 from rfl] at hs5
              clear hkv
              go_wp2_with fail
              have qs : ((S8 (fullL 0)).toList == (S8 (fullL 0)).toList) = true := by simp
              refine wp_region_loud (fun _ => False)
                [(4, plainL [] (.string (S8 (fullL 0)))), (6, rowL [] w5.heap.size 5 1 64 (B8 (fullL 0))), (7, plainL [6] (.string (S8 (fullL 0))))]
                (fun _ => Fact.none) (by kernel_rfl) (by kernel_rfl)
                (.cons (plainL_ok _ _) (.cons (rowL_ok _ _ _ _ _ _) (.cons (plainL_ok _ _) .nil))) good_nothing sat_none (WX.out ?_)
              repeat (first | (refine wx_quietU (by rfl) (by rfl) (by rfl) (fun K hK => ?_); go_big_quiet_op; refine hK _ ?_; clear hK K) | (refine wx_quietG (by rfl) (by rfl) (by rfl) (by rfl) (by rfl) (fun K hK => ?_); go_big_quiet_op; refine hK _ ?_; clear hK K) | (refine wx_skipG (by rfl) (by rfl) (by rfl) (fun K hK => ?_); go_simp; refine hK _ ?_; clear hK K) | (refine wx_skipN (by rfl) (by rfl) (by rfl) (fun K hK => ?_); go_simp; refine hK _ ?_; clear hK K))
              refine wx_loudG (us := []) (by rfl) (by rfl) (by rfl) (by rfl) (fun S wS hC hS hU => ?_) (fun v hv K hK => ?_)
              · have st := bstr (hs5.below hC.below)
                exact runs_value (by go_simp <;> rfl) ⟨rfl, Kept.refl _ _, trivial⟩
              obtain rfl := hv; (go_simp; refine hK _ ?_; clear hK K)
              repeat (first | (refine wx_quietU (by rfl) (by rfl) (by rfl) (fun K hK => ?_); go_big_quiet_op; refine hK _ ?_; clear hK K) | (refine wx_quietG (by rfl) (by rfl) (by rfl) (by rfl) (by rfl) (fun K hK => ?_); go_big_quiet_op; refine hK _ ?_; clear hK K) | (refine wx_skipG (by rfl) (by rfl) (by rfl) (fun K hK => ?_); go_simp; refine hK _ ?_; clear hK K) | (refine wx_skipN (by rfl) (by rfl) (by rfl) (fun K hK => ?_); go_simp; refine hK _ ?_; clear hK K))
              refine wx_loudG (us := []) (by rfl) (by rfl) (by rfl) (by rfl) (fun S wS hC hS hU => runs_enter (f := 23) (by go_simp <;> rfl) ?_) (fun v hv K hK => ?_)
              · refine (full_int 0 0 rfl wS).mono ?_
                rintro e w' ⟨g, rfl, _, _, ho, hb⟩
                exact ⟨_, rfl, ⟨_, _, rfl⟩, Kept.of_below hb, own_fresh ho hC.size⟩
              obtain ⟨A7, c7, rfl⟩ := hv; (go_simp; refine hK _ ?_; clear hK K)
              repeat (first | (refine wx_quietU (by rfl) (by rfl) (by rfl) (fun K hK => ?_); go_big_quiet_op; refine hK _ ?_; clear hK K) | (refine wx_quietG (by rfl) (by rfl) (by rfl) (by rfl) (by rfl) (fun K hK => ?_); go_big_quiet_op; refine hK _ ?_; clear hK K) | (refine wx_skipG (by rfl) (by rfl) (by rfl) (fun K hK => ?_); go_simp; refine hK _ ?_; clear hK K) | (refine wx_skipN (by rfl) (by rfl) (by rfl) (fun K hK => ?_); go_simp; refine hK _ ?_; clear hK K))
              refine wx_loudG (us := [6]) (by rfl) (by rfl) (by rfl) (by rfl) (fun S wS hC hS hU => ?_) (fun v hv K hK => ?_)
              · have k6 : OwnF w5.heap.size 5 1 64 (B8 (fullL 0)) (.slice A7 64 c7) S wS := hU 6 (by simp)
                have st := bstr (own_sl k6.2)
                exact runs_value (by go_simp <;> rfl) ⟨rfl, Kept.refl _ _, trivial⟩
              obtain rfl := hv; (go_simp; refine hK _ ?_; clear hK K)
              repeat (first | (refine wx_quietU (by rfl) (by rfl) (by rfl) (fun K hK => ?_); go_big_quiet_op; refine hK _ ?_; clear hK K) | (refine wx_quietG (by rfl) (by rfl) (by rfl) (by rfl) (by rfl) (fun K hK => ?_); go_big_quiet_op; refine hK _ ?_; clear hK K) | (refine wx_skipG (by rfl) (by rfl) (by rfl) (fun K hK => ?_); go_simp; refine hK _ ?_; clear hK K) | (refine wx_skipN (by rfl) (by rfl) (by rfl) (fun K hK => ?_); go_simp; refine hK _ ?_; clear hK K))
              refine wx_nil fun w6 hsat => ?_
              have hb6 := sat_below hsat
              have hb7 := hb5.trans (hb6.mono hb5.size)
              clear hsat qs hs5 hb6
              go_wp2_with fail
              go_light
              exact ⟨⟨i + 1, by omega, by go_num, hb7⟩, by simp [intOf]; omega⟩
          · have hkl : kl.length = nk := by
              obtain ⟨A', n', c', he2, hl, _⟩ := hK
              injection he2 with h1 h2 h3
              subst h2
              simpa [BO] using hl
            have hkv : kl.getD i false = false := by rw [List.getD_eq_getElem?_getD, List.getElem?_eq_none (by omega)]; rfl
            rw [hkv, if_neg Bool.false_ne_true, show zero64 = fullL 0 from rfl] at hs5
            clear hkv hkl
            go_wp2_with fail
            have qs : ((S8 (fullL 0)).toList == (S8 (fullL 0)).toList) = true := by simp
            refine wp_region_loud (fun _ => False)
              [(4, plainL [] (.string (S8 (fullL 0)))), (6, rowL [] w5.heap.size 5 1 64 (B8 (fullL 0))), (7, plainL [6] (.string (S8 (fullL 0))))]
              (fun _ => Fact.none) (by kernel_rfl) (by kernel_rfl)
              (.cons (plainL_ok _ _) (.cons (rowL_ok _ _ _ _ _ _) (.cons (plainL_ok _ _) .nil))) good_nothing sat_none (WX.out ?_)
            repeat (first | (refine wx_quietU (by rfl) (by rfl) (by rfl) (fun K hK => ?_); go_big_quiet_op; refine hK _ ?_; clear hK K) | (refine wx_quietG (by rfl) (by rfl) (by rfl) (by rfl) (by rfl) (fun K hK => ?_); go_big_quiet_op; refine hK _ ?_; clear hK K) | (refine wx_skipG (by rfl) (by rfl) (by rfl) (fun K hK => ?_); go_simp; refine hK _ ?_; clear hK K) | (refine wx_skipN (by rfl) (by rfl) (by rfl) (fun K hK => ?_); go_simp; refine hK _ ?_; clear hK K))
            refine wx_loudG (us := []) (by rfl) (by rfl) (by rfl) (by rfl) (fun S wS hC hS hU => ?_) (fun v hv K hK => ?_)
            · have st := bstr (hs5.below hC.below)
              exact runs_value (by go_simp <;> rfl) ⟨rfl, Kept.refl _ _, trivial⟩
            obtain rfl := hv; (go_simp; refine hK _ ?_; clear hK K)
            repeat (first | (refine wx_quietU (by rfl) (by rfl) (by rfl) (fun K hK => ?_); go_big_quiet_op; refine hK _ ?_; clear hK K) | (refine wx_quietG (by rfl) (by rfl) (by rfl) (by rfl) (by rfl) (fun K hK => ?_); go_big_quiet_op; refine hK _ ?_; clear hK K) | (refine wx_skipG (by rfl) (by rfl) (by rfl) (fun K hK => ?_); go_simp; refine hK _ ?_; clear hK K) | (refine wx_skipN (by rfl) (by rfl) (by rfl) (fun K hK => ?_); go_simp; refine hK _ ?_; clear hK K))
            refine wx_loudG (us := []) (by rfl) (by rfl) (by rfl) (by rfl) (fun S wS hC hS hU => runs_enter (f := 23) (by go_simp <;> rfl) ?_) (fun v hv K hK => ?_)
            · refine (full_int 0 0 rfl wS).mono ?_
              rintro e w' ⟨g, rfl, _, _, ho, hb⟩
              exact ⟨_, rfl, ⟨_, _, rfl⟩, Kept.of_below hb, own_fresh ho hC.size⟩
            obtain ⟨A7, c7, rfl⟩ := hv; (go_simp; refine hK _ ?_; clear hK K)
            repeat (first | (refine wx_quietU (by rfl) (by rfl) (by rfl) (fun K hK => ?_); go_big_quiet_op; refine hK _ ?_; clear hK K) | (refine wx_quietG (by rfl) (by rfl) (by rfl) (by rfl) (by rfl) (fun K hK => ?_); go_big_quiet_op; refine hK _ ?_; clear hK K) | (refine wx_skipG (by rfl) (by rfl) (by rfl) (fun K hK => ?_); go_simp; refine hK _ ?_; clear hK K) | (refine wx_skipN (by rfl) (by rfl) (by rfl) (fun K hK => ?_); go_simp; refine hK _ ?_; clear hK K))
            refine wx_loudG (us := [6]) (by rfl) (by rfl) (by rfl) (by rfl) (fun S wS hC hS hU => ?_) (fun v hv K hK => ?_)
            · have k6 : OwnF w5.heap.size 5 1 64 (B8 (fullL 0)) (.slice A7 64 c7) S wS := hU 6 (by simp)
              have st := bstr (own_sl k6.2)
              exact runs_value (by go_simp <;> rfl) ⟨rfl, Kept.refl _ _, trivial⟩
            obtain rfl := hv; (go_simp; refine hK _ ?_; clear hK K)
            repeat (first | (refine wx_quietU (by rfl) (by rfl) (by rfl) (fun K hK => ?_); go_big_quiet_op; refine hK _ ?_; clear hK K) | (refine wx_quietG (by rfl) (by rfl) (by rfl) (by rfl) (by rfl) (fun K hK => ?_); go_big_quiet_op; refine hK _ ?_; clear hK K) | (refine wx_skipG (by rfl) (by rfl) (by rfl) (fun K hK => ?_); go_simp; refine hK _ ?_; clear hK K) | (refine wx_skipN (by rfl) (by rfl) (by rfl) (fun K hK => ?_); go_simp; refine hK _ ?_; clear hK K))
            refine wx_nil fun w6 hsat => ?_
            have hb6 := sat_below hsat
            have hb7 := hb5.trans (hb6.mono hb5.size)
            clear hsat qs hs5 hb6
            go_wp2_with fail
            go_light
            exact ⟨⟨i + 1, by omega, by go_num, hb7⟩, by simp [intOf]; omega⟩
        · obtain rfl : i = O.length := by omega
          have hb5 := hbw3.trans (hb4.mono hbw3.size)
          go_wp2_with fail
          refine (waitsLaw_any wr).mono ?_
          rintro e w6 ⟨rfl, hb6⟩
          have hb7 := hb5.trans (hb6.mono hb5.size)
          clear hb6 hb5 hb4
          go_wp2_with fail
          go_ret
          exact ⟨rfl, hb7⟩
end Go.Proofs.Ytaajhkdifliblaa
