/-
  A disk, the program's and the reference's, by the set of its blocks; the calls of both, whatever they answer.
-/
import Derived.Test.YtfhlidlmipleaaaDkI
import Derived.Test.YtfhlidlmipleaaaDk9
namespace Go.Proofs.Ytfhlidlmipleaaa
set_option linter.unusedVariables false
set_option linter.unusedSimpArgs false
open Go Go.RowKit

def Dsk (base : Nat) (w : World) (D : Dk) (d : Nat) (I : Nat → Prop) : Prop := ∃ gs cs r Ao co, DkAt base w D d gs cs r Ao co ∧ ∀ b, I b ↔ (b = d ∨ b = gs ∨ b = r ∨ Value.ownBlock (.slice Ao D.order.length co) = some b)
def Rsk (base : Nat) (w : World) (D : Dk) (p : Nat) (J : Nat → Prop) : Prop := ∃ As cs r Ao co, RkAt base w D p As cs r Ao co ∧ ∀ b, J b ↔ (b = p ∨ Value.ownBlock (.slice As D.stay.length cs) = some b ∨ b = r ∨ Value.ownBlock (.slice Ao D.order.length co) = some b)
/-- how a set of blocks turns -/
def Turn (I : Nat → Prop) (w w' : World) (I' : Nat → Prop) : Prop := Kept I w w' ∧ ∀ b, I' b → I b ∨ w.heap.size ≤ b
theorem Dsk.bd {base : Nat} {w : World} {D : Dk} {d : Nat} {I : Nat → Prop} (h : Dsk base w D d I) : ∀ b, I b → base ≤ b ∧ b < w.heap.size := by
  obtain ⟨gs, cs, r, Ao, co, h, hI⟩ := h
  intro b hb
  obtain ⟨l1, l2, l3, l4⟩ := h.lts
  obtain ⟨g1, g2, g3, g4⟩ := h.ges
  rcases (hI b).1 hb with e | e | e | e
  · rw [e]; exact ⟨g1, l1⟩
  · rw [e]; exact ⟨g2, l2⟩
  · rw [e]; exact ⟨g3, l3⟩
  · exact ⟨g4 b e, l4 b e⟩
theorem Rsk.bd {base : Nat} {w : World} {D : Dk} {p : Nat} {J : Nat → Prop} (h : Rsk base w D p J) : ∀ b, J b → base ≤ b ∧ b < w.heap.size := by
  obtain ⟨As, cs, r, Ao, co, h, hJ⟩ := h
  intro b hb
  obtain ⟨es, clk, hm, _⟩ := h.map
  rcases (hJ b).1 hb with e | e | e | e
  · rw [e]; exact ⟨h.bp, (Array.getElem?_eq_some_iff.1 h.blk).1⟩
  · exact h.stay.lt b e
  · rw [e]; exact ⟨h.br, (Array.getElem?_eq_some_iff.1 hm).1⟩
  · exact h.ord.lt b e
theorem Dsk.kept {base : Nat} {w w' : World} {D : Dk} {d : Nat} {I S : Nat → Prop} (h : Dsk base w D d I) (hk : Kept S w w') (hd : ∀ b, I b → ¬ S b) : Dsk base w' D d I := by
  obtain ⟨gs, cs, r, Ao, co, h, hI⟩ := h
  exact ⟨gs, cs, r, Ao, co, h.kept hk (hd _ ((hI _).2 (.inl rfl))) (hd _ ((hI _).2 (.inr (.inl rfl)))) (hd _ ((hI _).2 (.inr (.inr (.inl rfl))))) (fun g hg => hd _ ((hI _).2 (.inr (.inr (.inr hg))))), hI⟩
theorem Rsk.kept {base : Nat} {w w' : World} {D : Dk} {p : Nat} {J S : Nat → Prop} (h : Rsk base w D p J) (hk : Kept S w w') (hd : ∀ b, J b → ¬ S b) : Rsk base w' D p J := by
  obtain ⟨As, cs, r, Ao, co, h, hJ⟩ := h
  exact ⟨As, cs, r, Ao, co, h.kept hk (hd _ ((hJ _).2 (.inl rfl))) (fun g hg => hd _ ((hJ _).2 (.inr (.inl hg)))) (hd _ ((hJ _).2 (.inr (.inr (.inl rfl))))) (fun g hg => hd _ ((hJ _).2 (.inr (.inr (.inr hg))))), hJ⟩
theorem Dsk.below {base : Nat} {w w' : World} {D : Dk} {d : Nat} {I : Nat → Prop} (h : Dsk base w D d I) (hb : Below w.heap.size w w') : Dsk base w' D d I := h.kept (S := fun _ => False) (Kept.of_below hb) (fun _ _ x => x)
theorem Rsk.below {base : Nat} {w w' : World} {D : Dk} {p : Nat} {J : Nat → Prop} (h : Rsk base w D p J) (hb : Below w.heap.size w w') : Rsk base w' D p J := h.kept (S := fun _ => False) (Kept.of_below hb) (fun _ _ x => x)
/-- the same blocks in another world -/
theorem Dsk.same {base : Nat} {w w' : World} {D : Dk} {d : Nat} {I : Nat → Prop} (h : Dsk base w D d I) (hs : ∀ b, I b → w'.heap[b]? = w.heap[b]?) : Dsk base w' D d I := by
  obtain ⟨gs, cs, r, Ao, co, h, hI⟩ := h
  have own : ∀ {e : TypeId} {size n : Nat} {v : Value} {xs : List Value}, w.ownsRow base e size v n xs → (∀ g, v.ownBlock = some g → I g) → w'.ownsRow base e size v n xs := by
    intro e size n v xs ho hg
    refine ⟨ho.1, ?_⟩
    rcases ho.2 with h1 | ⟨g, cap, cur, hv, hb, hgg, rest⟩
    · exact .inl h1
    · exact .inr ⟨g, cap, cur, hv, hb, (hs g (hg g (by rw [hv]; rfl))).trans hgg, rest⟩
  obtain ⟨es, clk, hm, he⟩ := h.map
  exact ⟨gs, cs, r, Ao, co, ⟨(hs _ ((hI _).2 (.inl rfl))).trans h.blk, own h.stay (fun g hg => (hI _).2 (.inr (.inl (by simp [Value.ownBlock] at hg; exact hg.symm)))), ⟨es, clk, (hs _ ((hI _).2 (.inr (.inr (.inl rfl))))).trans hm, he⟩, own h.ord (fun g hg => (hI _).2 (.inr (.inr (.inr hg)))),
    h.ds, h.dr, h.sr, h.od, h.os, h.orr, h.bd, h.br, h.sec, h.secw, h.arm⟩, hI⟩
theorem Rsk.same {base : Nat} {w w' : World} {D : Dk} {p : Nat} {J : Nat → Prop} (h : Rsk base w D p J) (hs : ∀ b, J b → w'.heap[b]? = w.heap[b]?) : Rsk base w' D p J := by
  obtain ⟨As, cs, r, Ao, co, h, hI⟩ := h
  have own : ∀ {e : TypeId} {size n : Nat} {v : Value} {xs : List Value}, w.ownsRow base e size v n xs → (∀ g, v.ownBlock = some g → J g) → w'.ownsRow base e size v n xs := by
    intro e size n v xs ho hg
    refine ⟨ho.1, ?_⟩
    rcases ho.2 with h1 | ⟨g, cap, cur, hv, hb, hgg, rest⟩
    · exact .inl h1
    · exact .inr ⟨g, cap, cur, hv, hb, (hs g (hg g (by rw [hv]; rfl))).trans hgg, rest⟩
  obtain ⟨es, clk, hm, he⟩ := h.map
  exact ⟨As, cs, r, Ao, co, ⟨(hs _ ((hI _).2 (.inl rfl))).trans h.blk, own h.stay (fun g hg => (hI _).2 (.inr (.inl hg))), ⟨es, clk, (hs _ ((hI _).2 (.inr (.inr (.inl rfl))))).trans hm, he⟩, own h.ord (fun g hg => (hI _).2 (.inr (.inr (.inr hg)))),
    h.sp, h.pr, h.sr, h.op, h.os, h.orr, h.bp, h.br, h.arm⟩, hI⟩
/-- as regions' facts -/
def DskF (base : Nat) (D : Dk) (d : Nat) : Fact := fun S w => ∃ I, (∀ b, I b → S b) ∧ Dsk base w D d I
def RskF (base : Nat) (D : Dk) (p : Nat) : Fact := fun S w => ∃ J, (∀ b, J b → S b) ∧ Rsk base w D p J
theorem good_dsk (base : Nat) (D : Dk) (d : Nat) : Good (DskF base D d) := fun S S' w w' h1 h2 ⟨I, h3, h4⟩ => ⟨I, fun b hb => h1 b (h3 b hb), h4.same fun b hb => h2 b (h3 b hb)⟩
theorem good_rsk (base : Nat) (D : Dk) (p : Nat) : Good (RskF base D p) := fun S S' w w' h1 h2 ⟨I, h3, h4⟩ => ⟨I, fun b hb => h1 b (h3 b hb), h4.same fun b hb => h2 b (h3 b hb)⟩
theorem stepD_vals (D : Dk) : (stepD D).2 = 0 ∨ (stepD D).2 = 2 := by
  unfold stepD
  split
  · exact .inr rfl
  · split <;> exact .inl rfl
theorem stepD_same (D : Dk) : (stepD D).1.stay = D.stay ∧ (stepD D).1.wait = D.wait ∧ (stepD D).1.order = D.order := by
  unfold stepD
  split
  · exact ⟨rfl, rfl, rfl⟩
  · split <;> exact ⟨rfl, rfl, rfl⟩
def wrE (D : Dk) (i : Int) (l : List UInt8) : Int := if mayE D i ≠ 0 then mayE D i else if l.length ≠ 64 then 1 else (stepD D).2
def wrD (D : Dk) (i : Int) (l : List UInt8) : Dk := if mayE D i ≠ 0 then D else if l.length ≠ 64 then D else if (stepD D).2 = 0 then laidD (stepD D).1 i l else (stepD D).1
def flE (D : Dk) : Int := if D.off = true then 2 else (stepD D).2
def flD (D : Dk) : Dk := if D.off = true then D else if (stepD D).2 = 0 then flushD (stepD D).1 else (stepD D).1
theorem dsk_turn {base : Nat} {w w' : World} {D D' : Dk} {d gs r gs' cs' r' : Nat} {Ao Ao' : Option Addr} {co co' : Nat} {I : Nat → Prop} (hI : ∀ b, I b ↔ (b = d ∨ b = gs ∨ b = r ∨ Value.ownBlock (.slice Ao D.order.length co) = some b)) (h' : DkAt base w' D' d gs' cs' r' Ao' co')
    (hg : gs' = gs) (hr : r' = r ∨ w.heap.size ≤ r') (ho : ∀ b, Value.ownBlock (.slice Ao' D'.order.length co') = some b → Value.ownBlock (.slice Ao D.order.length co) = some b ∨ w.heap.size ≤ b) {S : Nat → Prop} (hk : Kept S w w') (hS : ∀ b, S b → I b) :
    ∃ I', Dsk base w' D' d I' ∧ Turn I w w' I' := by
  refine ⟨fun b => b = d ∨ b = gs' ∨ b = r' ∨ Value.ownBlock (.slice Ao' D'.order.length co') = some b, ⟨gs', cs', r', Ao', co', h', fun _ => Iff.rfl⟩, hk.wider hS, ?_⟩
  rintro b (e | e | e | e)
  · exact .inl ((hI b).2 (.inl e))
  · exact .inl ((hI b).2 (.inr (.inl (by rw [e, hg]))))
  · rcases hr with h | h
    · exact .inl ((hI b).2 (.inr (.inr (.inl (by rw [e, h])))))
    · exact .inr (by rw [e]; exact h)
  · rcases ho b e with h | h
    · exact .inl ((hI b).2 (.inr (.inr (.inr h))))
    · exact .inr h
theorem rowAt_own {size n n' c c' : Nat} {Ao Ao' : Option Addr} (h : RowAt size Ao Ao') : ∀ b, Value.ownBlock (.slice Ao' n' c') = some b → Value.ownBlock (.slice Ao n c) = some b ∨ size ≤ b := by
  intro b hb
  cases Ao' with
  | none => simp [Value.ownBlock] at hb
  | some ad =>
    simp [Value.ownBlock] at hb
    subst hb
    rcases h ad rfl with ⟨a0, rfl, h1⟩ | h1
    · exact .inl (by simp [Value.ownBlock, h1])
    · exact .inr h1
theorem none_own {n c : Nat} {b : Nat} (h : Value.ownBlock (.slice none n c) = some b) : False := by simp [Value.ownBlock] at h
set_option maxRecDepth 100000 in
set_option maxHeartbeats 800000 in
theorem dsk_read (base : Nat) (w : World) (D : Dk) (d : Nat) (I : Nat → Prop) (i : Int) (h : Dsk base w D d I) :
    Calls Try.prog 15 #[.pointer (some ⟨d, 0, none⟩), .int .i64 i] w fun e w' => ∃ A n c, e = .returned (.tuple #[.slice A n c, .int .i64 (mayE D i)]) ∧ Sl w' 1 (.slice A n c) (B8 (readE D i)) ∧ Below w.heap.size w w' := by
  obtain ⟨gs, cs, r, Ao, co, h, hI⟩ := h
  rcases mayE_vals D i with hm | hm | hm
  · obtain ⟨h1, h2, h3⟩ := may0 hm
    obtain ⟨x, rfl⟩ := Int.eq_ofNat_of_zero_le h2
    have e : readE D (x : Int) = readB D x := by unfold readE; rw [if_pos hm]; rfl
    rw [hm, e]
    refine (read_any base w D d gs cs r Ao co x h (by omega) h1).mono ?_
    rintro e w' ⟨g, rfl, _, _, hs, hb⟩
    exact ⟨_, _, _, rfl, hs, hb⟩
  all_goals
    have e : readE D i = [] := by unfold readE; rw [if_neg (by omega)]
    rw [e, hm]
    refine (read_err base w D d gs cs r Ao co i _ h hm (by omega)).mono ?_
    rintro e w' ⟨rfl, rfl⟩
    exact ⟨_, _, _, rfl, sl_nil _ _, Below.refl _ _⟩
set_option maxRecDepth 100000 in
set_option maxHeartbeats 800000 in
theorem dsk_write (base : Nat) (w : World) (D : Dk) (d : Nat) (I : Nat → Prop) (i : Int) (b off n c : Nat) (l : List UInt8) (h : Dsk base w D d I) (hbase : base ≤ w.heap.size) (hl : Sl w 1 (.slice (some ⟨b, off, none⟩) n c) (B8 l)) (hn : n = 64 ∨ n < 64) (hlen : D.order.length ≤ 1000) (hnb : ¬ I b) :
    Calls Try.prog 17 #[.pointer (some ⟨d, 0, none⟩), .int .i64 i, .slice (some ⟨b, off, none⟩) n c] w fun e w' => e = .returned (.int .i64 (wrE D i l)) ∧ ∃ I', Dsk base w' (wrD D i l) d I' ∧ Turn I w w' I' := by
  have hll := hl.len.1
  have h0 := h
  obtain ⟨gs, cs, r, Ao, co, h, hI⟩ := h
  by_cases hm : mayE D i = 0
  · rcases hn with rfl | hn
    · rcases stepD_vals D with hs | hs
      · have e1 : wrE D i l = 0 := by unfold wrE; rw [if_neg (by omega), if_neg (by omega), hs]
        have e2 : wrD D i l = laidD (stepD D).1 i l := by unfold wrD; rw [if_neg (by omega), if_neg (by omega), if_pos hs]
        have ho := (stepD_same D).2.2
        rw [e1, e2]
        refine (write_ok base w D (stepD D).1 d gs cs r Ao co i b off c l h hbase hm (Prod.ext rfl hs) hl (by rw [ho]; exact hlen) hll (by
          rw [ho]
          rintro (e | e | e)
          · exact hnb ((hI b).2 (.inl e))
          · exact hnb ((hI b).2 (.inr (.inr (.inl e))))
          · exact hnb ((hI b).2 (.inr (.inr (.inr e)))))).mono ?_
        rintro e w' ⟨rfl, Ao', co', h', hk, hr⟩
        refine ⟨rfl, dsk_turn hI h' rfl (.inl rfl) (rowAt_own hr) hk (fun b hb => ?_)⟩
        rw [ho] at hb
        rcases hb with e | e | e
        · exact (hI b).2 (.inl e)
        · exact (hI b).2 (.inr (.inr (.inl e)))
        · exact (hI b).2 (.inr (.inr (.inr e)))
      · have e1 : wrE D i l = 2 := by unfold wrE; rw [if_neg (by omega), if_neg (by omega), hs]
        have e2 : wrD D i l = (stepD D).1 := by unfold wrD; rw [if_neg (by omega), if_neg (by omega), if_neg (by omega)]
        rw [e1, e2]
        refine (write_stop base w D d gs cs r Ao co i _ c h hm hs).mono ?_
        rintro e w' ⟨rfl, h', hk⟩
        refine ⟨rfl, dsk_turn hI h' rfl (.inl rfl) (fun b hb => .inl (by rw [(stepD_same D).2.2] at hb; exact hb)) hk (fun b hb => (hI b).2 (.inl hb))⟩
    · have e1 : wrE D i l = 1 := by unfold wrE; rw [if_neg (by omega), if_pos (by omega)]
      have e2 : wrD D i l = D := by unfold wrD; rw [if_neg (by omega), if_pos (by omega)]
      rw [e1, e2]
      refine (write_len base w D d gs cs r Ao co i _ n c h hm hn).mono ?_
      rintro e w' ⟨rfl, rfl⟩
      exact ⟨rfl, I, h0, Kept.refl _ _, fun b hb => .inl hb⟩
  · have e1 : wrE D i l = mayE D i := by unfold wrE; rw [if_pos hm]
    have e2 : wrD D i l = D := by unfold wrD; rw [if_pos hm]
    rw [e1, e2]
    refine (write_err base w D d gs cs r Ao co i _ _ n c h rfl (by rcases mayE_vals D i with h | h | h <;> omega)).mono ?_
    rintro e w' ⟨rfl, rfl⟩
    exact ⟨rfl, I, h0, Kept.refl _ _, fun b hb => .inl hb⟩
set_option maxRecDepth 100000 in
set_option maxHeartbeats 800000 in
theorem dsk_flush (base : Nat) (w : World) (D : Dk) (d : Nat) (I : Nat → Prop) (h : Dsk base w D d I) (hbase : base ≤ w.heap.size) (hO : ∀ x ∈ D.order, 0 ≤ x ∧ x < D.stay.length) :
    Calls Try.prog 18 #[.pointer (some ⟨d, 0, none⟩)] w fun e w' => e = .returned (.int .i64 (flE D)) ∧ ∃ I', Dsk base w' (flD D) d I' ∧ Turn I w w' I' := by
  have h0 := h
  obtain ⟨gs, cs, r, Ao, co, h, hI⟩ := h
  cases ho : D.off with
  | true =>
    have e1 : flE D = 2 := by unfold flE; rw [if_pos ho]
    have e2 : flD D = D := by unfold flD; rw [if_pos ho]
    rw [e1, e2]
    refine (flush_off base w D d gs cs r Ao co h ho).mono ?_
    rintro e w' ⟨rfl, rfl⟩
    exact ⟨rfl, I, h0, Kept.refl _ _, fun b hb => .inl hb⟩
  | false =>
    have hn : ¬ D.off = true := by rw [ho]; exact Bool.false_ne_true
    rcases stepD_vals D with hs | hs
    · have e1 : flE D = 0 := by unfold flE; rw [if_neg hn, hs]
      have e2 : flD D = flushD (stepD D).1 := by unfold flD; rw [if_neg hn, if_pos hs]
      rw [e1, e2]
      refine (flush_ok base w D d gs cs r Ao co h hbase ho hs hO).mono ?_
      rintro e w' ⟨rfl, r', h', hk, hr⟩
      exact ⟨rfl, dsk_turn hI h' rfl (.inr hr) (fun b hb => (none_own hb).elim) hk (fun b hb => by
        rcases hb with e | e
        · exact (hI b).2 (.inr (.inl e))
        · exact (hI b).2 (.inl e))⟩
    · have e1 : flE D = 2 := by unfold flE; rw [if_neg hn, hs]
      have e2 : flD D = (stepD D).1 := by unfold flD; rw [if_neg hn, if_neg (by omega)]
      rw [e1, e2]
      refine (flush_stop base w D d gs cs r Ao co h ho hs).mono ?_
      rintro e w' ⟨rfl, h', hk⟩
      exact ⟨rfl, dsk_turn hI h' rfl (.inl rfl) (fun b hb => .inl (by rw [(stepD_same D).2.2] at hb; exact hb)) hk (fun b hb => (hI b).2 (.inl hb))⟩
set_option maxRecDepth 100000 in
set_option maxHeartbeats 800000 in
theorem dsk_arm (base : Nat) (w : World) (D : Dk) (d : Nat) (I : Nat → Prop) (i : Int) (h : Dsk base w D d I) (hi : i ≤ 9223372036854775807) :
    Calls Try.prog 13 #[.pointer (some ⟨d, 0, none⟩), .int .i64 i] w fun e w' => e = .returned (.tuple #[]) ∧ ∃ I', Dsk base w' (armD D i) d I' ∧ Turn I w w' I' := by
  obtain ⟨gs, cs, r, Ao, co, h, hI⟩ := h
  have hs : (armD D i).order = D.order := by unfold armD; split <;> rfl
  refine (arm_any base w D d gs cs r Ao co i h hi).mono ?_
  rintro e w' ⟨rfl, h', hk⟩
  exact ⟨rfl, dsk_turn hI h' rfl (.inl rfl) (fun b hb => .inl (by rw [hs] at hb; exact hb)) hk (fun b hb => (hI b).2 (.inl hb))⟩
set_option maxRecDepth 100000 in
set_option maxHeartbeats 800000 in
theorem dsk_crash (base : Nat) (w : World) (D : Dk) (d : Nat) (I : Nat → Prop) (K : Option Addr) (nk ck : Nat) (kl : List Bool) (h : Dsk base w D d I) (hbase : base ≤ w.heap.size) (hO : ∀ x ∈ D.order, 0 ≤ x ∧ x < D.stay.length) (hK : Sl w 1 (.slice K nk ck) (BO kl)) (hKn : 0 < nk → ∀ ad, K = some ad → ad.block < base) :
    Calls Try.prog 14 #[.pointer (some ⟨d, 0, none⟩), .slice K nk ck] w fun e w' => e = .returned (.tuple #[]) ∧ ∃ I', Dsk base w' (crashD D kl) d I' ∧ Turn I w w' I' := by
  obtain ⟨gs, cs, r, Ao, co, h, hI⟩ := h
  refine (crash_new base w D d gs cs r Ao co K nk ck kl h hbase hO hK (fun h0 ad had e => by have := hKn h0 ad had; have := h.ges.2.1; omega)).mono ?_
  rintro e w' ⟨rfl, r', h', hk, hr⟩
  exact ⟨rfl, dsk_turn hI h' rfl (.inr hr) (fun b hb => (none_own hb).elim) hk (fun b hb => by
    rcases hb with e | e
    · exact (hI b).2 (.inr (.inl e))
    · exact (hI b).2 (.inl e))⟩
theorem rsk_turn {base : Nat} {w w' : World} {D D' : Dk} {p r cs' r' : Nat} {As As' Ao Ao' : Option Addr} {cs co co' : Nat} {J : Nat → Prop} (hJ : ∀ b, J b ↔ (b = p ∨ Value.ownBlock (.slice As D.stay.length cs) = some b ∨ b = r ∨ Value.ownBlock (.slice Ao D.order.length co) = some b)) (h' : RkAt base w' D' p As' cs' r' Ao' co')
    (hg : As' = As) (hr : r' = r ∨ w.heap.size ≤ r') (ho : ∀ b, Value.ownBlock (.slice Ao' D'.order.length co') = some b → Value.ownBlock (.slice Ao D.order.length co) = some b ∨ w.heap.size ≤ b) {S : Nat → Prop} (hk : Kept S w w') (hS : ∀ b, S b → J b) :
    ∃ J', Rsk base w' D' p J' ∧ Turn J w w' J' := by
  refine ⟨fun b => b = p ∨ Value.ownBlock (.slice As' D'.stay.length cs') = some b ∨ b = r' ∨ Value.ownBlock (.slice Ao' D'.order.length co') = some b, ⟨As', cs', r', Ao', co', h', fun _ => Iff.rfl⟩, hk.wider hS, ?_⟩
  rintro b (e | e | e | e)
  · exact .inl ((hJ b).2 (.inl e))
  · refine .inl ((hJ b).2 (.inr (.inl ?_)))
    rw [← hg]
    cases As' with
    | none => exact (none_own e).elim
    | some a => simp [Value.ownBlock] at e ⊢; exact e
  · rcases hr with h | h
    · exact .inl ((hJ b).2 (.inr (.inr (.inl (by rw [e, h])))))
    · exact .inr (by rw [e]; exact h)
  · rcases ho b e with h | h
    · exact .inl ((hJ b).2 (.inr (.inr (.inr h))))
    · exact .inr h
set_option maxRecDepth 100000 in
set_option maxHeartbeats 800000 in
theorem rsk_read (base : Nat) (w : World) (D : Dk) (p : Nat) (J : Nat → Prop) (i : Int) (h : Rsk base w D p J) :
    Calls Try.prog 24 #[.pointer (some ⟨p, 0, none⟩), .int .i64 i] w fun e w' => e = .returned (.tuple #[.string (S8 (readE D i)), .int .i64 (mayE D i)]) ∧ w' = w := by
  obtain ⟨As, cs, r, Ao, co, h, hJ⟩ := h
  exact refRead_any base w D p As cs r Ao co i h
set_option maxRecDepth 100000 in
set_option maxHeartbeats 800000 in
theorem rsk_write (base : Nat) (w : World) (D : Dk) (p : Nat) (J : Nat → Prop) (i : Int) (l : List UInt8) (h : Rsk base w D p J) (hbase : base ≤ w.heap.size) (hl : l.length = 64 ∨ l.length < 64) (hlen : D.order.length ≤ 1000) :
    Calls Try.prog 26 #[.pointer (some ⟨p, 0, none⟩), .int .i64 i, .string (S8 l)] w fun e w' => e = .returned (.int .i64 (wrE D i l)) ∧ ∃ J', Rsk base w' (wrD D i l) p J' ∧ Turn J w w' J' := by
  have h0 := h
  obtain ⟨As, cs, r, Ao, co, h, hJ⟩ := h
  by_cases hm : mayE D i = 0
  · rcases hl with hl | hl
    · rcases stepD_vals D with hs | hs
      · have e1 : wrE D i l = 0 := by unfold wrE; rw [if_neg (by omega), if_neg (by omega), hs]
        have e2 : wrD D i l = laidD (stepD D).1 i l := by unfold wrD; rw [if_neg (by omega), if_neg (by omega), if_pos hs]
        have ho := (stepD_same D).2.2
        rw [e1, e2]
        refine (refWrite_ok base w D (stepD D).1 p As cs r Ao co i l h hbase hm hl (Prod.ext rfl hs) (by rw [ho]; exact hlen)).mono ?_
        rintro e w' ⟨rfl, Ao', co', h', hk, hr⟩
        refine ⟨rfl, rsk_turn hJ h' rfl (.inl rfl) (rowAt_own hr) hk (fun b hb => ?_)⟩
        rw [ho] at hb
        rcases hb with e | e | e
        · exact (hJ b).2 (.inl e)
        · exact (hJ b).2 (.inr (.inr (.inl e)))
        · exact (hJ b).2 (.inr (.inr (.inr e)))
      · have e1 : wrE D i l = 2 := by unfold wrE; rw [if_neg (by omega), if_neg (by omega), hs]
        have e2 : wrD D i l = (stepD D).1 := by unfold wrD; rw [if_neg (by omega), if_neg (by omega), if_neg (by omega)]
        rw [e1, e2]
        refine (refWrite_stop base w D p As cs r Ao co i _ h hm (by rw [S8_size, hl]) hs).mono ?_
        rintro e w' ⟨rfl, h', hk⟩
        refine ⟨rfl, rsk_turn hJ h' rfl (.inl rfl) (fun b hb => .inl (by rw [(stepD_same D).2.2] at hb; exact hb)) hk (fun b hb => (hJ b).2 (.inl hb))⟩
    · have e1 : wrE D i l = 1 := by unfold wrE; rw [if_neg (by omega), if_pos (by omega)]
      have e2 : wrD D i l = D := by unfold wrD; rw [if_neg (by omega), if_pos (by omega)]
      rw [e1, e2]
      refine (refWrite_len base w D p As cs r Ao co i _ h hm (by rw [S8_size]; exact hl)).mono ?_
      rintro e w' ⟨rfl, rfl⟩
      exact ⟨rfl, J, h0, Kept.refl _ _, fun b hb => .inl hb⟩
  · have e1 : wrE D i l = mayE D i := by unfold wrE; rw [if_pos hm]
    have e2 : wrD D i l = D := by unfold wrD; rw [if_pos hm]
    rw [e1, e2]
    refine (refWrite_err base w D p As cs r Ao co i _ h hm).mono ?_
    rintro e w' ⟨rfl, rfl⟩
    exact ⟨rfl, J, h0, Kept.refl _ _, fun b hb => .inl hb⟩
set_option maxRecDepth 100000 in
set_option maxHeartbeats 800000 in
theorem rsk_flush (base : Nat) (w : World) (D : Dk) (p : Nat) (J : Nat → Prop) (h : Rsk base w D p J) (hbase : base ≤ w.heap.size) (hO : ∀ x ∈ D.order, 0 ≤ x ∧ x < D.stay.length) (hW : ∀ x ∈ D.order, (lookW D.wait x).isSome = true) :
    Calls Try.prog 27 #[.pointer (some ⟨p, 0, none⟩)] w fun e w' => e = .returned (.int .i64 (flE D)) ∧ ∃ J', Rsk base w' (flD D) p J' ∧ Turn J w w' J' := by
  have h0 := h
  obtain ⟨As, cs, r, Ao, co, h, hJ⟩ := h
  cases ho : D.off with
  | true =>
    have e1 : flE D = 2 := by unfold flE; rw [if_pos ho]
    have e2 : flD D = D := by unfold flD; rw [if_pos ho]
    rw [e1, e2]
    refine (refFlush_off base w D p As cs r Ao co h ho).mono ?_
    rintro e w' ⟨rfl, rfl⟩
    exact ⟨rfl, J, h0, Kept.refl _ _, fun b hb => .inl hb⟩
  | false =>
    have hn : ¬ D.off = true := by rw [ho]; exact Bool.false_ne_true
    have hsm := stepD_same D
    rcases stepD_vals D with hs | hs
    · have e1 : flE D = 0 := by unfold flE; rw [if_neg hn, hs]
      have e2 : flD D = flushD (stepD D).1 := by unfold flD; rw [if_neg hn, if_pos hs]
      rw [e1, e2]
      refine (refFlush_ok base w D (stepD D).1 p As cs r Ao co h hbase ho (Prod.ext rfl hs) (by rw [hsm.1, hsm.2.2]; exact hO) (by rw [hsm.2.1, hsm.2.2]; exact hW)).mono ?_
      rintro e w' ⟨rfl, r', h', hk, hr⟩
      rw [hsm.1] at hk
      exact ⟨rfl, rsk_turn hJ h' rfl (.inr hr) (fun b hb => (none_own hb).elim) hk (fun b hb => by
        rcases hb with e | e
        · exact (hJ b).2 (.inr (.inl e))
        · exact (hJ b).2 (.inl e))⟩
    · have e1 : flE D = 2 := by unfold flE; rw [if_neg hn, hs]
      have e2 : flD D = (stepD D).1 := by unfold flD; rw [if_neg hn, if_neg (by omega)]
      rw [e1, e2]
      refine (refFlush_stop base w D p As cs r Ao co h ho hs).mono ?_
      rintro e w' ⟨rfl, h', hk⟩
      exact ⟨rfl, rsk_turn hJ h' rfl (.inl rfl) (fun b hb => .inl (by rw [hsm.2.2] at hb; exact hb)) hk (fun b hb => (hJ b).2 (.inl hb))⟩
set_option maxRecDepth 100000 in
set_option maxHeartbeats 800000 in
theorem rsk_crash (base : Nat) (w : World) (D : Dk) (p : Nat) (J : Nat → Prop) (K : Option Addr) (nk ck : Nat) (kl : List Bool) (h : Rsk base w D p J) (hbase : base ≤ w.heap.size) (hO : ∀ x ∈ D.order, 0 ≤ x ∧ x < D.stay.length) (hW : ∀ x ∈ D.order, (lookW D.wait x).isSome = true) (hK : Sl w 1 (.slice K nk ck) (BO kl)) (hKn : 0 < nk → ∀ ad, K = some ad → ad.block < base) :
    Calls Try.prog 28 #[.pointer (some ⟨p, 0, none⟩), .slice K nk ck] w fun e w' => e = .returned (.tuple #[]) ∧ ∃ J', Rsk base w' (crashD D kl) p J' ∧ Turn J w w' J' := by
  obtain ⟨As, cs, r, Ao, co, h, hJ⟩ := h
  refine (refCrash_any base w D p As cs r Ao co K nk ck kl h hbase hO hW hK hKn).mono ?_
  rintro e w' ⟨rfl, r', h', hk, hr⟩
  exact ⟨rfl, rsk_turn hJ h' rfl (.inr hr) (fun b hb => (none_own hb).elim) hk (fun b hb => by
    rcases hb with e | e
    · exact (hJ b).2 (.inr (.inl e))
    · exact (hJ b).2 (.inl e))⟩
/-- what stays true of a disk -/
structure Fit (D : Dk) (n m : Nat) : Prop where
  len : D.stay.length = n
  few : D.order.length ≤ m
  ok : ∀ x ∈ D.order, 0 ≤ x ∧ x < D.stay.length
  has : ∀ x ∈ D.order, (lookW D.wait x).isSome = true
theorem lookW_put (l : List (Int × List UInt8)) (x y : Int) (v : List UInt8) : lookW (putW l x v) y = if x = y then some v else lookW l y := by
  induction l with
  | nil => simp [putW, lookW]
  | cons p t ih =>
    unfold putW
    by_cases h : p.1 = x
    · rw [if_pos h]
      simp only [lookW]
      by_cases h2 : x = y
      · rw [if_pos h2, if_pos h2]
      · rw [if_neg h2, if_neg h2, if_neg (by rw [h]; exact h2)]
    · rw [if_neg h]
      simp only [lookW]
      by_cases h3 : p.1 = y
      · rw [if_pos h3, if_neg (by rw [← h3]; exact fun e => h e.symm), if_pos h3]
      · rw [if_neg h3, ih, if_neg h3]
theorem Fit.step {D : Dk} {n m : Nat} (h : Fit D n m) : Fit (stepD D).1 n m := by
  obtain ⟨h1, h2, h3⟩ := stepD_same D
  exact ⟨by rw [h1]; exact h.len, by rw [h3]; exact h.few, by rw [h1, h3]; exact h.ok, by rw [h2, h3]; exact h.has⟩
theorem Fit.more {D : Dk} {n m m' : Nat} (h : Fit D n m) (hm : m ≤ m') : Fit D n m' := ⟨h.len, Nat.le_trans h.few hm, h.ok, h.has⟩
theorem Fit.write {D : Dk} {n m : Nat} (h : Fit D n m) (i : Int) (l : List UInt8) : Fit (wrD D i l) n (m + 1) := by
  unfold wrD
  by_cases h1 : mayE D i ≠ 0
  · rw [if_pos h1]; exact h.more (by omega)
  · rw [if_neg h1]
    split
    · exact h.more (by omega)
    · split
      · have hs := h.step
        obtain ⟨_, h4, h5⟩ := may0 (by omega : mayE D i = 0)
        have hst := (stepD_same D).1
        unfold laidD
        split
        · rename_i hlk
          refine ⟨hs.len, Nat.le_trans hs.few (by omega), hs.ok, fun x hx => ?_⟩
          simp only [lookW_put]
          split
          · rfl
          · exact hs.has x hx
        · refine ⟨hs.len, by simp; have := hs.few; omega, fun x hx => ?_, fun x hx => ?_⟩
          · rcases List.mem_append.1 hx with hx | hx
            · exact hs.ok x hx
            · simp at hx; subst hx; simp only []; rw [hst]; exact ⟨h4, h5⟩
          · simp only [lookW_put]
            rcases List.mem_append.1 hx with hx | hx
            · split
              · rfl
              · exact hs.has x hx
            · simp at hx; rw [if_pos hx.symm]; rfl
      · exact h.step.more (by omega)
theorem Fit.flush {D : Dk} {n m : Nat} (h : Fit D n m) : Fit (flD D) n m := by
  unfold flD
  split
  · exact h
  · split
    · have hs := h.step
      refine ⟨?_, by simp [flushD], by simp [flushD], by simp [flushD]⟩
      show (crashTo _ _ _).stay.length = _
      rw [crashTo_stay]
      exact hs.len
    · exact h.step
theorem Fit.crash {D : Dk} {n m : Nat} (h : Fit D n m) (kl : List Bool) : Fit (crashD D kl) n m := by
  refine ⟨?_, by simp [crashD], by simp [crashD], by simp [crashD]⟩
  show (crashTo _ _ _).stay.length = _
  rw [crashTo_stay]
  exact h.len
theorem Fit.arm {D : Dk} {n m : Nat} (h : Fit D n m) (i : Int) : Fit (armD D i) n m := by
  unfold armD
  split
  · exact h
  · exact ⟨h.len, h.few, h.ok, h.has⟩
end Go.Proofs.Ytfhlidlmipleaaa
