/-
  A journal and its disk; contracts of noted, sure.
-/
import Derived.Test.YtfhlidlmipleaaaJn4
namespace Go.Proofs.Ytfhlidlmipleaaa
set_option linter.unusedVariables false
set_option linter.unusedSimpArgs false
open Go Go.RowKit LM

structure Jd (base : Nat) (w : World) (D : Dk) (J : Jn) (j d : Nat) (I K : Nat → Prop) : Prop where
  dk : Dsk base w D d I
  jn : Jrn base w J j d K
  dis : ∀ b, I b → K b → False
/-- a step of both -/
structure Stp (base : Nat) (w w' : World) (D' : Dk) (J' : Jn) (j d : Nat) (I K I' K' : Nat → Prop) : Prop where
  jd : Jd base w' D' J' j d I' K'
  kp : Kept (fun b => I b ∨ K b) w w'
  sub : ∀ b, I' b ∨ K' b → (I b ∨ K b) ∨ w.heap.size ≤ b
theorem Jd.below {base : Nat} {w w' : World} {D : Dk} {J : Jn} {j d : Nat} {I K : Nat → Prop} (h : Jd base w D J j d I K) (hb : Below w.heap.size w w') : Jd base w' D J j d I K := ⟨h.dk.below hb, h.jn.below hb, h.dis⟩
theorem Jd.lt {base : Nat} {w : World} {D : Dk} {J : Jn} {j d : Nat} {I K : Nat → Prop} (h : Jd base w D J j d I K) : ∀ b, I b ∨ K b → base ≤ b ∧ b < w.heap.size := by
  rintro b (hb | hb)
  · exact h.dk.bd b hb
  · exact h.jn.bd b hb
theorem Stp.refl {base : Nat} {w : World} {D : Dk} {J : Jn} {j d : Nat} {I K : Nat → Prop} (h : Jd base w D J j d I K) : Stp base w w D J j d I K I K := ⟨h, Kept.refl _ _, fun _ hb => .inl hb⟩
theorem Stp.ofBelow {base : Nat} {w w' : World} {D : Dk} {J : Jn} {j d : Nat} {I K : Nat → Prop} (h : Jd base w D J j d I K) (hb : Below w.heap.size w w') : Stp base w w' D J j d I K I K := ⟨h.below hb, Kept.of_below hb, fun _ hb => .inl hb⟩
theorem Stp.trans {base : Nat} {w w1 w2 : World} {D1 D2 : Dk} {J1 J2 : Jn} {j d : Nat} {I K I1 K1 I2 K2 : Nat → Prop} (h : Stp base w w1 D1 J1 j d I K I1 K1) (k : Stp base w1 w2 D2 J2 j d I1 K1 I2 K2) : Stp base w w2 D2 J2 j d I K I2 K2 := by
  refine ⟨k.jd, h.kp.step k.kp (fun b hb => h.sub b hb), fun b hb => ?_⟩
  rcases k.sub b hb with h1 | h1
  · exact h.sub b h1
  · exact .inr (Nat.le_trans h.kp.size h1)
/-- the disk turned -/
theorem Jd.turn {base : Nat} {w w' : World} {D D' : Dk} {J : Jn} {j d : Nat} {I I' K : Nat → Prop} (h : Jd base w D J j d I K) (hd : Dsk base w' D' d I') (ht : Turn I w w' I') : Stp base w w' D' J j d I K I' K :=
  ⟨⟨hd, h.jn.kept ht.1 (fun b hb hi => h.dis b hi hb), fun b hb hk => by
    rcases ht.2 b hb with h1 | h1
    · exact h.dis b h1 hk
    · have := (h.jn.bd b hk).2; omega⟩, ht.1.wider (fun b hb => .inl hb), fun b hb => by
    rcases hb with hb | hb
    · rcases ht.2 b hb with h1 | h1
      · exact .inl (.inl h1)
      · exact .inr h1
    · exact .inl (.inr hb)⟩
/-- the journal's own block written -/
theorem Jd.own {base : Nat} {w w' : World} {D : Dk} {J J' : Jn} {j d : Nat} {I K : Nat → Prop} (h : Jd base w D J j d I K) (hk : Kept (fun b => b = j) w w') (hb : ∀ Aa ca, w.heap[j]? = some (.cells (jnC J d Aa ca) 201 (0, 0)) → w'.heap[j]? = some (.cells (jnC J' d Aa ca) 201 (0, 0))) (ha : J'.all = J.all) :
    Stp base w w' D J' j d I K I K := by
  have hm := h.jn.mem
  refine ⟨⟨h.dk.kept hk (fun b hb e => h.dis b hb (e ▸ hm)), ?_, h.dis⟩, hk.wider (fun b hb => .inr (hb ▸ hm)), fun b hb => .inl hb⟩
  obtain ⟨Aa, ca, vs, E, h1, hK⟩ := h.jn
  refine ⟨Aa, ca, vs, E, ⟨hb Aa ca h1.blk, ?_, fun k hk2 => ?_, fun g hg => ⟨(h1.ebd g hg).1, Nat.lt_of_lt_of_le (h1.ebd g hg).2 hk.size⟩, h1.jb, by rw [ha]; exact h1.jr, h1.je, by rw [ha]; exact h1.re⟩, by rw [ha]; exact hK⟩
  · rw [ha]
    exact ownsRow_kept h1.row hk (fun g hg e => h1.jr (by rw [hg, e]))
  · rw [ha] at hk2 ⊢
    obtain ⟨g, off, n, c, h2, h3, h4⟩ := h1.ent k hk2
    exact ⟨g, off, n, c, h2, sl_kept h3 hk (fun ad had e => by injection had with had; subst had; simp only at e; exact h1.je (e ▸ h4)), h4⟩
theorem FitJ.step {D : Dk} {n : Nat} (h : FitJ D n) : FitJ (stepD D).1 n := by
  obtain ⟨h1, h2, h3⟩ := stepD_same D
  exact ⟨by rw [h1]; exact h.len, by rw [h3]; exact h.nod, by rw [h1, h3]; exact h.ok, by rw [h2, h3]; exact h.has⟩
theorem FitJ.write {D : Dk} {n : Nat} (h : FitJ D n) (i : Int) (l : List UInt8) : FitJ (wrD D i l) n := by
  unfold wrD
  by_cases h1 : mayE D i ≠ 0
  · rw [if_pos h1]; exact h
  · rw [if_neg h1]
    split
    · exact h
    · split
      · have hs := h.step
        obtain ⟨_, h4, h5⟩ := may0 (by omega : mayE D i = 0)
        have hst := (stepD_same D).1
        unfold laidD
        split
        · refine ⟨hs.len, hs.nod, hs.ok, fun x hx => ?_⟩
          simp only [lookW_put]
          split
          · rfl
          · exact hs.has x hx
        · rename_i hno
          refine ⟨hs.len, ?_, fun x hx => ?_, fun x hx => ?_⟩
          · refine List.nodup_append.2 ⟨hs.nod, by simp, fun a ha b hb e => ?_⟩
            simp at hb
            subst hb; subst e
            exact hno (hs.has a ha)
          · rcases List.mem_append.1 hx with hx | hx
            · exact hs.ok x hx
            · simp at hx; subst hx; simp only []; rw [hst]; exact ⟨h4, h5⟩
          · simp only [lookW_put]
            rcases List.mem_append.1 hx with hx | hx
            · split
              · rfl
              · exact hs.has x hx
            · simp at hx; rw [if_pos hx.symm]; rfl
      · exact h.step
theorem FitJ.flush {D : Dk} {n : Nat} (h : FitJ D n) : FitJ (flD D) n := by
  unfold flD
  split
  · exact h
  · split
    · have hs := h.step
      refine ⟨?_, by simp [flushD], by simp [flushD], by simp [flushD]⟩
      show (crashTo _ _ _).stay.length = _
      rw [crashTo_stay]
      exact hs.len
    · exact h.step
theorem nodup_le (n : Nat) : ∀ (l : List Int), l.Nodup → (∀ x ∈ l, 0 ≤ x ∧ x < n) → l.length ≤ n := by
  induction n with
  | zero =>
    intro l _ h
    cases l with
    | nil => simp
    | cons x t => have := h x (by simp); omega
  | succ n ih =>
    intro l hl h
    have h2 := ih (l.erase (n : Int)) (hl.erase _) (fun x hx => by
      have h3 := (List.Nodup.mem_erase_iff hl).1 hx
      have := h x h3.2
      have := h3.1
      omega)
    have h4 : l.length ≤ (l.erase (n : Int)).length + 1 := by
      rw [List.length_erase]
      split <;> omega
    omega
theorem FitJ.few {D : Dk} {n : Nat} (h : FitJ D n) : D.order.length ≤ n := nodup_le n D.order h.nod (fun x hx => by have := h.ok x hx; rw [h.len] at this; exact this)
def noteJ (J : Jn) (e : Int) : Jn := if e = 2 then { J with gone := true } else J
set_option maxRecDepth 100000 in
set_option maxHeartbeats 800000 in
theorem noted_any (base : Nat) (w : World) (D : Dk) (J : Jn) (j d : Nat) (I K : Nat → Prop) (h : Jd base w D J j d I K) (e : Int) :
    Calls Try.prog 116 #[.pointer (some ⟨j, 0, none⟩), .int .i64 e] w fun x w' => x = .returned (.int .i64 e) ∧ Stp base w w' D (noteJ J e) j d I K I K := by
  by_cases he : e = 2
  · subst he
    have hN : noteJ J 2 = { J with gone := true } := rfl
    rw [hN]
    clear hN
    have hjn := h.jn
    obtain ⟨Aa, ca, vs, E, h1, hK⟩ := hjn
    obtain ⟨c, f⟩ := blk_cells h1.blk
    have q5 := c 5
    have f5 := f 5
    simp at q5
    have hs : Stp base w (w.setCell ⟨j, 5, none⟩ (.bool true)) D { J with gone := true } j d I K I K := by
      refine h.own ((Kept.refl (fun b => b = j) w).setCell (p := ⟨j, 5, none⟩) (.inl rfl) _) (fun Aa ca hb => ?_) rfl
      have := blk_set hb 5 (.bool true)
      simpa using this
    clear h1 h c hK
    go_enter Try.func116, Try.ntmps116
    go_wp2_with fail
    go_ret
    exact ⟨rfl, hs⟩
  · have hN : noteJ J e = J := by unfold noteJ; rw [if_neg he]
    rw [hN]
    have hs := Stp.refl h
    clear h hN
    go_enter Try.func116, Try.ntmps116
    go_wp2_with fail
    go_ret
    exact ⟨rfl, hs⟩
def sureE (D : Dk) (i : Int) (l : List UInt8) : Int := if wrE D i l = 0 then flE (wrD D i l) else wrE D i l
def sureD (D : Dk) (i : Int) (l : List UInt8) : Dk := if wrE D i l = 0 then flD (wrD D i l) else wrD D i l
theorem FitJ.sure {D : Dk} {n : Nat} (h : FitJ D n) (i : Int) (l : List UInt8) : FitJ (sureD D i l) n := by
  unfold sureD
  split
  · exact (h.write i l).flush
  · exact h.write i l
theorem Stp.size {base : Nat} {w w' : World} {D' : Dk} {J' : Jn} {j d : Nat} {I K I' K' : Nat → Prop} (h : Stp base w w' D' J' j d I K I' K') : w.heap.size ≤ w'.heap.size := h.kp.size
theorem Stp.nb {base : Nat} {w w' : World} {D' : Dk} {J' : Jn} {j d : Nat} {I K I' K' : Nat → Prop} (h : Stp base w w' D' J' j d I K I' K') {b : Nat} (hb : b < w.heap.size) (h1 : ¬ (I b ∨ K b)) : ¬ (I' b ∨ K' b) := by
  intro h2
  rcases h.sub b h2 with h3 | h3
  · exact h1 h3
  · omega
theorem sl_sameJ {w w' : World} {size n c : Nat} {A : Option Addr} {xs : List Value} (h : Sl w size (.slice A n c) xs) (hs : ∀ ad, A = some ad → w'.heap[ad.block]? = w.heap[ad.block]?) : Sl w' size (.slice A n c) xs := by
  obtain ⟨A', n', c', he, hl, hnc, hcm, hr⟩ := h
  injection he with e1 e2 e3
  subst e1; subst e2; subst e3
  refine ⟨_, _, _, rfl, hl, hnc, hcm, fun hn => ?_⟩
  obtain ⟨b, off, rfl, hlt, hc⟩ := hr hn
  have hb := hs _ rfl
  simp only at hb
  refine ⟨b, off, rfl, ?_, fun i hi => (World.cell?_of_block (a := ⟨b, off + i, none⟩) hb).trans (hc i hi)⟩
  rcases Nat.lt_or_ge b w'.heap.size with h | h
  · exact h
  · rw [Array.getElem?_eq_none h, Array.getElem?_eq_getElem hlt] at hb
    cases hb
theorem Jrn.same {base : Nat} {w w' : World} {J : Jn} {j d : Nat} {K : Nat → Prop} (h : Jrn base w J j d K) (hs : ∀ b, K b → w'.heap[b]? = w.heap[b]?) : Jrn base w' J j d K := by
  obtain ⟨Aa, ca, vs, E, h, hK⟩ := h
  have own : ∀ {e : TypeId} {size n : Nat} {v : Value} {xs : List Value}, w.ownsRow base e size v n xs → (∀ g, v.ownBlock = some g → K g) → w'.ownsRow base e size v n xs := by
    intro e size n v xs ho hg
    refine ⟨ho.1, ?_⟩
    rcases ho.2 with h1 | ⟨g, cap, cur, hv, hb, hgg, rest⟩
    · exact .inl h1
    · exact .inr ⟨g, cap, cur, hv, hb, (hs g (hg g (by rw [hv]; rfl))).trans hgg, rest⟩
  refine ⟨Aa, ca, vs, E, ⟨(hs j ((hK j).2 (.inl rfl))).trans h.blk, own h.row (fun g hg => (hK g).2 (.inr (.inl hg))), fun k hk => ?_, fun g hg => ⟨(h.ebd g hg).1, ?_⟩, h.jb, h.jr, h.je, h.re⟩, hK⟩
  · obtain ⟨g, off, n, c, h1, h2, h3⟩ := h.ent k hk
    exact ⟨g, off, n, c, h1, sl_sameJ h2 (fun ad had => by injection had with had; subst had; exact hs g ((hK g).2 (.inr (.inr h3)))), h3⟩
  · have e := hs g ((hK g).2 (.inr (.inr hg)))
    rcases Nat.lt_or_ge g w'.heap.size with h4 | h4
    · exact h4
    · rw [Array.getElem?_eq_none h4, Array.getElem?_eq_getElem (h.ebd g hg).2] at e
      cases e
/-- both, as a region's fact -/
def JdF (base : Nat) (D : Dk) (J : Jn) (j d : Nat) : Fact := fun S w => ∃ I K, (∀ b, I b ∨ K b → S b) ∧ Jd base w D J j d I K
theorem good_jd (base : Nat) (D : Dk) (J : Jn) (j d : Nat) : Good (JdF base D J j d) := fun S S' w w' h1 h2 ⟨I, K, h3, h4⟩ => ⟨I, K, fun b hb => h1 b (h3 b hb), ⟨h4.dk.same fun b hb => h2 b (h3 b (.inl hb)), h4.jn.same fun b hb => h2 b (h3 b (.inr hb)), h4.dis⟩⟩
set_option maxRecDepth 100000 in
set_option maxHeartbeats 1600000 in
theorem sure_any (base n : Nat) (w : World) (D : Dk) (J : Jn) (j d : Nat) (I K : Nat → Prop) (h : Jd base w D J j d I K) (hF : FitJ D n) (hn : n ≤ 1000) (hbase : base ≤ w.heap.size) (i : Int) (b off c : Nat) (l : List UInt8) (hl : Sl w 1 (.slice (some ⟨b, off, none⟩) 64 c) (B8 l)) (hnb : ¬ I b) :
    Calls Try.prog 111 #[.pointer (some ⟨j, 0, none⟩), .int .i64 i, .slice (some ⟨b, off, none⟩) 64 c] w fun e w' => e = .returned (.int .i64 (sureE D i l)) ∧ ∃ I', Stp base w w' (sureD D i l) (noteJ J (sureE D i l)) j d I K I' K := by
  obtain ⟨Aa, ca, hjl, _, _, q0, q1, q2, q3, q4, q5⟩ := h.jn.cells
  clear q1 q2 q3 q4 q5
  have hfew := hF.few
  by_cases h0 : wrE D i l = 0
  · have e1 : sureE D i l = flE (wrD D i l) := by unfold sureE; rw [if_pos h0]
    have e2 : sureD D i l = flD (wrD D i l) := by unfold sureD; rw [if_pos h0]
    rw [e1, e2]
    go_enter Try.func111, Try.ntmps111
    go_wp2_with fail
    refine (dsk_write base w D d I i b off 64 c l h.dk hbase hl (.inl rfl) (by omega) hnb).mono ?_
    rintro e w1 ⟨rfl, I1, hd1, ht1⟩
    have s1 := h.turn hd1 ht1
    have hF1 := hF.write i l
    rw [h0]
    obtain ⟨Aa1, ca1, hjl1, _, _, q0', _⟩ := s1.jd.jn.cells
    clear q0 e1 e2 h0 hd1 ht1 h hl
    go_wp2_with fail
    refine (dsk_flush base w1 (wrD D i l) d I1 s1.jd.dk (Nat.le_trans hbase s1.size) hF1.ok).mono ?_
    rintro e w2 ⟨rfl, I2, hd2, ht2⟩
    have s2 := s1.trans (s1.jd.turn hd2 ht2)
    clear q0' s1 hd2 ht2
    go_wp2_with fail
    refine (noted_any base w2 (flD (wrD D i l)) J j d I2 K s2.jd (flE (wrD D i l))).mono ?_
    rintro e w3 ⟨rfl, s3⟩
    have s4 := s2.trans s3
    clear s2 s3
    go_wp2_with fail
    go_ret
    exact ⟨rfl, I2, s4⟩
  · have e1 : sureE D i l = wrE D i l := by unfold sureE; rw [if_neg h0]
    have e2 : sureD D i l = wrD D i l := by unfold sureD; rw [if_neg h0]
    rw [e1, e2]
    go_enter Try.func111, Try.ntmps111
    go_wp2_with fail
    refine (dsk_write base w D d I i b off 64 c l h.dk hbase hl (.inl rfl) (by omega) hnb).mono ?_
    rintro e w1 ⟨rfl, I1, hd1, ht1⟩
    have s1 := h.turn hd1 ht1
    have hF1 := hF.write i l
    clear q0 e1 e2 hd1 ht1 h hl
    go_wp2_with fail
    refine (noted_any base w1 (wrD D i l) J j d I1 K s1.jd (wrE D i l)).mono ?_
    rintro e w3 ⟨rfl, s3⟩
    have s4 := s1.trans s3
    clear s1 s3
    go_wp2_with fail
    go_ret
    exact ⟨rfl, I1, s4⟩
end Go.Proofs.Ytfhlidlmipleaaa
