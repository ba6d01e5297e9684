/-
  Contract of Append.
-/
import Derived.Test.YtfhlidlmipleaaaJnA
namespace Go.Proofs.Ytfhlidlmipleaaa
set_option linter.unusedVariables false
set_option linter.unusedSimpArgs false
open Go Go.RowKit LM

/-- the rest of an entry's frame, flushed -/
def apR (D : Dk) (J : Jn) (l : List UInt8) : Dk × Int :=
  if 1 < takesN l.length then
    (if (restS D (nextJ D J) (frameJ J.gen J.all.length l) (takesN l.length - 1)).2 = 0 then (flD (restS D (nextJ D J) (frameJ J.gen J.all.length l) (takesN l.length - 1)).1, flE (restS D (nextJ D J) (frameJ J.gen J.all.length l) (takesN l.length - 1)).1)
     else restS D (nextJ D J) (frameJ J.gen J.all.length l) (takesN l.length - 1))
  else (D, 0)
def appS (D : Dk) (J : Jn) (l : List UInt8) : Dk × Jn × Int :=
  if mayJ D J [l] J.used ≠ 0 then (D, J, mayJ D J [l] J.used)
  else if (apR D J l).2 ≠ 0 then ((apR D J l).1, noteJ J (apR D J l).2, (apR D J l).2)
  else if sureE (apR D J l).1 (nextJ D J) ((frameJ J.gen J.all.length l).take 64) ≠ 0 then (sureD (apR D J l).1 (nextJ D J) ((frameJ J.gen J.all.length l).take 64), noteJ J (sureE (apR D J l).1 (nextJ D J) ((frameJ J.gen J.all.length l).take 64)), sureE (apR D J l).1 (nextJ D J) ((frameJ J.gen J.all.length l).take 64))
  else (sureD (apR D J l).1 (nextJ D J) ((frameJ J.gen J.all.length l).take 64), addJ J l, 0)
theorem FitJ.apR {D : Dk} {n : Nat} (h : FitJ D n) (J : Jn) (l : List UInt8) : FitJ (apR D J l).1 n := by
  unfold Go.Proofs.Ytfhlidlmipleaaa.apR
  split
  · split
    · exact (h.rest _ _ _).flush
    · exact h.rest _ _ _
  · exact h
theorem FitJ.app {D : Dk} {n : Nat} (h : FitJ D n) (J : Jn) (l : List UInt8) : FitJ (appS D J l).1 n := by
  unfold appS
  split
  · exact h
  · split
    · exact h.apR J l
    · split
      · exact (h.apR J l).sure _ _
      · exact (h.apR J l).sure _ _
theorem mayJ_one {D : Dk} {J : Jn} {l : List UInt8} {u : Nat} (h : mayJ D J [l] u = 0) : J.gone = false ∧ 1 ≤ l.length ∧ l.length ≤ 8192 ∧ u + takesN l.length ≤ sizeJ D := by
  unfold mayJ at h
  split at h
  · cases h
  · rename_i hg
    unfold mayL at h
    split at h
    · cases h
    · unfold mayL at h
      split at h
      · cases h
      · exact ⟨by simpa using hg, by omega, by omega, by omega⟩
set_option maxRecDepth 100000 in
set_option maxHeartbeats 400000 in
theorem append_none (w : World) (v : Value) : Calls Try.prog 61 #[.pointer none, v] w fun e w' => e = .returned (.int .i64 1) ∧ w' = w := by
  go_enter Try.func61, Try.ntmps61
  go_wp2_with fail
  go_ret
  exact ⟨rfl, rfl⟩
/-- may, whether the journal is gone or not -/
theorem mayj_any (base : Nat) (w : World) (D : Dk) (J : Jn) (j d : Nat) (I K : Nat → Prop) (h : Jd base w D J j d I K) (h2 : 2 ≤ D.stay.length) (h3 : D.stay.length ≤ 1024) (A : Option Addr) (n c : Nat) (vs : List Value) (ls : List (List UInt8)) (F : Nat → Prop) (hE : Ents w A n c vs ls F) (hn : n ≤ 1048576) (u : Nat) (hu : u ≤ 1099511627776) :
    Calls Try.prog 113 #[.pointer (some ⟨j, 0, none⟩), .slice A n c, .int .i64 u] w fun e w' => e = .returned (.int .i64 (mayJ D J ls u)) ∧ w' = w := by
  unfold mayJ
  cases hg : J.gone with
  | true =>
    rw [if_pos rfl]
    exact may_gone base w D J j d I K h hg _ _
  | false =>
    rw [if_neg Bool.false_ne_true]
    exact may_any' base w D J j d I K h h2 h3 hg A n c vs ls F hE hn u hu
theorem ents_one (w : World) (A : Option Addr) (n c : Nat) (l : List UInt8) (hs : Sl w 1 (.slice A n c) (B8 l)) : Ents (w.alloc (.cells #[.slice A n c] 27)) (some ⟨w.heap.size, 0, none⟩) 1 1 [.slice A n c] [l] (fun _ => True) := by
  refine ⟨⟨_, _, _, rfl, by simp, Nat.le_refl _, by simp [maxLen], fun _ => ⟨w.heap.size, 0, rfl, by simp, fun i hi => ?_⟩⟩, rfl, fun k hk => ?_⟩
  · obtain rfl : i = 0 := by omega
    rw [World.cell?_alloc_at _ _ _ _ rfl]
    rfl
  · simp at hk
    subst hk
    exact ⟨A, n, c, rfl, hs.alloc _, fun _ _ _ => trivial⟩
set_option maxRecDepth 100000 in
set_option maxHeartbeats 1600000 in
theorem append_no (base n : Nat) (w : World) (D : Dk) (J : Jn) (j d : Nat) (I K : Nat → Prop) (h : Jd base w D J j d I K) (hF : FitJ D n) (hn : 2 ≤ n ∧ n ≤ 1000) (hO : JOk J) (A : Option Addr) (m c : Nat) (l : List UInt8) (hl : Sl w 1 (.slice A m c) (B8 l)) (hm : mayJ D J [l] J.used ≠ 0) :
    Calls Try.prog 61 #[.pointer (some ⟨j, 0, none⟩), .slice A m c] w fun e w' => e = .returned (.int .i64 (mayJ D J [l] J.used)) ∧ Below w.heap.size w w' := by
  obtain ⟨Aa, ca, hjl, hca1, hca2, q0, q1, q2, q3, q4, q5⟩ := h.jn.cells
  have hlen := hF.len
  have hb1 := (Below.refl w.heap.size w).alloc (Nat.le_refl _) (.cells #[.slice A m c] 27)
  have hE := ents_one w A m c l hl
  have q4' := (hb1.cell (p := ⟨j, 4, none⟩) hjl).trans q4
  have hu := hO.used
  have hm2 : (mayJ D J [l] J.used != 0) = true := by simpa using hm
  clear q0 q1 q2 q3 q5 q4
  go_enter Try.func61, Try.ntmps61
  go_wp2_with fail
  refine (mayj_any base _ D J j d I K (h.below hb1) (by omega) (by omega) _ 1 1 _ [l] _ hE (by omega) J.used (by omega)).mono ?_
  rintro e w2 ⟨rfl, rfl⟩
  clear hE q4' hm
  go_wp2_with fail
  go_ret
  exact ⟨rfl, hb1⟩
theorem stp_sat {base : Nat} {w w' : World} {D2 : Dk} {J2 : Jn} {j d : Nat} {I K S : Nat → Prop} (hk : Kept (fun b => False ∨ (I b ∨ K b)) w w') (hS : ∀ b, S b → ((False ∨ (I b ∨ K b)) ∨ w.heap.size ≤ b) ∧ b < w'.heap.size) (h : JdF base D2 J2 j d S w') : ∃ I' K', Stp base w w' D2 J2 j d I K I' K' := by
  obtain ⟨I', K', h1, h2⟩ := h
  refine ⟨I', K', h2, hk.wider (fun b hb => hb.elim False.elim id), fun b hb => ?_⟩
  rcases (hS b (h1 b hb)).1 with e | e
  · exact .inl (e.elim False.elim id)
  · exact .inr e
set_option maxRecDepth 100000 in
set_option maxHeartbeats 6400000 in
theorem append_yes (base n : Nat) (w : World) (D : Dk) (J : Jn) (j d : Nat) (I K : Nat → Prop) (h : Jd base w D J j d I K) (hF : FitJ D n) (hn : 2 ≤ n ∧ n ≤ 1000) (hbase : base ≤ w.heap.size) (hO : JOk J) (b off m c : Nat) (l : List UInt8) (hl : Sl w 1 (.slice (some ⟨b, off, none⟩) m c) (B8 l)) (hnb : ¬ (I b ∨ K b)) (hm : mayJ D J [l] J.used = 0) :
    Calls Try.prog 61 #[.pointer (some ⟨j, 0, none⟩), .slice (some ⟨b, off, none⟩) m c] w fun e w' => e = .returned (.int .i64 (appS D J l).2.2) ∧ ∃ I' K', Stp base w w' (appS D J l).1 (appS D J l).2.1 j d I K I' K' := by
  obtain ⟨Aa, ca, hjl, hca1, hca2, q0, q1, q2, q3, q4, q5⟩ := h.jn.cells
  have hlen := hF.len
  have hb1 := (Below.refl w.heap.size w).alloc (Nat.le_refl _) (.cells #[.slice (some ⟨b, off, none⟩) m c] 27)
  have hE := ents_one w _ m c l hl
  have q4' := (hb1.cell (p := ⟨j, 4, none⟩) hjl).trans q4
  have hu := hO.used
  obtain ⟨hgo, hl1, hl2, hl3⟩ := mayJ_one hm
  have hml := hl.len.1
  have HS : Hid (appS D J l = if (apR D J l).2 ≠ 0 then ((apR D J l).1, noteJ J (apR D J l).2, (apR D J l).2)
      else if sureE (apR D J l).1 (nextJ D J) ((frameJ J.gen J.all.length l).take 64) ≠ 0 then (sureD (apR D J l).1 (nextJ D J) ((frameJ J.gen J.all.length l).take 64), noteJ J (sureE (apR D J l).1 (nextJ D J) ((frameJ J.gen J.all.length l).take 64)), sureE (apR D J l).1 (nextJ D J) ((frameJ J.gen J.all.length l).take 64))
      else (sureD (apR D J l).1 (nextJ D J) ((frameJ J.gen J.all.length l).take 64), addJ J l, 0)) := hid (by unfold appS; rw [if_neg (by omega)])
  clear q0 q1 q2 q3 q5 q4
  have hbl : b < w.heap.size := by
    obtain ⟨b', off', e, h1, _⟩ := hl.byte (k := 0) (by omega)
    injection e with e
    injection e with e1 e2
    subst e1
    exact h1
  go_enter Try.func61, Try.ntmps61
  go_wp2_with fail
  refine (mayj_any base _ D J j d I K (h.below hb1) (by omega) (by omega) _ 1 1 _ [l] _ hE (by omega) J.used (by omega)).mono ?_
  rintro e w2 ⟨rfl, rfl⟩
  rw [hm]
  clear hE q4' hm
  have s0 := Stp.ofBelow h hb1
  have hl2' := hl.below hb1
  have hgen := hO.gen
  have hfew := hO.few
  generalize w.alloc (.cells #[.slice (some ⟨b, off, none⟩) m c] 27) = w2 at *
  go_wp2_with fail
  refine (frame_any base w2 J j d K s0.jd.jn (by omega) (by omega) _ m c l hl2' (by omega)).mono ?_
  rintro e w3 ⟨Af, cf, rfl, hownf, hb3⟩
  have htk : 1 ≤ takesN m ∧ takesN m ≤ 130 := by unfold takesN; omega
  obtain ⟨g, rfl, hg1, hg2⟩ := own_some hownf (by omega)
  have hfs := own_sl hownf
  have s3 := s0.trans (Stp.ofBelow s0.jd hb3)
  have hgn : ¬ (I g ∨ K g) := fun e => by have := (s0.jd.lt g e).2; omega
  have hwsz := s0.size
  clear hl2' hownf hb3 s0 hb1 h
  by_cases ht : 1 < takesN m
  · have hbw3 := Nat.le_trans hbase s3.size
    have hhalf := hO.half
    have hfs' : Sl w3 1 (.slice (some ⟨g, 0, none⟩) (64 * takesN m) cf) (B8 (frameJ J.gen J.all.length l)) := by rw [Nat.mul_comm]; exact hfs
    go_wp2_with fail
    rw [show takesN m * 64 = 64 * takesN m from Nat.mul_comm _ _]
    refine (rest_any base n w3 D J j d I K s3.jd hF hn hbw3 hhalf (by omega) g 0 cf (takesN m) _ hfs' hgn (by omega)).mono ?_
    rintro e w4 ⟨rfl, I4, s4⟩
    have s5 := s3.trans s4
    have hsz4 := s4.size
    have hg4 : ¬ (I4 g ∨ K g) := s4.nb hg2 hgn
    have hfs4 := sl_kept hfs s4.kp (fun ad had => by injection had with had; subst had; exact hgn)
    have hF4 := hF.rest (nextJ D J) (frameJ J.gen J.all.length l) (takesN m - 1)
    have HR : Hid (apR D J l = if (restS D (nextJ D J) (frameJ J.gen J.all.length l) (takesN m - 1)).2 = 0 then (flD (restS D (nextJ D J) (frameJ J.gen J.all.length l) (takesN m - 1)).1, flE (restS D (nextJ D J) (frameJ J.gen J.all.length l) (takesN m - 1)).1) else restS D (nextJ D J) (frameJ J.gen J.all.length l) (takesN m - 1)) := hid (by unfold apR; rw [hml, if_pos ht])
    generalize restS D (nextJ D J) (frameJ J.gen J.all.length l) (takesN m - 1) = R at *
    clear hfs hfs' s3 s4
    by_cases h0 : R.2 = 0
    · rw [if_pos h0] at HR
      rw [h0]
      clear h0
      have hjl4 : ∃ (Aa : Option Addr), w4.cell? ⟨j, 0, none⟩ = some (.pointer (some ⟨d, 0, none⟩)) := by
        obtain ⟨Aa, _, _, _, _, q0, _⟩ := s5.jd.jn.cells
        exact ⟨Aa, q0⟩
      obtain ⟨_, q0⟩ := hjl4
      go_wp2_with fail
      refine (dsk_flush base w4 R.1 d I4 s5.jd.dk (Nat.le_trans hbase s5.size) hF4.ok).mono ?_
      rintro e w5 ⟨rfl, I5', hd5, ht5⟩
      have s6 := s5.jd.turn hd5 ht5
      have hsz6 := s6.size
      have s1 := s5.trans s6
      have hfs := sl_kept hfs4 s6.kp (fun ad had => by injection had with had; subst had; exact hg4)
      have hgn5 : ¬ (I5' g ∨ K g) := s6.nb (by omega) hg4
      have hF1 : FitJ (flD R.1) n := hF4.flush
      clear q0 hd5 ht5 s6 s5 hfs4 hgn hF4
      by_cases hz1 : flE R.1 = 0
      · have HAPP : Hid ((sureE (flD R.1) (nextJ D J) ((frameJ J.gen J.all.length l).take 64) = 0 → appS D J l = (sureD (flD R.1) (nextJ D J) ((frameJ J.gen J.all.length l).take 64), addJ J l, 0)) ∧ (sureE (flD R.1) (nextJ D J) ((frameJ J.gen J.all.length l).take 64) ≠ 0 → appS D J l = (sureD (flD R.1) (nextJ D J) ((frameJ J.gen J.all.length l).take 64), noteJ J (sureE (flD R.1) (nextJ D J) ((frameJ J.gen J.all.length l).take 64)), sureE (flD R.1) (nextJ D J) ((frameJ J.gen J.all.length l).take 64)))) :=
          hid ⟨fun e => by rw [HS.out, HR.out]; simp only; rw [if_neg (by simpa using hz1), if_neg (by simpa using e)], fun e => by rw [HS.out, HR.out]; simp only; rw [if_neg (by simpa using hz1), if_pos e]⟩
        rw [hz1]
        clear HS HR hz1
        have hgn := hgn5
        clear hgn5
        go_wp2_with fail
        have hlen1 := hF1.len
        have hnx : nextJ (flD R.1) J = nextJ D J := nextJ_len (hF1.len.trans hF.len.symm) J
        have hnl := nextJ_le (D := D) (J := J) (by rw [hF.len]; omega) hO.half
        have hhalf := hO.half
        have hus := hO.used
        have hjl := (s1.jd.lt j (.inr s1.jd.jn.mem)).2
        have hcf : 64 ≤ cf := by have := hfs.len.2.1; omega
        have hf64 : Sl w5 1 (.slice (some ⟨g, 0, none⟩) 64 cf) (B8 ((frameJ J.gen J.all.length l).take 64)) := hfs.take 64 (by omega)
        have hgS : ¬ (False ∨ (I5' g ∨ K g)) := fun e => hgn (e.elim False.elim id)
        have hjd := s1.jd
        have hbw := Nat.le_trans hbase s1.size
        refine wp_region_loud (fun b => False ∨ (I5' b ∨ K b)) [(2, factL [100] (fun v => v = .int .i64 (nextJ D J)) (fun _ => JdF base (flD R.1) J j d)), (5, factL [2] (fun v => v = .int .i64 (sureE (flD R.1) (nextJ D J) ((frameJ J.gen J.all.length l).take 64))) (fun _ => JdF base (sureD (flD R.1) (nextJ D J) ((frameJ J.gen J.all.length l).take 64)) (noteJ J (sureE (flD R.1) (nextJ D J) ((frameJ J.gen J.all.length l).take 64))) j d))] (addL 100 (JdF base (flD R.1) J j d) (fun _ => Fact.none)) (by kernel_rfl) (by kernel_rfl)
          (.cons (factL_ok ⟨_, rfl⟩ (fun _ => good_jd _ _ _ _ _)) (.cons (factL_ok ⟨_, rfl⟩ (fun _ => good_jd _ _ _ _ _)) .nil)) (good_add _ (good_jd _ _ _ _ _) good_nothing)
          (sat_add 100 sat_none (fun b _ h => h) (fun b hb => (hjd.lt b hb).2) ⟨I5', K, fun b hb => hb, hjd⟩) (WX.out ?_)
        repeat (first | (refine wx_quietU (by rfl) (by rfl) (by rfl) (fun K hK => ?_); go_big_quiet_op; refine hK _ ?_; clear hK K) | (refine wx_quietG (by rfl) (by rfl) (by rfl) (by rfl) (by rfl) (fun K hK => ?_); go_big_quiet_op; refine hK _ ?_; clear hK K) | (refine wx_skipG (by rfl) (by rfl) (by rfl) (fun K hK => ?_); go_simp; refine hK _ ?_; clear hK K) | (refine wx_skipN (by rfl) (by rfl) (by rfl) (fun K hK => ?_); go_simp; refine hK _ ?_; clear hK K))
        refine wx_loudU (us := [100]) (by rfl) (by rfl) (fun S wS hC hS hU => runs_enter (f := 117) (by go_simp <;> rfl) ?_) (fun v hv K hK => ?_)
        · obtain ⟨I3, K3, hI3, hD3⟩ := (hU 100 (by simp) : JdF base (flD R.1) J j d S wS)
          refine (next_any base wS (flD R.1) J j d I3 K3 hD3.dk hD3.jn (by omega) (by omega) hhalf (by omega)).mono ?_
          rintro e w9 ⟨rfl, hb9⟩
          exact ⟨.int .i64 (nextJ D J), by rw [hnx], rfl, Kept.of_below hb9, I3, K3, fun y hy => .inl (hI3 y hy), hD3.below hb9⟩
        obtain rfl := hv; (go_simp; refine hK _ ?_; clear hK K)
        repeat (first | (refine wx_quietU (by rfl) (by rfl) (by rfl) (fun K hK => ?_); go_big_quiet_op; refine hK _ ?_; clear hK K) | (refine wx_quietG (by rfl) (by rfl) (by rfl) (by rfl) (by rfl) (fun K hK => ?_); go_big_quiet_op; refine hK _ ?_; clear hK K) | (refine wx_skipG (by rfl) (by rfl) (by rfl) (fun K hK => ?_); go_simp; refine hK _ ?_; clear hK K) | (refine wx_skipN (by rfl) (by rfl) (by rfl) (fun K hK => ?_); go_simp; refine hK _ ?_; clear hK K))
        refine wx_loudU (us := [2]) (by rfl) (by rfl) (fun S wS hC hS hU => runs_enter (f := 111) (by go_simp <;> rfl) ?_) (fun v hv K hK => ?_)
        · obtain ⟨I3, K3, hI3, hD3⟩ := (hU 2 (by simp) : JdF base (flD R.1) J j d S wS)
          have hsl := sl_kept hf64 hC (fun ad had => by injection had with had; subst had; exact hgS)
          refine (sure_any base n wS (flD R.1) J j d I3 K3 hD3 hF1 hn.2 (Nat.le_trans hbw hC.size) _ g 0 cf _ hsl (fun hx => by
            rcases (hS g (hI3 g (.inl hx))).1 with e | e
            · exact hgS e
            · omega)).mono ?_
          rintro e w9 ⟨rfl, I4, s9⟩
          refine ⟨_, rfl, rfl, s9.kp.wider hI3, I4, K3, fun y hy => ?_, s9.jd⟩
          rcases s9.sub y hy with h1 | h1
          · exact .inl (hI3 y h1)
          · exact .inr ⟨h1, (s9.jd.lt y hy).2⟩
        obtain rfl := hv; (go_simp; refine hK _ ?_; clear hK K)
        repeat (first | (refine wx_quietU (by rfl) (by rfl) (by rfl) (fun K hK => ?_); go_big_quiet_op; refine hK _ ?_; clear hK K) | (refine wx_quietG (by rfl) (by rfl) (by rfl) (by rfl) (by rfl) (fun K hK => ?_); go_big_quiet_op; refine hK _ ?_; clear hK K) | (refine wx_skipG (by rfl) (by rfl) (by rfl) (fun K hK => ?_); go_simp; refine hK _ ?_; clear hK K) | (refine wx_skipN (by rfl) (by rfl) (by rfl) (fun K hK => ?_); go_simp; refine hK _ ?_; clear hK K))
        refine wx_nil fun w21 hsat => ?_
        obtain ⟨S, hS, hfin⟩ := sat_get hsat 5
        obtain ⟨I5, K5, s2⟩ := stp_sat hsat.1 hS hfin
        have s3 := s1.trans s2
        clear hsat hfin s2 hS hf64 hfs hjd s1
        by_cases hz : sureE (flD R.1) (nextJ D J) ((frameJ J.gen J.all.length l).take 64) = 0
        · have HAP := hid (HAPP.out.1 hz)
          have hnj : noteJ J (sureE (flD R.1) (nextJ D J) ((frameJ J.gen J.all.length l).take 64)) = J := by rw [hz]; rfl
          rw [hnj] at s3
          rw [hz]
          have hl21 := sl_kept hl s3.kp (fun ad had => by injection had with had; subst had; exact hnb)
          have hsz21 := s3.size
          clear HAPP hnj hz
          go_wp2_with fail
          refine (clone_any b off m c l w21 hl21 (by omega)).mono ?_
          rintro e w22 ⟨A8, c8, rfl, hown8, hb8⟩
          obtain ⟨g8, rfl, hg8, hg8'⟩ := own_some hown8 (by omega)
          have s4 := s3.trans (Stp.ofBelow s3.jd hb8)
          have hn8 : ¬ (I5 g8 ∨ K5 g8) := fun e => by have := (s3.jd.lt g8 e).2; omega
          have hfew := hO.few
          go_wp2_with fail
          refine (add_any base w22 _ J j d I5 K5 s4.jd (Nat.le_trans hbase s4.size) (by omega) (by omega) g8 0 m c8 l (own_sl hown8) (by omega) ⟨by omega, hg8'⟩ hn8).mono ?_
          rintro e w23 ⟨rfl, K6, hjd6, hk6, hs6⟩
          have s5 : Stp base w w23 (sureD (flD R.1) (nextJ D J) ((frameJ J.gen J.all.length l).take 64)) (addJ J l) j d I K I5 K6 := by
            refine ⟨hjd6, s4.kp.step hk6 (fun y hy => s4.sub y (.inr hy)), fun y hy => ?_⟩
            rcases hy with hy | hy
            · exact s4.sub y (.inl hy)
            · rcases hs6 y hy with e | e | e
              · exact s4.sub y (.inr e)
              · exact .inr (by omega)
              · exact .inr (Nat.le_trans s4.size e)
          clear hjd6 hk6 hs6 s4 s3 hown8 hb8 hl21 hl hF1 hF
          go_wp2_with fail
          go_ret
          rw [HAP.out]
          exact ⟨rfl, I5, K6, s5⟩
        · have HAP := hid (HAPP.out.2 hz)
          have hz2 : (sureE (flD R.1) (nextJ D J) ((frameJ J.gen J.all.length l).take 64) != 0) = true := by simpa using hz
          clear HAPP hz hl hF1 hF
          go_wp2_with fail
          go_ret
          rw [HAP.out]
          exact ⟨rfl, I5, K5, s3⟩
      · have HAP : Hid (appS D J l = (flD R.1, noteJ J (flE R.1), flE R.1)) := hid (by rw [HS.out, HR.out]; simp only; rw [if_pos hz1])
        have hz2 : (flE R.1 != 0) = true := by simpa using hz1
        clear HS HR hz1 hfs
        go_wp2_with fail
        refine (noted_any base w5 (flD R.1) J j d I5' K s1.jd (flE R.1)).mono ?_
        rintro e w6 ⟨rfl, s7⟩
        have s8 := s1.trans s7
        clear s1 s7
        go_wp2_with fail
        go_ret
        rw [HAP.out]
        exact ⟨rfl, I5', K, s8⟩
    · rw [if_neg h0] at HR
      have HAP : Hid (appS D J l = (R.1, noteJ J R.2, R.2)) := hid (by rw [HS.out, HR.out, if_pos h0])
      have hz2 : (R.2 != 0) = true := by simpa using h0
      have hz3 : (R.2 == 0) = false := by simpa using h0
      clear HS HR h0 hfs4
      go_wp2_with fail
      refine (noted_any base w4 R.1 J j d I4 K s5.jd R.2).mono ?_
      rintro e w6 ⟨rfl, s7⟩
      have s8 := s5.trans s7
      clear s5 s7
      go_wp2_with fail
      go_ret
      rw [HAP.out]
      exact ⟨rfl, I4, K, s8⟩
  · have ht1 : takesN m = 1 := by omega
    have hR : apR D J l = (D, 0) := by unfold apR; rw [if_neg (by rw [hml]; exact ht)]
    rw [hR] at HS
    simp only [ne_eq, not_true_eq_false, if_false] at HS
    have HAPP : Hid ((sureE D (nextJ D J) ((frameJ J.gen J.all.length l).take 64) = 0 → appS D J l = (sureD D (nextJ D J) ((frameJ J.gen J.all.length l).take 64), addJ J l, 0)) ∧ (sureE D (nextJ D J) ((frameJ J.gen J.all.length l).take 64) ≠ 0 → appS D J l = (sureD D (nextJ D J) ((frameJ J.gen J.all.length l).take 64), noteJ J (sureE D (nextJ D J) ((frameJ J.gen J.all.length l).take 64)), sureE D (nextJ D J) ((frameJ J.gen J.all.length l).take 64)))) :=
      hid ⟨fun e => by rw [HS.out, if_neg (by simpa using e)], fun e => by rw [HS.out, if_pos e]⟩
    clear HS hR
    have s1 := s3
    have hF1 := hF
    clear s3
    go_wp2_with fail
    have hlen1 := hF1.len
    have hnx : nextJ D J = nextJ D J := nextJ_len (hF1.len.trans hF.len.symm) J
    have hnl := nextJ_le (D := D) (J := J) (by rw [hF.len]; omega) hO.half
    have hhalf := hO.half
    have hus := hO.used
    have hjl := (s1.jd.lt j (.inr s1.jd.jn.mem)).2
    have hcf : 64 ≤ cf := by have := hfs.len.2.1; omega
    have hf64 : Sl w3 1 (.slice (some ⟨g, 0, none⟩) 64 cf) (B8 ((frameJ J.gen J.all.length l).take 64)) := hfs.take 64 (by omega)
    have hgS : ¬ (False ∨ (I g ∨ K g)) := fun e => hgn (e.elim False.elim id)
    have hjd := s1.jd
    have hbw := Nat.le_trans hbase s1.size
    refine wp_region_loud (fun b => False ∨ (I b ∨ K b)) [(2, factL [100] (fun v => v = .int .i64 (nextJ D J)) (fun _ => JdF base D J j d)), (5, factL [2] (fun v => v = .int .i64 (sureE D (nextJ D J) ((frameJ J.gen J.all.length l).take 64))) (fun _ => JdF base (sureD D (nextJ D J) ((frameJ J.gen J.all.length l).take 64)) (noteJ J (sureE D (nextJ D J) ((frameJ J.gen J.all.length l).take 64))) j d))] (addL 100 (JdF base D J j d) (fun _ => Fact.none)) (by kernel_rfl) (by kernel_rfl)
      (.cons (factL_ok ⟨_, rfl⟩ (fun _ => good_jd _ _ _ _ _)) (.cons (factL_ok ⟨_, rfl⟩ (fun _ => good_jd _ _ _ _ _)) .nil)) (good_add _ (good_jd _ _ _ _ _) good_nothing)
      (sat_add 100 sat_none (fun b _ h => h) (fun b hb => (hjd.lt b hb).2) ⟨I, K, fun b hb => hb, hjd⟩) (WX.out ?_)
    repeat (first | (refine wx_quietU (by rfl) (by rfl) (by rfl) (fun K hK => ?_); go_big_quiet_op; refine hK _ ?_; clear hK K) | (refine wx_quietG (by rfl) (by rfl) (by rfl) (by rfl) (by rfl) (fun K hK => ?_); go_big_quiet_op; refine hK _ ?_; clear hK K) | (refine wx_skipG (by rfl) (by rfl) (by rfl) (fun K hK => ?_); go_simp; refine hK _ ?_; clear hK K) | (refine wx_skipN (by rfl) (by rfl) (by rfl) (fun K hK => ?_); go_simp; refine hK _ ?_; clear hK K))
    refine wx_loudU (us := [100]) (by rfl) (by rfl) (fun S wS hC hS hU => runs_enter (f := 117) (by go_simp <;> rfl) ?_) (fun v hv K hK => ?_)
    · obtain ⟨I3, K3, hI3, hD3⟩ := (hU 100 (by simp) : JdF base D J j d S wS)
      refine (next_any base wS D J j d I3 K3 hD3.dk hD3.jn (by omega) (by omega) hhalf (by omega)).mono ?_
      rintro e w9 ⟨rfl, hb9⟩
      exact ⟨.int .i64 (nextJ D J), by rw [hnx], rfl, Kept.of_below hb9, I3, K3, fun y hy => .inl (hI3 y hy), hD3.below hb9⟩
    obtain rfl := hv; (go_simp; refine hK _ ?_; clear hK K)
    repeat (first | (refine wx_quietU (by rfl) (by rfl) (by rfl) (fun K hK => ?_); go_big_quiet_op; refine hK _ ?_; clear hK K) | (refine wx_quietG (by rfl) (by rfl) (by rfl) (by rfl) (by rfl) (fun K hK => ?_); go_big_quiet_op; refine hK _ ?_; clear hK K) | (refine wx_skipG (by rfl) (by rfl) (by rfl) (fun K hK => ?_); go_simp; refine hK _ ?_; clear hK K) | (refine wx_skipN (by rfl) (by rfl) (by rfl) (fun K hK => ?_); go_simp; refine hK _ ?_; clear hK K))
    refine wx_loudU (us := [2]) (by rfl) (by rfl) (fun S wS hC hS hU => runs_enter (f := 111) (by go_simp <;> rfl) ?_) (fun v hv K hK => ?_)
    · obtain ⟨I3, K3, hI3, hD3⟩ := (hU 2 (by simp) : JdF base D J j d S wS)
      have hsl := sl_kept hf64 hC (fun ad had => by injection had with had; subst had; exact hgS)
      refine (sure_any base n wS D J j d I3 K3 hD3 hF1 hn.2 (Nat.le_trans hbw hC.size) _ g 0 cf _ hsl (fun hx => by
        rcases (hS g (hI3 g (.inl hx))).1 with e | e
        · exact hgS e
        · omega)).mono ?_
      rintro e w9 ⟨rfl, I4, s9⟩
      refine ⟨_, rfl, rfl, s9.kp.wider hI3, I4, K3, fun y hy => ?_, s9.jd⟩
      rcases s9.sub y hy with h1 | h1
      · exact .inl (hI3 y h1)
      · exact .inr ⟨h1, (s9.jd.lt y hy).2⟩
    obtain rfl := hv; (go_simp; refine hK _ ?_; clear hK K)
    repeat (first | (refine wx_quietU (by rfl) (by rfl) (by rfl) (fun K hK => ?_); go_big_quiet_op; refine hK _ ?_; clear hK K) | (refine wx_quietG (by rfl) (by rfl) (by rfl) (by rfl) (by rfl) (fun K hK => ?_); go_big_quiet_op; refine hK _ ?_; clear hK K) | (refine wx_skipG (by rfl) (by rfl) (by rfl) (fun K hK => ?_); go_simp; refine hK _ ?_; clear hK K) | (refine wx_skipN (by rfl) (by rfl) (by rfl) (fun K hK => ?_); go_simp; refine hK _ ?_; clear hK K))
    refine wx_nil fun w21 hsat => ?_
    obtain ⟨S, hS, hfin⟩ := sat_get hsat 5
    obtain ⟨I5, K5, s2⟩ := stp_sat hsat.1 hS hfin
    have s3 := s1.trans s2
    clear hsat hfin s2 hS hf64 hfs hjd s1
    by_cases hz : sureE D (nextJ D J) ((frameJ J.gen J.all.length l).take 64) = 0
    · have HAP := hid (HAPP.out.1 hz)
      have hnj : noteJ J (sureE D (nextJ D J) ((frameJ J.gen J.all.length l).take 64)) = J := by rw [hz]; rfl
      rw [hnj] at s3
      rw [hz]
      have hl21 := sl_kept hl s3.kp (fun ad had => by injection had with had; subst had; exact hnb)
      have hsz21 := s3.size
      clear HAPP hnj hz
      go_wp2_with fail
      refine (clone_any b off m c l w21 hl21 (by omega)).mono ?_
      rintro e w22 ⟨A8, c8, rfl, hown8, hb8⟩
      obtain ⟨g8, rfl, hg8, hg8'⟩ := own_some hown8 (by omega)
      have s4 := s3.trans (Stp.ofBelow s3.jd hb8)
      have hn8 : ¬ (I5 g8 ∨ K5 g8) := fun e => by have := (s3.jd.lt g8 e).2; omega
      have hfew := hO.few
      go_wp2_with fail
      refine (add_any base w22 _ J j d I5 K5 s4.jd (Nat.le_trans hbase s4.size) (by omega) (by omega) g8 0 m c8 l (own_sl hown8) (by omega) ⟨by omega, hg8'⟩ hn8).mono ?_
      rintro e w23 ⟨rfl, K6, hjd6, hk6, hs6⟩
      have s5 : Stp base w w23 (sureD D (nextJ D J) ((frameJ J.gen J.all.length l).take 64)) (addJ J l) j d I K I5 K6 := by
        refine ⟨hjd6, s4.kp.step hk6 (fun y hy => s4.sub y (.inr hy)), fun y hy => ?_⟩
        rcases hy with hy | hy
        · exact s4.sub y (.inl hy)
        · rcases hs6 y hy with e | e | e
          · exact s4.sub y (.inr e)
          · exact .inr (by omega)
          · exact .inr (Nat.le_trans s4.size e)
      clear hjd6 hk6 hs6 s4 s3 hown8 hb8 hl21 hl hF1 hF
      go_wp2_with fail
      go_ret
      rw [HAP.out]
      exact ⟨rfl, I5, K6, s5⟩
    · have HAP := hid (HAPP.out.2 hz)
      have hz2 : (sureE D (nextJ D J) ((frameJ J.gen J.all.length l).take 64) != 0) = true := by simpa using hz
      clear HAPP hz hl hF1 hF
      go_wp2_with fail
      go_ret
      rw [HAP.out]
      exact ⟨rfl, I5, K5, s3⟩
theorem append_any (base n : Nat) (w : World) (D : Dk) (J : Jn) (j d : Nat) (I K : Nat → Prop) (h : Jd base w D J j d I K) (hF : FitJ D n) (hn : 2 ≤ n ∧ n ≤ 1000) (hbase : base ≤ w.heap.size) (hO : JOk J) (b off m c : Nat) (l : List UInt8) (hl : Sl w 1 (.slice (some ⟨b, off, none⟩) m c) (B8 l)) (hnb : ¬ (I b ∨ K b)) :
    Calls Try.prog 61 #[.pointer (some ⟨j, 0, none⟩), .slice (some ⟨b, off, none⟩) m c] w fun e w' => e = .returned (.int .i64 (appS D J l).2.2) ∧ ∃ I' K', Stp base w w' (appS D J l).1 (appS D J l).2.1 j d I K I' K' := by
  by_cases hm : mayJ D J [l] J.used = 0
  · exact append_yes base n w D J j d I K h hF hn hbase hO b off m c l hl hnb hm
  · have hA : appS D J l = (D, J, mayJ D J [l] J.used) := by unfold appS; rw [if_pos hm]
    rw [hA]
    refine (append_no base n w D J j d I K h hF hn hO _ m c l hl hm).mono ?_
    rintro e w' ⟨rfl, hb⟩
    exact ⟨rfl, I, K, Stp.ofBelow h hb⟩
end Go.Proofs.Ytfhlidlmipleaaa
