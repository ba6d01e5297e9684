/-
  Contract of Append.
  Contract of read.
  Contract of Open.
  Contract of Begin, where all goes through.
  What 'stays' of the law comes to, reckoned.
  Contract of the law's stays: true.
  The reference's Crc and Takes.
  The walk of JournalSums.
  A disk whose power stays: nothing fails; what Append does then.
  The walk of JournalRooms.
-/
import Derived.Test.YtfhlidlmipleaaaJzA
import Derived.Deep.AppendSrc
import Derived.Test.YtfhlidlmipleaaaDkI
import Derived.Lib.SlBytesConst
namespace Go.Proofs.Ytfhlidlmipleaaa
set_option linter.unusedVariables false
set_option linter.unusedSimpArgs false
open Go Go.RowKit LM

/-- the rest of an entry's frame, flushed -/
def apR (D : Dk) (J : Jn) (l : List UInt8) : Dk × Int :=
  if 1 < takesN l.length then
    (if (restS D (nextJ D J) (frameJ J.gen J.all.length l) (takesN l.length - 1)).2 = 0 then (flD (restS D (nextJ D J) (frameJ J.gen J.all.length l) (takesN l.length - 1)).1, flE (restS D (nextJ D J) (frameJ J.gen J.all.length l) (takesN l.length - 1)).1)
     else restS D (nextJ D J) (frameJ J.gen J.all.length l) (takesN l.length - 1))
  else (D, 0)
def appS (D : Dk) (J : Jn) (l : List UInt8) : Dk × Jn × Int :=
  if mayJ D J [l] J.used ≠ 0 then (D, J, mayJ D J [l] J.used)
  else if (apR D J l).2 ≠ 0 then ((apR D J l).1, noteJ J (apR D J l).2, (apR D J l).2)
  else if sureE (apR D J l).1 (nextJ D J) ((frameJ J.gen J.all.length l).take 64) ≠ 0 then (sureD (apR D J l).1 (nextJ D J) ((frameJ J.gen J.all.length l).take 64), noteJ J (sureE (apR D J l).1 (nextJ D J) ((frameJ J.gen J.all.length l).take 64)), sureE (apR D J l).1 (nextJ D J) ((frameJ J.gen J.all.length l).take 64))
  else (sureD (apR D J l).1 (nextJ D J) ((frameJ J.gen J.all.length l).take 64), addJ J l, 0)
theorem FitJ.apR {D : Dk} {n : Nat} (h : FitJ D n) (J : Jn) (l : List UInt8) : FitJ (apR D J l).1 n := by
  unfold Go.Proofs.Ytfhlidlmipleaaa.apR
  split
  · split
    · exact (h.rest _ _ _).flush
    · exact h.rest _ _ _
  · exact h
theorem FitJ.app {D : Dk} {n : Nat} (h : FitJ D n) (J : Jn) (l : List UInt8) : FitJ (appS D J l).1 n := by
  unfold appS
  split
  · exact h
  · split
    · exact h.apR J l
    · split
      · exact (h.apR J l).sure _ _
      · exact (h.apR J l).sure _ _
theorem mayJ_one {D : Dk} {J : Jn} {l : List UInt8} {u : Nat} (h : mayJ D J [l] u = 0) : J.gone = false ∧ 1 ≤ l.length ∧ l.length ≤ 8192 ∧ u + takesN l.length ≤ sizeJ D := by
  unfold mayJ at h
  split at h
  · cases h
  · rename_i hg
    unfold mayL at h
    split at h
    · cases h
    · unfold mayL at h
      split at h
      · cases h
      · exact ⟨by simpa using hg, by omega, by omega, by omega⟩
set_option maxRecDepth 100000 in
set_option maxHeartbeats 400000 in
theorem append_none (w : World) (v : Value) : Calls Try.prog 61 #[.pointer none, v] w fun e w' => e = .returned (.int .i64 1) ∧ w' = w := by
  go_enter Try.func61, Try.ntmps61
  go_wp2_with fail
  go_ret
  exact ⟨rfl, rfl⟩
/-- may, whether the journal is gone or not -/
theorem mayj_any (base : Nat) (w : World) (D : Dk) (J : Jn) (j d : Nat) (I K : Nat → Prop) (h : Jd base w D J j d I K) (h2 : 2 ≤ D.stay.length) (h3 : D.stay.length ≤ 1024) (A : Option Addr) (n c : Nat) (vs : List Value) (ls : List (List UInt8)) (F : Nat → Prop) (hE : Ents w A n c vs ls F) (hn : n ≤ 1048576) (u : Nat) (hu : u ≤ 1099511627776) :
    Calls Try.prog 113 #[.pointer (some ⟨j, 0, none⟩), .slice A n c, .int .i64 u] w fun e w' => e = .returned (.int .i64 (mayJ D J ls u)) ∧ w' = w := by
  unfold mayJ
  cases hg : J.gone with
  | true =>
    rw [if_pos rfl]
    exact may_gone base w D J j d I K h hg _ _
  | false =>
    rw [if_neg Bool.false_ne_true]
    exact may_any' base w D J j d I K h h2 h3 hg A n c vs ls F hE hn u hu
theorem ents_one (w : World) (A : Option Addr) (n c : Nat) (l : List UInt8) (hs : Sl w 1 (.slice A n c) (B8 l)) : Ents (w.alloc (.cells #[.slice A n c] 27)) (some ⟨w.heap.size, 0, none⟩) 1 1 [.slice A n c] [l] (fun _ => True) := by
  refine ⟨⟨_, _, _, rfl, by simp, Nat.le_refl _, by simp [maxLen], fun _ => ⟨w.heap.size, 0, rfl, by simp, fun i hi => ?_⟩⟩, rfl, fun k hk => ?_⟩
  · obtain rfl : i = 0 := by omega
    rw [World.cell?_alloc_at _ _ _ _ rfl]
    rfl
  · simp at hk
    subst hk
    exact ⟨A, n, c, rfl, hs.alloc _, fun _ _ _ => trivial⟩
set_option maxRecDepth 100000 in
set_option maxHeartbeats 1600000 in
theorem append_no (base n : Nat) (w : World) (D : Dk) (J : Jn) (j d : Nat) (I K : Nat → Prop) (h : Jd base w D J j d I K) (hF : FitJ D n) (hn : 2 ≤ n ∧ n ≤ 1000) (hO : JOk J) (A : Option Addr) (m c : Nat) (l : List UInt8) (hl : Sl w 1 (.slice A m c) (B8 l)) (hm : mayJ D J [l] J.used ≠ 0) :
    Calls Try.prog 61 #[.pointer (some ⟨j, 0, none⟩), .slice A m c] w fun e w' => e = .returned (.int .i64 (mayJ D J [l] J.used)) ∧ Below w.heap.size w w' := by
  obtain ⟨Aa, ca, hjl, hca1, hca2, q0, q1, q2, q3, q4, q5⟩ := h.jn.cells
  have hlen := hF.len
  have hb1 := (Below.refl w.heap.size w).alloc (Nat.le_refl _) (.cells #[.slice A m c] 27)
  have hE := ents_one w A m c l hl
  have q4' := (hb1.cell (p := ⟨j, 4, none⟩) hjl).trans q4
  have hu := hO.used
  have hm2 : (mayJ D J [l] J.used != 0) = true := by simpa using hm
  clear q0 q1 q2 q3 q5 q4
  go_enter Try.func61, Try.ntmps61
  go_wp2_with fail
  refine (mayj_any base _ D J j d I K (h.below hb1) (by omega) (by omega) _ 1 1 _ [l] _ hE (by omega) J.used (by omega)).mono ?_
  rintro e w2 ⟨rfl, rfl⟩
  clear hE q4' hm
  go_wp2_with fail
  go_ret
  exact ⟨rfl, hb1⟩
theorem stp_sat {base : Nat} {w w' : World} {D2 : Dk} {J2 : Jn} {j d : Nat} {I K S : Nat → Prop} (hk : Kept (fun b => False ∨ (I b ∨ K b)) w w') (hS : ∀ b, S b → ((False ∨ (I b ∨ K b)) ∨ w.heap.size ≤ b) ∧ b < w'.heap.size) (h : JdF base D2 J2 j d S w') : ∃ I' K', Stp base w w' D2 J2 j d I K I' K' := by
  obtain ⟨I', K', h1, h2⟩ := h
  refine ⟨I', K', h2, hk.wider (fun b hb => hb.elim False.elim id), fun b hb => ?_⟩
  rcases (hS b (h1 b hb)).1 with e | e
  · exact .inl (e.elim False.elim id)
  · exact .inr e
set_option maxRecDepth 100000 in
set_option maxHeartbeats 6400000 in
theorem append_yes (base n : Nat) (w : World) (D : Dk) (J : Jn) (j d : Nat) (I K : Nat → Prop) (h : Jd base w D J j d I K) (hF : FitJ D n) (hn : 2 ≤ n ∧ n ≤ 1000) (hbase : base ≤ w.heap.size) (hO : JOk J) (b off m c : Nat) (l : List UInt8) (hl : Sl w 1 (.slice (some ⟨b, off, none⟩) m c) (B8 l)) (hnb : ¬ (I b ∨ K b)) (hm : mayJ D J [l] J.used = 0) :
    Calls Try.prog 61 #[.pointer (some ⟨j, 0, none⟩), .slice (some ⟨b, off, none⟩) m c] w fun e w' => e = .returned (.int .i64 (appS D J l).2.2) ∧ ∃ I' K', Stp base w w' (appS D J l).1 (appS D J l).2.1 j d I K I' K' := by
  obtain ⟨Aa, ca, hjl, hca1, hca2, q0, q1, q2, q3, q4, q5⟩ := h.jn.cells
  have hlen := hF.len
  have hb1 := (Below.refl w.heap.size w).alloc (Nat.le_refl _) (.cells #[.slice (some ⟨b, off, none⟩) m c] 27)
  have hE := ents_one w _ m c l hl
  have q4' := (hb1.cell (p := ⟨j, 4, none⟩) hjl).trans q4
  have hu := hO.used
  obtain ⟨hgo, hl1, hl2, hl3⟩ := mayJ_one hm
  have hml := hl.len.1
  have HS : Hid (appS D J l = if (apR D J l).2 ≠ 0 then ((apR D J l).1, noteJ J (apR D J l).2, (apR D J l).2)
      else if sureE (apR D J l).1 (nextJ D J) ((frameJ J.gen J.all.length l).take 64) ≠ 0 then (sureD (apR D J l).1 (nextJ D J) ((frameJ J.gen J.all.length l).take 64), noteJ J (sureE (apR D J l).1 (nextJ D J) ((frameJ J.gen J.all.length l).take 64)), sureE (apR D J l).1 (nextJ D J) ((frameJ J.gen J.all.length l).take 64))
      else (sureD (apR D J l).1 (nextJ D J) ((frameJ J.gen J.all.length l).take 64), addJ J l, 0)) := hid (by unfold appS; rw [if_neg (by omega)])
  clear q0 q1 q2 q3 q5 q4
  have hbl : b < w.heap.size := by
    obtain ⟨b', off', e, h1, _⟩ := hl.byte (k := 0) (by omega)
    injection e with e
    injection e with e1 e2
    subst e1
    exact h1
  go_enter Try.func61, Try.ntmps61
  go_wp2_with fail
  refine (mayj_any base _ D J j d I K (h.below hb1) (by omega) (by omega) _ 1 1 _ [l] _ hE (by omega) J.used (by omega)).mono ?_
  rintro e w2 ⟨rfl, rfl⟩
  rw [hm]
  clear hE q4' hm
  have s0 := Stp.ofBelow h hb1
  have hl2' := hl.below hb1
  have hgen := hO.gen
  have hfew := hO.few
  generalize w.alloc (.cells #[.slice (some ⟨b, off, none⟩) m c] 27) = w2 at *
  go_wp2_with fail
  refine (frame_any base w2 J j d K s0.jd.jn (by omega) (by omega) _ m c l hl2' (by omega)).mono ?_
  rintro e w3 ⟨Af, cf, rfl, hownf, hb3⟩
  have htk : 1 ≤ takesN m ∧ takesN m ≤ 130 := by unfold takesN; omega
  obtain ⟨g, rfl, hg1, hg2⟩ := own_some hownf (by omega)
  have hfs := own_sl hownf
  have s3 := s0.trans (Stp.ofBelow s0.jd hb3)
  have hgn : ¬ (I g ∨ K g) := fun e => by have := (s0.jd.lt g e).2; omega
  have hwsz := s0.size
  clear hl2' hownf hb3 s0 hb1 h
  by_cases ht : 1 < takesN m
  · have hbw3 := Nat.le_trans hbase s3.size
    have hhalf := hO.half
    have hfs' : Sl w3 1 (.slice (some ⟨g, 0, none⟩) (64 * takesN m) cf) (B8 (frameJ J.gen J.all.length l)) := by rw [Nat.mul_comm]; exact hfs
    go_wp2_with fail
    rw [show takesN m * 64 = 64 * takesN m from Nat.mul_comm _ _]
    refine (rest_any base n w3 D J j d I K s3.jd hF hn hbw3 hhalf (by omega) g 0 cf (takesN m) _ hfs' hgn (by omega)).mono ?_
    rintro e w4 ⟨rfl, I4, s4⟩
    have s5 := s3.trans s4
    have hsz4 := s4.size
    have hg4 : ¬ (I4 g ∨ K g) := s4.nb hg2 hgn
    have hfs4 := sl_kept hfs s4.kp (fun ad had => by injection had with had; subst had; exact hgn)
    have hF4 := hF.rest (nextJ D J) (frameJ J.gen J.all.length l) (takesN m - 1)
    have HR : Hid (apR D J l = if (restS D (nextJ D J) (frameJ J.gen J.all.length l) (takesN m - 1)).2 = 0 then (flD (restS D (nextJ D J) (frameJ J.gen J.all.length l) (takesN m - 1)).1, flE (restS D (nextJ D J) (frameJ J.gen J.all.length l) (takesN m - 1)).1) else restS D (nextJ D J) (frameJ J.gen J.all.length l) (takesN m - 1)) := hid (by unfold apR; rw [hml, if_pos ht])
    generalize restS D (nextJ D J) (frameJ J.gen J.all.length l) (takesN m - 1) = R at *
    clear hfs hfs' s3 s4
    by_cases h0 : R.2 = 0
    · rw [if_pos h0] at HR
      rw [h0]
      clear h0
      have hjl4 : ∃ (Aa : Option Addr), w4.cell? ⟨j, 0, none⟩ = some (.pointer (some ⟨d, 0, none⟩)) := by
        obtain ⟨Aa, _, _, _, _, q0, _⟩ := s5.jd.jn.cells
        exact ⟨Aa, q0⟩
      obtain ⟨_, q0⟩ := hjl4
      go_wp2_with fail
      refine (dsk_flush base w4 R.1 d I4 s5.jd.dk (Nat.le_trans hbase s5.size) hF4.ok).mono ?_
      rintro e w5 ⟨rfl, I5', hd5, ht5⟩
      have s6 := s5.jd.turn hd5 ht5
      have hsz6 := s6.size
      have s1 := s5.trans s6
      have hfs := sl_kept hfs4 s6.kp (fun ad had => by injection had with had; subst had; exact hg4)
      have hgn5 : ¬ (I5' g ∨ K g) := s6.nb (by omega) hg4
      have hF1 : FitJ (flD R.1) n := hF4.flush
      clear q0 hd5 ht5 s6 s5 hfs4 hgn hF4
      by_cases hz1 : flE R.1 = 0
      · have HAPP : Hid ((sureE (flD R.1) (nextJ D J) ((frameJ J.gen J.all.length l).take 64) = 0 → appS D J l = (sureD (flD R.1) (nextJ D J) ((frameJ J.gen J.all.length l).take 64), addJ J l, 0)) ∧ (sureE (flD R.1) (nextJ D J) ((frameJ J.gen J.all.length l).take 64) ≠ 0 → appS D J l = (sureD (flD R.1) (nextJ D J) ((frameJ J.gen J.all.length l).take 64), noteJ J (sureE (flD R.1) (nextJ D J) ((frameJ J.gen J.all.length l).take 64)), sureE (flD R.1) (nextJ D J) ((frameJ J.gen J.all.length l).take 64)))) :=
          hid ⟨fun e => by rw [HS.out, HR.out]; simp only; rw [if_neg (by simpa using hz1), if_neg (by simpa using e)], fun e => by rw [HS.out, HR.out]; simp only; rw [if_neg (by simpa using hz1), if_pos e]⟩
        rw [hz1]
        clear HS HR hz1
        have hgn := hgn5
        clear hgn5
        go_wp2_with fail
        have hlen1 := hF1.len
        have hnx : nextJ (flD R.1) J = nextJ D J := nextJ_len (hF1.len.trans hF.len.symm) J
        have hnl := nextJ_le (D := D) (J := J) (by rw [hF.len]; omega) hO.half
        have hhalf := hO.half
        have hus := hO.used
        have hjl := (s1.jd.lt j (.inr s1.jd.jn.mem)).2
        have hcf : 64 ≤ cf := by have := hfs.len.2.1; omega
        have hf64 : Sl w5 1 (.slice (some ⟨g, 0, none⟩) 64 cf) (B8 ((frameJ J.gen J.all.length l).take 64)) := hfs.take 64 (by omega)
        have hgS : ¬ (False ∨ (I5' g ∨ K g)) := fun e => hgn (e.elim False.elim id)
        have hjd := s1.jd
        have hbw := Nat.le_trans hbase s1.size
        refine wp_region_loud (fun b => False ∨ (I5' b ∨ K b)) [(2, factL [100] (fun v => v = .int .i64 (nextJ D J)) (fun _ => JdF base (flD R.1) J j d)), (5, factL [2] (fun v => v = .int .i64 (sureE (flD R.1) (nextJ D J) ((frameJ J.gen J.all.length l).take 64))) (fun _ => JdF base (sureD (flD R.1) (nextJ D J) ((frameJ J.gen J.all.length l).take 64)) (noteJ J (sureE (flD R.1) (nextJ D J) ((frameJ J.gen J.all.length l).take 64))) j d))] (addL 100 (JdF base (flD R.1) J j d) (fun _ => Fact.none)) (by kernel_rfl) (by kernel_rfl)
          (.cons (factL_ok ⟨_, rfl⟩ (fun _ => good_jd _ _ _ _ _)) (.cons (factL_ok ⟨_, rfl⟩ (fun _ => good_jd _ _ _ _ _)) .nil)) (good_add _ (good_jd _ _ _ _ _) good_nothing)
          (sat_add 100 sat_none (fun b _ h => h) (fun b hb => (hjd.lt b hb).2) ⟨I5', K, fun b hb => hb, hjd⟩) (WX.out ?_)
        repeat (first | (refine wx_quietU (by rfl) (by rfl) (by rfl) (fun K hK => ?_); go_big_quiet_op; refine hK _ ?_; clear hK K) | (refine wx_quietG (by rfl) (by rfl) (by rfl) (by rfl) (by rfl) (fun K hK => ?_); go_big_quiet_op; refine hK _ ?_; clear hK K) | (refine wx_skipG (by rfl) (by rfl) (by rfl) (fun K hK => ?_); go_simp; refine hK _ ?_; clear hK K) | (refine wx_skipN (by rfl) (by rfl) (by rfl) (fun K hK => ?_); go_simp; refine hK _ ?_; clear hK K))
        refine wx_loudU (us := [100]) (by rfl) (by rfl) (fun S wS hC hS hU => runs_enter (f := 117) (by go_simp <;> rfl) ?_) (fun v hv K hK => ?_)
        · obtain ⟨I3, K3, hI3, hD3⟩ := (hU 100 (by simp) : JdF base (flD R.1) J j d S wS)
          refine (next_any base wS (flD R.1) J j d I3 K3 hD3.dk hD3.jn (by omega) (by omega) hhalf (by omega)).mono ?_
          rintro e w9 ⟨rfl, hb9⟩
          exact ⟨.int .i64 (nextJ D J), by rw [hnx], rfl, Kept.of_below hb9, I3, K3, fun y hy => .inl (hI3 y hy), hD3.below hb9⟩
        obtain rfl := hv; (go_simp; refine hK _ ?_; clear hK K)
        repeat (first | (refine wx_quietU (by rfl) (by rfl) (by rfl) (fun K hK => ?_); go_big_quiet_op; refine hK _ ?_; clear hK K) | (refine wx_quietG (by rfl) (by rfl) (by rfl) (by rfl) (by rfl) (fun K hK => ?_); go_big_quiet_op; refine hK _ ?_; clear hK K) | (refine wx_skipG (by rfl) (by rfl) (by rfl) (fun K hK => ?_); go_simp; refine hK _ ?_; clear hK K) | (refine wx_skipN (by rfl) (by rfl) (by rfl) (fun K hK => ?_); go_simp; refine hK _ ?_; clear hK K))
        refine wx_loudU (us := [2]) (by rfl) (by rfl) (fun S wS hC hS hU => runs_enter (f := 111) (by go_simp <;> rfl) ?_) (fun v hv K hK => ?_)
        · obtain ⟨I3, K3, hI3, hD3⟩ := (hU 2 (by simp) : JdF base (flD R.1) J j d S wS)
          have hsl := sl_kept hf64 hC (fun ad had => by injection had with had; subst had; exact hgS)
          refine (sure_any base n wS (flD R.1) J j d I3 K3 hD3 hF1 hn.2 (Nat.le_trans hbw hC.size) _ g 0 cf _ hsl (fun hx => by
            rcases (hS g (hI3 g (.inl hx))).1 with e | e
            · exact hgS e
            · omega)).mono ?_
          rintro e w9 ⟨rfl, I4, s9⟩
          refine ⟨_, rfl, rfl, s9.kp.wider hI3, I4, K3, fun y hy => ?_, s9.jd⟩
          rcases s9.sub y hy with h1 | h1
          · exact .inl (hI3 y h1)
          · exact .inr ⟨h1, (s9.jd.lt y hy).2⟩
        obtain rfl := hv; (go_simp; refine hK _ ?_; clear hK K)
        repeat (first | (refine wx_quietU (by rfl) (by rfl) (by rfl) (fun K hK => ?_); go_big_quiet_op; refine hK _ ?_; clear hK K) | (refine wx_quietG (by rfl) (by rfl) (by rfl) (by rfl) (by rfl) (fun K hK => ?_); go_big_quiet_op; refine hK _ ?_; clear hK K) | (refine wx_skipG (by rfl) (by rfl) (by rfl) (fun K hK => ?_); go_simp; refine hK _ ?_; clear hK K) | (refine wx_skipN (by rfl) (by rfl) (by rfl) (fun K hK => ?_); go_simp; refine hK _ ?_; clear hK K))
        refine wx_nil fun w21 hsat => ?_
        obtain ⟨S, hS, hfin⟩ := sat_get hsat 5
        obtain ⟨I5, K5, s2⟩ := stp_sat hsat.1 hS hfin
        have s3 := s1.trans s2
        clear hsat hfin s2 hS hf64 hfs hjd s1
        by_cases hz : sureE (flD R.1) (nextJ D J) ((frameJ J.gen J.all.length l).take 64) = 0
        · have HAP := hid (HAPP.out.1 hz)
          have hnj : noteJ J (sureE (flD R.1) (nextJ D J) ((frameJ J.gen J.all.length l).take 64)) = J := by rw [hz]; rfl
          rw [hnj] at s3
          rw [hz]
          have hl21 := sl_kept hl s3.kp (fun ad had => by injection had with had; subst had; exact hnb)
          have hsz21 := s3.size
          clear HAPP hnj hz
          go_wp2_with fail
          refine (clone_any b off m c l w21 hl21 (by omega)).mono ?_
          rintro e w22 ⟨A8, c8, rfl, hown8, hb8⟩
          obtain ⟨g8, rfl, hg8, hg8'⟩ := own_some hown8 (by omega)
          have s4 := s3.trans (Stp.ofBelow s3.jd hb8)
          have hn8 : ¬ (I5 g8 ∨ K5 g8) := fun e => by have := (s3.jd.lt g8 e).2; omega
          have hfew := hO.few
          go_wp2_with fail
          refine (add_any base w22 _ J j d I5 K5 s4.jd (Nat.le_trans hbase s4.size) (by omega) (by omega) g8 0 m c8 l (own_sl hown8) (by omega) ⟨by omega, hg8'⟩ hn8).mono ?_
          rintro e w23 ⟨rfl, K6, hjd6, hk6, hs6⟩
          have s5 : Stp base w w23 (sureD (flD R.1) (nextJ D J) ((frameJ J.gen J.all.length l).take 64)) (addJ J l) j d I K I5 K6 := by
            refine ⟨hjd6, s4.kp.step hk6 (fun y hy => s4.sub y (.inr hy)), fun y hy => ?_⟩
            rcases hy with hy | hy
            · exact s4.sub y (.inl hy)
            · rcases hs6 y hy with e | e | e
              · exact s4.sub y (.inr e)
              · exact .inr (by omega)
              · exact .inr (Nat.le_trans s4.size e)
          clear hjd6 hk6 hs6 s4 s3 hown8 hb8 hl21 hl hF1 hF
          go_wp2_with fail
          go_ret
          rw [HAP.out]
          exact ⟨rfl, I5, K6, s5⟩
        · have HAP := hid (HAPP.out.2 hz)
          have hz2 : (sureE (flD R.1) (nextJ D J) ((frameJ J.gen J.all.length l).take 64) != 0) = true := by simpa using hz
          clear HAPP hz hl hF1 hF
          go_wp2_with fail
          go_ret
          rw [HAP.out]
          exact ⟨rfl, I5, K5, s3⟩
      · have HAP : Hid (appS D J l = (flD R.1, noteJ J (flE R.1), flE R.1)) := hid (by rw [HS.out, HR.out]; simp only; rw [if_pos hz1])
        have hz2 : (flE R.1 != 0) = true := by simpa using hz1
        clear HS HR hz1 hfs
        go_wp2_with fail
        refine (noted_any base w5 (flD R.1) J j d I5' K s1.jd (flE R.1)).mono ?_
        rintro e w6 ⟨rfl, s7⟩
        have s8 := s1.trans s7
        clear s1 s7
        go_wp2_with fail
        go_ret
        rw [HAP.out]
        exact ⟨rfl, I5', K, s8⟩
    · rw [if_neg h0] at HR
      have HAP : Hid (appS D J l = (R.1, noteJ J R.2, R.2)) := hid (by rw [HS.out, HR.out, if_pos h0])
      have hz2 : (R.2 != 0) = true := by simpa using h0
      have hz3 : (R.2 == 0) = false := by simpa using h0
      clear HS HR h0 hfs4
      go_wp2_with fail
      refine (noted_any base w4 R.1 J j d I4 K s5.jd R.2).mono ?_
      rintro e w6 ⟨rfl, s7⟩
      have s8 := s5.trans s7
      clear s5 s7
      go_wp2_with fail
      go_ret
      rw [HAP.out]
      exact ⟨rfl, I4, K, s8⟩
  · have ht1 : takesN m = 1 := by omega
    have hR : apR D J l = (D, 0) := by unfold apR; rw [if_neg (by rw [hml]; exact ht)]
    rw [hR] at HS
    simp only [ne_eq, not_true_eq_false, if_false] at HS
    have HAPP : Hid ((sureE D (nextJ D J) ((frameJ J.gen J.all.length l).take 64) = 0 → appS D J l = (sureD D (nextJ D J) ((frameJ J.gen J.all.length l).take 64), addJ J l, 0)) ∧ (sureE D (nextJ D J) ((frameJ J.gen J.all.length l).take 64) ≠ 0 → appS D J l = (sureD D (nextJ D J) ((frameJ J.gen J.all.length l).take 64), noteJ J (sureE D (nextJ D J) ((frameJ J.gen J.all.length l).take 64)), sureE D (nextJ D J) ((frameJ J.gen J.all.length l).take 64)))) :=
      hid ⟨fun e => by rw [HS.out, if_neg (by simpa using e)], fun e => by rw [HS.out, if_pos e]⟩
    clear HS hR
    have s1 := s3
    have hF1 := hF
    clear s3
    go_wp2_with fail
    have hlen1 := hF1.len
    have hnx : nextJ D J = nextJ D J := nextJ_len (hF1.len.trans hF.len.symm) J
    have hnl := nextJ_le (D := D) (J := J) (by rw [hF.len]; omega) hO.half
    have hhalf := hO.half
    have hus := hO.used
    have hjl := (s1.jd.lt j (.inr s1.jd.jn.mem)).2
    have hcf : 64 ≤ cf := by have := hfs.len.2.1; omega
    have hf64 : Sl w3 1 (.slice (some ⟨g, 0, none⟩) 64 cf) (B8 ((frameJ J.gen J.all.length l).take 64)) := hfs.take 64 (by omega)
    have hgS : ¬ (False ∨ (I g ∨ K g)) := fun e => hgn (e.elim False.elim id)
    have hjd := s1.jd
    have hbw := Nat.le_trans hbase s1.size
    refine wp_region_loud (fun b => False ∨ (I b ∨ K b)) [(2, factL [100] (fun v => v = .int .i64 (nextJ D J)) (fun _ => JdF base D J j d)), (5, factL [2] (fun v => v = .int .i64 (sureE D (nextJ D J) ((frameJ J.gen J.all.length l).take 64))) (fun _ => JdF base (sureD D (nextJ D J) ((frameJ J.gen J.all.length l).take 64)) (noteJ J (sureE D (nextJ D J) ((frameJ J.gen J.all.length l).take 64))) j d))] (addL 100 (JdF base D J j d) (fun _ => Fact.none)) (by kernel_rfl) (by kernel_rfl)
      (.cons (factL_ok ⟨_, rfl⟩ (fun _ => good_jd _ _ _ _ _)) (.cons (factL_ok ⟨_, rfl⟩ (fun _ => good_jd _ _ _ _ _)) .nil)) (good_add _ (good_jd _ _ _ _ _) good_nothing)
      (sat_add 100 sat_none (fun b _ h => h) (fun b hb => (hjd.lt b hb).2) ⟨I, K, fun b hb => hb, hjd⟩) (WX.out ?_)
    repeat (first | (refine wx_quietU (by rfl) (by rfl) (by rfl) (fun K hK => ?_); go_big_quiet_op; refine hK _ ?_; clear hK K) | (refine wx_quietG (by rfl) (by rfl) (by rfl) (by rfl) (by rfl) (fun K hK => ?_); go_big_quiet_op; refine hK _ ?_; clear hK K) | (refine wx_skipG (by rfl) (by rfl) (by rfl) (fun K hK => ?_); go_simp; refine hK _ ?_; clear hK K) | (refine wx_skipN (by rfl) (by rfl) (by rfl) (fun K hK => ?_); go_simp; refine hK _ ?_; clear hK K))
    refine wx_loudU (us := [100]) (by rfl) (by rfl) (fun S wS hC hS hU => runs_enter (f := 117) (by go_simp <;> rfl) ?_) (fun v hv K hK => ?_)
    · obtain ⟨I3, K3, hI3, hD3⟩ := (hU 100 (by simp) : JdF base D J j d S wS)
      refine (next_any base wS D J j d I3 K3 hD3.dk hD3.jn (by omega) (by omega) hhalf (by omega)).mono ?_
      rintro e w9 ⟨rfl, hb9⟩
      exact ⟨.int .i64 (nextJ D J), by rw [hnx], rfl, Kept.of_below hb9, I3, K3, fun y hy => .inl (hI3 y hy), hD3.below hb9⟩
    obtain rfl := hv; (go_simp; refine hK _ ?_; clear hK K)
    repeat (first | (refine wx_quietU (by rfl) (by rfl) (by rfl) (fun K hK => ?_); go_big_quiet_op; refine hK _ ?_; clear hK K) | (refine wx_quietG (by rfl) (by rfl) (by rfl) (by rfl) (by rfl) (fun K hK => ?_); go_big_quiet_op; refine hK _ ?_; clear hK K) | (refine wx_skipG (by rfl) (by rfl) (by rfl) (fun K hK => ?_); go_simp; refine hK _ ?_; clear hK K) | (refine wx_skipN (by rfl) (by rfl) (by rfl) (fun K hK => ?_); go_simp; refine hK _ ?_; clear hK K))
    refine wx_loudU (us := [2]) (by rfl) (by rfl) (fun S wS hC hS hU => runs_enter (f := 111) (by go_simp <;> rfl) ?_) (fun v hv K hK => ?_)
    · obtain ⟨I3, K3, hI3, hD3⟩ := (hU 2 (by simp) : JdF base D J j d S wS)
      have hsl := sl_kept hf64 hC (fun ad had => by injection had with had; subst had; exact hgS)
      refine (sure_any base n wS D J j d I3 K3 hD3 hF1 hn.2 (Nat.le_trans hbw hC.size) _ g 0 cf _ hsl (fun hx => by
        rcases (hS g (hI3 g (.inl hx))).1 with e | e
        · exact hgS e
        · omega)).mono ?_
      rintro e w9 ⟨rfl, I4, s9⟩
      refine ⟨_, rfl, rfl, s9.kp.wider hI3, I4, K3, fun y hy => ?_, s9.jd⟩
      rcases s9.sub y hy with h1 | h1
      · exact .inl (hI3 y h1)
      · exact .inr ⟨h1, (s9.jd.lt y hy).2⟩
    obtain rfl := hv; (go_simp; refine hK _ ?_; clear hK K)
    repeat (first | (refine wx_quietU (by rfl) (by rfl) (by rfl) (fun K hK => ?_); go_big_quiet_op; refine hK _ ?_; clear hK K) | (refine wx_quietG (by rfl) (by rfl) (by rfl) (by rfl) (by rfl) (fun K hK => ?_); go_big_quiet_op; refine hK _ ?_; clear hK K) | (refine wx_skipG (by rfl) (by rfl) (by rfl) (fun K hK => ?_); go_simp; refine hK _ ?_; clear hK K) | (refine wx_skipN (by rfl) (by rfl) (by rfl) (fun K hK => ?_); go_simp; refine hK _ ?_; clear hK K))
    refine wx_nil fun w21 hsat => ?_
    obtain ⟨S, hS, hfin⟩ := sat_get hsat 5
    obtain ⟨I5, K5, s2⟩ := stp_sat hsat.1 hS hfin
    have s3 := s1.trans s2
    clear hsat hfin s2 hS hf64 hfs hjd s1
    by_cases hz : sureE D (nextJ D J) ((frameJ J.gen J.all.length l).take 64) = 0
    · have HAP := hid (HAPP.out.1 hz)
      have hnj : noteJ J (sureE D (nextJ D J) ((frameJ J.gen J.all.length l).take 64)) = J := by rw [hz]; rfl
      rw [hnj] at s3
      rw [hz]
      have hl21 := sl_kept hl s3.kp (fun ad had => by injection had with had; subst had; exact hnb)
      have hsz21 := s3.size
      clear HAPP hnj hz
      go_wp2_with fail
      refine (clone_any b off m c l w21 hl21 (by omega)).mono ?_
      rintro e w22 ⟨A8, c8, rfl, hown8, hb8⟩
      obtain ⟨g8, rfl, hg8, hg8'⟩ := own_some hown8 (by omega)
      have s4 := s3.trans (Stp.ofBelow s3.jd hb8)
      have hn8 : ¬ (I5 g8 ∨ K5 g8) := fun e => by have := (s3.jd.lt g8 e).2; omega
      have hfew := hO.few
      go_wp2_with fail
      refine (add_any base w22 _ J j d I5 K5 s4.jd (Nat.le_trans hbase s4.size) (by omega) (by omega) g8 0 m c8 l (own_sl hown8) (by omega) ⟨by omega, hg8'⟩ hn8).mono ?_
      rintro e w23 ⟨rfl, K6, hjd6, hk6, hs6⟩
      have s5 : Stp base w w23 (sureD D (nextJ D J) ((frameJ J.gen J.all.length l).take 64)) (addJ J l) j d I K I5 K6 := by
        refine ⟨hjd6, s4.kp.step hk6 (fun y hy => s4.sub y (.inr hy)), fun y hy => ?_⟩
        rcases hy with hy | hy
        · exact s4.sub y (.inl hy)
        · rcases hs6 y hy with e | e | e
          · exact s4.sub y (.inr e)
          · exact .inr (by omega)
          · exact .inr (Nat.le_trans s4.size e)
      clear hjd6 hk6 hs6 s4 s3 hown8 hb8 hl21 hl hF1 hF
      go_wp2_with fail
      go_ret
      rw [HAP.out]
      exact ⟨rfl, I5, K6, s5⟩
    · have HAP := hid (HAPP.out.2 hz)
      have hz2 : (sureE D (nextJ D J) ((frameJ J.gen J.all.length l).take 64) != 0) = true := by simpa using hz
      clear HAPP hz hl hF1 hF
      go_wp2_with fail
      go_ret
      rw [HAP.out]
      exact ⟨rfl, I5, K5, s3⟩
theorem append_any (base n : Nat) (w : World) (D : Dk) (J : Jn) (j d : Nat) (I K : Nat → Prop) (h : Jd base w D J j d I K) (hF : FitJ D n) (hn : 2 ≤ n ∧ n ≤ 1000) (hbase : base ≤ w.heap.size) (hO : JOk J) (b off m c : Nat) (l : List UInt8) (hl : Sl w 1 (.slice (some ⟨b, off, none⟩) m c) (B8 l)) (hnb : ¬ (I b ∨ K b)) :
    Calls Try.prog 61 #[.pointer (some ⟨j, 0, none⟩), .slice (some ⟨b, off, none⟩) m c] w fun e w' => e = .returned (.int .i64 (appS D J l).2.2) ∧ ∃ I' K', Stp base w w' (appS D J l).1 (appS D J l).2.1 j d I K I' K' := by
  by_cases hm : mayJ D J [l] J.used = 0
  · exact append_yes base n w D J j d I K h hF hn hbase hO b off m c l hl hnb hm
  · have hA : appS D J l = (D, J, mayJ D J [l] J.used) := by unfold appS; rw [if_pos hm]
    rw [hA]
    refine (append_no base n w D J j d I K h hF hn hO _ m c l hl hm).mono ?_
    rintro e w' ⟨rfl, hb⟩
    exact ⟨rfl, I, K, Stp.ofBelow h hb⟩
end Go.Proofs.Ytfhlidlmipleaaa
namespace Go.Proofs.Ytfhlidlmipleaaa
set_option linter.unusedVariables false
set_option linter.unusedSimpArgs false
open Go Go.RowKit LM

theorem app_full {P : Program} (w : World) {t e : TypeId} (hT : ST P t e 1 1) (ty : TypeId) {A : Option Addr} {n c : Nat} {xs : List Value} (hs : Sl w 1 (.slice A n c) xs) (h1s : ∀ u ∈ xs, u.oneCell' = true)
    {A2 : Option Addr} {m c2 : Nat} {news : List Value} (hr : Sl w 1 (.slice A2 m c2) news) (h1 : ∀ u ∈ news, u.oneCell' = true) (hroom : c < n + m) (hm : 0 < m) (hby : n + m ≤ 140737488355328) :
    ∃ c' w', (Builtin.append_ #[t, t] ty #[.slice A n c, .slice A2 m c2]).run P w = .ok (.slice (some ⟨w.heap.size, 0, none⟩) (n + m) c') w' ∧ w'.ownsRow w.heap.size e 1 (.slice (some ⟨w.heap.size, 0, none⟩) (n + m) c') (n + m) (xs ++ news) ∧ Below w.heap.size w w' := by
  obtain ⟨ht, hsz, i, z, hi, hz, hsi, hb, hzs⟩ := hT
  have hs0 := hs
  obtain ⟨A', n', c', he, hl, hnc, hcm, hc⟩ := hs
  injection he with e1 e2 e3
  subst e1; subst e2; subst e3
  obtain ⟨A2', m', c2', he, hl2, _, _, hc2⟩ := hr
  injection he with e1 e2 e3
  subst e1; subst e2; subst e3
  obtain ⟨b2, off2, rfl, _, hcell2⟩ := hc2 hm
  have hsrc : Src P i.size t (.slice (some ⟨b2, off2, none⟩) m c2) m news w := Src.ofSlice w ht _ _ _ _ (by rw [hsi]; exact hl2) (fun j u hu => by
    have hj : j < m * 1 := by rw [← hl2]; exact (List.getElem?_eq_some_iff.1 hu).1
    rw [addr_add, hcell2 j hj, hu]) h1
  have hold : (Builtin.firstCells i.size n (.slice A n c)).run P w.drew = .ok xs.toArray w.drew := by
    rcases A with _ | ad
    · have hn0 : n = 0 := by
        rcases Nat.eq_zero_or_pos n with h | h
        · exact h
        · obtain ⟨_, _, h2, _⟩ := hc h
          cases h2
      subst hn0
      have : xs = [] := List.eq_nil_of_length_eq_zero (by omega)
      subst this
      exact run_firstCells_none w.drew i.size 0 0 c
    · refine run_firstCells_some w.drew i.size n ad n c xs (by rw [hsi]; exact hl) (fun j u hu => ?_)
      have hj : j < n * 1 := by rw [← hl]; exact (List.getElem?_eq_some_iff.1 hu).1
      obtain ⟨b, off, hA, _, hcell⟩ := hc (by omega)
      injection hA with hA
      subst hA
      rw [addr_add]
      exact (hcell j hj).trans hu
  have hr := run_append_grow_src (P := P) w t t ty e i z ht hi hz A n c xs hold _ m news hsrc hroom (by simp [maxLen] at *; omega) (by rw [hb]; exact growslice_fits hroom (by omega))
  refine ⟨_, _, hr, ?_, ?_⟩
  · have hge := grownCap_ge w (n + m) c e
    have hcm2 : grownCap w (n + m) c e ≤ maxLen := grownCap_le_maxLen w (n + m) c e (by simp [maxLen]; omega)
    refine ⟨by simp; omega, .inr ⟨w.heap.size, _, _, rfl, Nat.le_refl _, heap_alloc_new w.drew _, hge, hcm2, ?_, ?_⟩⟩
    · simp only [Array.size_append, List.size_toArray, size_zeroCells, hzs, List.length_append]
      omega
    · simp only [Array.toList_append, List.toList_toArray]
      rw [List.take_left' (by simp; omega)]
  · exact (Below.refl _ _).drew.alloc (by simp) _
theorem wpList_app_rb {P : Program} {w : World} {ops : Array Oper} {rest : List Oper} {o : Oper} {a : Act} {Q : Exit → Act → World → Prop} (hgd : o.guard = none) (s x : Operand)
    {t e : TypeId} (hT : ST P t e 1 1) (ho : o.op = .call { callee := .builtin .append, args := #[s, x], argTypes := #[t, t] })
    (base : Nat) {n c : Nat} {A : Option Addr} {xs : List Value} (hs : a.eval s = .slice A n c) {m c2 : Nat} {A2 : Option Addr} {news : List Value}
    (hown : (c < n + m ∧ Sl w 1 (.slice A n c) xs) ∨ w.ownsRow base e 1 (.slice A n c) n xs) (h1s : ∀ u ∈ xs, u.oneCell' = true) (hx : a.eval x = .slice A2 m c2) (hr : Sl w 1 (.slice A2 m c2) news) (h1 : ∀ u ∈ news, u.oneCell' = true)
    (hm : 0 < m) (hby : n + m ≤ 140737488355328) (hbase : base ≤ w.heap.size)
    (h : ∀ A' c' w', w'.ownsRow base e 1 (.slice A' (n + m) c') (n + m) (xs ++ news) → Below base w w' → wpList P ops Q rest (a.put o.dst (.slice A' (n + m) c')) w') : wpList P ops Q (o :: rest) a w := by
  rcases hown with ⟨hroom, hsl⟩ | hown
  · obtain ⟨c', w', hrun, h2, h3⟩ := app_full (P := P) w hT o.type hsl h1s hr h1 hroom hm hby
    refine wpList_plain hgd fun _ hK => ?_
    unfold Oper.wp execOp
    simp only [ho, resolve, invoke, builtin, Sem.run_bind, Sem.run_pure, Result.andThen_ok, List.map_toArray, List.map_cons, List.map_nil, hs, hx, hrun]
    exact hK _ _ (h _ c' w' (own_base h2 hbase) (h3.mono hbase))
  · exact wpList_app hgd s x hT ho base hs hown hx hr h1 (by simp [maxLen]; omega) (by omega) hbase (fun A' c' w' h2 h3 _ => h A' c' w' h2 (grown_below hown h3 hbase))
theorem dsk_read_on (base : Nat) (w : World) (D : Dk) (d : Nat) (I : Nat → Prop) (i : Nat) (h : Dsk base w D d I) (ho : D.off = false) (hi : i < D.stay.length) :
    Calls Try.prog 15 #[.pointer (some ⟨d, 0, none⟩), .int .i64 (i : Int)] w fun e w' => ∃ g, e = .returned (.tuple #[.slice (some ⟨g, 0, none⟩) 64 64, .int .i64 0]) ∧ w.heap.size ≤ g ∧ g < w'.heap.size ∧ Sl w' 1 (.slice (some ⟨g, 0, none⟩) 64 64) (B8 (readB D i)) ∧ Below w.heap.size w w' := by
  obtain ⟨gs, cs, r, Ao, co, h, _⟩ := h
  exact read_any base w D d gs cs r Ao co i h hi ho
/-- what Read tells, as a region's fact -/
def IsRd (v : Value) : Prop := ∃ g, v = .tuple #[.slice (some ⟨g, 0, none⟩) 64 64, .int .i64 0]
theorem isRd_any : ∃ v, IsRd v := ⟨_, 0, rfl⟩
def RdkF (l : List UInt8) (v : Value) : Fact := fun S w => ∃ g, v = .tuple #[.slice (some ⟨g, 0, none⟩) 64 64, .int .i64 0] ∧ S g ∧ Sl w 1 (.slice (some ⟨g, 0, none⟩) 64 64) (B8 l)
theorem good_rdk (l : List UInt8) (v : Value) : Good (RdkF l v) := fun S S' w w' h1 h2 ⟨g, e, h3, h4⟩ => ⟨g, e, h1 g h3, sl_sameJ h4 (fun ad had => by injection had with had; subst had; exact h2 g h3)⟩
theorem getN_two (l : List UInt8) (h : l.length ≤ 2) : getN l < 65536 := by
  rcases l with _ | ⟨a, _ | ⟨b, _ | ⟨c, l⟩⟩⟩
  · simp [getN]
  · have := a.toNat_lt; simp [getN]; omega
  · have := a.toNat_lt; have := b.toNat_lt; simp [getN]; omega
  · simp at h
def fullJ (D : Dk) (nx : Nat) : Nat → List UInt8
  | 0 => []
  | k + 1 => fullJ D nx k ++ readB D (nx + k)
def lenJ (D : Dk) (J : Jn) : Nat := getN (((readB D (nextJ D J)).drop 13).take 2)
def entJ (D : Dk) (J : Jn) : List UInt8 := ((fullJ D (nextJ D J) (takesN (lenJ D J))).drop 19).take (lenJ D J)
def readN (D : Dk) (J : Jn) : Option (List UInt8) :=
  if sizeJ D - J.used = 0 then none
  else if lenJ D J = 0 ∨ 8192 < lenJ D J ∨ sizeJ D - J.used < takesN (lenJ D J) then none
  else if fullJ D (nextJ D J) (takesN (lenJ D J)) = frameJ J.gen J.all.length (entJ D J) then some (entJ D J) else none
theorem fullJ_len {base : Nat} {w : World} {D : Dk} {d : Nat} {I : Nat → Prop} (h : Dsk base w D d I) (nx k : Nat) (hk : nx + k ≤ D.stay.length) : (fullJ D nx k).length = 64 * k := by
  induction k with
  | zero => rfl
  | succ k ih =>
    unfold fullJ
    rw [List.length_append, ih (by omega), readB_len h (nx + k) (by omega)]
    omega
theorem nextJ_room {D : Dk} {J : Jn} (h4 : 2 ≤ D.stay.length) (hh : J.half < 2) (k : Nat) (hk : k ≤ sizeJ D - J.used) (hu : J.used ≤ sizeJ D) : nextJ D J + k ≤ D.stay.length := by
  unfold nextJ
  have : 2 * sizeJ D ≤ D.stay.length - 2 := by unfold sizeJ; omega
  rcases (by omega : J.half = 0 ∨ J.half = 1) with h | h <;> rw [h] <;> omega
set_option maxRecDepth 100000 in
set_option maxHeartbeats 6400000 in
theorem readj_any (base : Nat) (w : World) (D : Dk) (J : Jn) (j d : Nat) (I K : Nat → Prop) (h : Jd base w D J j d I K) (h2 : 2 ≤ D.stay.length) (h3 : D.stay.length ≤ 1024) (ho : D.off = false) (hO : JOk J) (hu : J.used ≤ sizeJ D) :
    Calls Try.prog 121 #[.pointer (some ⟨j, 0, none⟩)] w fun e w' => ∃ v, e = .returned (.tuple #[v, .int .i64 0]) ∧ Below w.heap.size w w' ∧ ((readN D J = none ∧ v = .slice none 0 0) ∨ ∃ l g c, readN D J = some l ∧ v = .slice (some ⟨g, 0, none⟩) l.length c ∧ 1 ≤ l.length ∧ l.length ≤ 8192 ∧ w'.ownsRow w.heap.size 5 1 (.slice (some ⟨g, 0, none⟩) l.length c) l.length (B8 l) ∧ w.heap.size ≤ g ∧ g < w'.heap.size) := by
  obtain ⟨Aa, ca, hjl, _, _, q0, q1, q2, q3, q4, q5⟩ := h.jn.cells
  have z4 := fun (z : WK (fun _ => False) w) => (wat_cell (p := ⟨j, 4, none⟩) hjl (fun e => e) z).trans q4
  clear q1 q2 q3 q4 q5
  have hsz := sizeJ_le h3
  have hhalf := hO.half
  go_enter Try.func121, Try.ntmps121
  go_wp2_with fail
  refine wp_region_loud (fun _ => False) [(1, plainL [] (.int .i64 (sizeJ D)))] (fun _ => Fact.none) (by kernel_rfl) (by kernel_rfl) (.cons (plainL_ok _ _) .nil) good_nothing sat_none (WX.out ?_)
  repeat (first | (refine wx_quietU (by rfl) (by rfl) (by rfl) (fun K hK => ?_); go_big_quiet_op; refine hK _ ?_; clear hK K) | (refine wx_quietG (by rfl) (by rfl) (by rfl) (by rfl) (by rfl) (fun K hK => ?_); go_big_quiet_op; refine hK _ ?_; clear hK K) | (refine wx_skipG (by rfl) (by rfl) (by rfl) (fun K hK => ?_); go_simp; refine hK _ ?_; clear hK K) | (refine wx_skipN (by rfl) (by rfl) (by rfl) (fun K hK => ?_); go_simp; refine hK _ ?_; clear hK K))
  refine wx_loudU (us := []) (by rfl) (by rfl) (fun S wS hC hS hU => runs_enter (f := 122) (by go_simp <;> rfl) ?_) (fun v hv K hK => ?_)
  · refine (size_any' base wS D J j d I K (h.dk.below hC.below) (h.jn.below hC.below) h2 h3).mono ?_
    rintro e w9 ⟨rfl, rfl⟩
    exact ⟨_, rfl, rfl, Kept.refl _ _, trivial⟩
  obtain rfl := hv; (go_simp; refine hK _ ?_; clear hK K)
  have ex : (sizeJ D : Int) - (J.used : Int) = ((sizeJ D - J.used : Nat) : Int) := by omega
  repeat (first | (refine wx_quietU (by rfl) (by rfl) (by rfl) (fun K hK => ?_); go_big_quiet_op; refine hK _ ?_; clear hK K) | (refine wx_quietG (by rfl) (by rfl) (by rfl) (by rfl) (by rfl) (fun K hK => ?_); go_big_quiet_op; refine hK _ ?_; clear hK K) | (refine wx_skipG (by rfl) (by rfl) (by rfl) (fun K hK => ?_); go_simp; refine hK _ ?_; clear hK K) | (refine wx_skipN (by rfl) (by rfl) (by rfl) (fun K hK => ?_); go_simp; refine hK _ ?_; clear hK K))
  refine wx_nil fun w1 hsat => ?_
  have hb1 := sat_below hsat
  have h1 := h.below hb1
  have q01 := (hb1.cell (p := ⟨j, 0, none⟩) hjl).trans q0
  have hjl1 := Nat.lt_of_lt_of_le hjl hb1.size
  clear hsat z4 q0
  obtain ⟨lf, hlf⟩ : ∃ lf, sizeJ D - J.used = lf := ⟨_, rfl⟩
  rw [hlf]
  clear ex
  by_cases h0 : lf = 0
  · have HN : Hid (readN D J = none) := hid (by unfold readN; rw [hlf, if_pos h0])
    subst h0
    go_wp2_with fail
    refine bodyPost_ret (v := .tuple #[.slice none 0 0, .int .i64 0]) (by simp [results, Try.results121, go_sem]) rfl ⟨_, rfl, hb1, Or.inl ⟨HN.out, rfl⟩⟩
  · have qz : ((lf : Int) == 0) = false := by simpa using h0
    have hroom := nextJ_room (J := J) h2 hhalf lf (by omega) hu
    have z0 := fun (z : WK (fun _ => False) w1) => (wat_cell (p := ⟨j, 0, none⟩) hjl1 (fun e => e) z).trans q01
    go_wp2_with fail
    refine wp_region_loud (fun _ => False) [(5, plainL [] (.int .i64 (nextJ D J))), (6, factL [] IsRd (RdkF (readB D (nextJ D J))))] (fun _ => Fact.none) (by kernel_rfl) (by kernel_rfl) (.cons (plainL_ok _ _) (.cons (factL_ok isRd_any (good_rdk _)) .nil)) good_nothing sat_none (WX.out ?_)
    repeat (first | (refine wx_quietU (by rfl) (by rfl) (by rfl) (fun K hK => ?_); go_big_quiet_op; refine hK _ ?_; clear hK K) | (refine wx_quietG (by rfl) (by rfl) (by rfl) (by rfl) (by rfl) (fun K hK => ?_); go_big_quiet_op; refine hK _ ?_; clear hK K) | (refine wx_skipG (by rfl) (by rfl) (by rfl) (fun K hK => ?_); go_simp; refine hK _ ?_; clear hK K) | (refine wx_skipN (by rfl) (by rfl) (by rfl) (fun K hK => ?_); go_simp; refine hK _ ?_; clear hK K))
    refine wx_loudU (us := []) (by rfl) (by rfl) (fun S wS hC hS hU => runs_enter (f := 117) (by go_simp <;> rfl) ?_) (fun v hv K hK => ?_)
    · refine (next_any base wS D J j d I K (h1.dk.below hC.below) (h1.jn.below hC.below) h2 h3 hhalf (by omega)).mono ?_
      rintro e w9 ⟨rfl, hb9⟩
      exact ⟨_, rfl, rfl, Kept.of_below hb9, trivial⟩
    obtain rfl := hv; (go_simp; refine hK _ ?_; clear hK K)
    repeat (first | (refine wx_quietU (by rfl) (by rfl) (by rfl) (fun K hK => ?_); go_big_quiet_op; refine hK _ ?_; clear hK K) | (refine wx_quietG (by rfl) (by rfl) (by rfl) (by rfl) (by rfl) (fun K hK => ?_); go_big_quiet_op; refine hK _ ?_; clear hK K) | (refine wx_skipG (by rfl) (by rfl) (by rfl) (fun K hK => ?_); go_simp; refine hK _ ?_; clear hK K) | (refine wx_skipN (by rfl) (by rfl) (by rfl) (fun K hK => ?_); go_simp; refine hK _ ?_; clear hK K))
    refine wx_loudU (us := []) (by rfl) (by rfl) (fun S wS hC hS hU => runs_enter (f := 15) (by go_simp <;> rfl) ?_) (fun v hv K hK => ?_)
    · refine (dsk_read_on base wS D d I (nextJ D J) (h1.dk.below hC.below) ho (by omega)).mono ?_
      rintro e w9 ⟨g, rfl, hg1, hg2, hsl, hb9⟩
      exact ⟨_, rfl, ⟨g, rfl⟩, Kept.of_below hb9, g, rfl, .inr ⟨hg1, hg2⟩, hsl⟩
    obtain ⟨g, rfl⟩ := hv; (go_simp; refine hK _ ?_; clear hK K)
    repeat (first | (refine wx_quietU (by rfl) (by rfl) (by rfl) (fun K hK => ?_); go_big_quiet_op; refine hK _ ?_; clear hK K) | (refine wx_quietG (by rfl) (by rfl) (by rfl) (by rfl) (by rfl) (fun K hK => ?_); go_big_quiet_op; refine hK _ ?_; clear hK K) | (refine wx_skipG (by rfl) (by rfl) (by rfl) (fun K hK => ?_); go_simp; refine hK _ ?_; clear hK K) | (refine wx_skipN (by rfl) (by rfl) (by rfl) (fun K hK => ?_); go_simp; refine hK _ ?_; clear hK K))
    refine wx_nil fun w2 hsat => ?_
    obtain ⟨S, hS, hfin⟩ := sat_get hsat 6
    obtain ⟨g', eg, hSg, hrd⟩ := hfin
    obtain rfl : g = g' := by simpa using eg
    have hb12 := sat_below hsat
    have hb2 := hb1.trans (hb12.mono hb1.size)
    have hgf : w.heap.size ≤ g := by have := hb1.size; have := (hS g hSg).1.elim False.elim id; omega
    have hj2 := h1.below hb12
    have hlen1 := readB_len h1.dk (nextJ D J) (by omega)
    have hmid := sl_mid hrd 13 15 (by omega) (by omega) (by omega)
    have hgn : getN (((readB D (nextJ D J)).drop 13).take (15 - 13)) = lenJ D J := rfl
    have hn16 : lenJ D J < 65536 := by rw [← hgn]; exact getN_two _ (by simp; omega)
    have HRN : Hid (readN D J = if lenJ D J = 0 ∨ 8192 < lenJ D J ∨ lf < takesN (lenJ D J) then none else if fullJ D (nextJ D J) (takesN (lenJ D J)) = frameJ J.gen J.all.length (entJ D J) then some (entJ D J) else none) := hid (by unfold readN; rw [hlf, if_neg h0])
    have hf1 : fullJ D (nextJ D J) 1 = readB D (nextJ D J) := by simp [fullJ]
    rw [← hf1] at hrd
    have HEJ : Hid (entJ D J = ((fullJ D (nextJ D J) (takesN (lenJ D J))).drop 19).take (lenJ D J)) := hid rfl
    clear hsat hS hSg eg h1 q01 z0 hb12 hf1 hlen1
    go_wp2_with fail
    refine (get_any _ 2 (64 - 13) _ w2 hmid).mono ?_
    rintro e w3 ⟨rfl, rfl⟩
    rw [hgn]
    generalize lenJ D J = n at *
    clear hgn hmid
    by_cases c0 : n = 0
    · have HN : Hid (readN D J = none) := hid (by rw [HRN.out, if_pos (.inl c0)])
      subst c0
      clear HRN
      go_wp2_with fail
      refine bodyPost_ret (v := .tuple #[.slice none 0 0, .int .i64 0]) (by simp [results, Try.results121, go_sem]) rfl ⟨_, rfl, hb2, Or.inl ⟨HN.out, rfl⟩⟩
    · have qn0 : ((n : Int) == 0) = false := by simpa using c0
      by_cases c1 : 8192 < n
      · have HN : Hid (readN D J = none) := hid (by rw [HRN.out, if_pos (.inr (.inl c1))])
        clear HRN
        go_wp2_with fail
        refine bodyPost_ret (v := .tuple #[.slice none 0 0, .int .i64 0]) (by simp [results, Try.results121, go_sem]) rfl ⟨_, rfl, hb2, Or.inl ⟨HN.out, rfl⟩⟩
      · have htk : 1 ≤ takesN n ∧ takesN n ≤ 130 ∧ n + 19 ≤ takesN n * 64 := by unfold takesN; omega
        by_cases c2 : lf < takesN n
        · have HN : Hid (readN D J = none) := hid (by rw [HRN.out, if_pos (.inr (.inr c2))])
          clear HRN
          go_wp2_with fail
          refine (takes_any n (by omega) w3).mono ?_
          rintro e w4 ⟨rfl, rfl⟩
          go_wp2_with fail
          refine bodyPost_ret (v := .tuple #[.slice none 0 0, .int .i64 0]) (by simp [results, Try.results121, go_sem]) rfl ⟨_, rfl, hb2, Or.inl ⟨HN.out, rfl⟩⟩
        · have HRM : Hid (readN D J = if fullJ D (nextJ D J) (takesN n) = frameJ J.gen J.all.length (entJ D J) then some (entJ D J) else none) := hid (by rw [HRN.out, if_neg (by omega)])
          clear HRN
          go_wp2_with fail
          refine (takes_any n (by omega) w3).mono ?_
          rintro e w4 ⟨rfl, rfl⟩
          have hbs4 := hb2.size
          go_wp2_with fail
          go_loopw [5, 8] (fun v i wr => ∃ (k g : Nat) (c : Nat), 1 ≤ k ∧ k ≤ takesN n ∧ i = .int .i64 k ∧ v = .slice (some ⟨g, 0, none⟩) (64 * k) c ∧ ((c < 64 * k + 64 ∧ Sl wr 1 (.slice (some ⟨g, 0, none⟩) (64 * k) c) (B8 (fullJ D (nextJ D J) k))) ∨ wr.ownsRow w.heap.size 5 1 (.slice (some ⟨g, 0, none⟩) (64 * k) c) (64 * k) (B8 (fullJ D (nextJ D J) k))) ∧ Below w.heap.size w wr) (fun _ i _ => takesN n - (intOf i).toNat)
          case atStart => exact ⟨1, g, 64, by omega, by omega, rfl, rfl, .inl ⟨by omega, hrd⟩, hb2⟩
          case round =>
            clear hrd
            obtain ⟨k, g1, c1', hk1, hk2, rfl, rfl, hrow, hbr⟩ := hrel
            have hrs : Sl wr 1 (.slice (some ⟨g1, 0, none⟩) (64 * k) c1') (B8 (fullJ D (nextJ D J) k)) := by
              rcases hrow with e | e
              · exact e.2
              · exact own_sl e
            by_cases hkt : k < takesN n
            · have hjr := h.below hbr
              obtain ⟨_, _, hjlr, _, _, qr, _⟩ := hjr.jn.cells
              have zr := fun (z : WK (fun _ => False) wr) => (wat_cell (p := ⟨j, 0, none⟩) hjlr (fun e => e) z).trans qr
              have hrsz := hbr.size
              have HFJ : Hid (fullJ D (nextJ D J) (k + 1) = fullJ D (nextJ D J) k ++ readB D (nextJ D J + k)) := hid rfl
              obtain ⟨ix, hix⟩ : ∃ ix : Nat, nextJ D J + k = ix := ⟨_, rfl⟩
              have eix : (nextJ D J : Int) + (k : Int) = (ix : Int) := by omega
              rw [hix] at HFJ
              have hrl := readB_len hjr.dk ix (by omega)
              clear qr hj2 hb1 hb2
              go_wp2_with fail
              refine (takes_any n (by omega) wr).mono ?_
              rintro e w5 ⟨rfl, rfl⟩
              go_wp2_with fail
              refine wp_region_loud (fun _ => False) [(5, plainL [] (.int .i64 (nextJ D J))), (8, factL [] IsRd (RdkF (readB D ix)))] (fun _ => Fact.none) (by kernel_rfl) (by kernel_rfl) (.cons (plainL_ok _ _) (.cons (factL_ok isRd_any (good_rdk _)) .nil)) good_nothing sat_none (WX.out ?_)
              repeat (first | (refine wx_quietU (by rfl) (by rfl) (by rfl) (fun K hK => ?_); go_big_quiet_op; refine hK _ ?_; clear hK K) | (refine wx_quietG (by rfl) (by rfl) (by rfl) (by rfl) (by rfl) (fun K hK => ?_); go_big_quiet_op; refine hK _ ?_; clear hK K) | (refine wx_skipG (by rfl) (by rfl) (by rfl) (fun K hK => ?_); go_simp; refine hK _ ?_; clear hK K) | (refine wx_skipN (by rfl) (by rfl) (by rfl) (fun K hK => ?_); go_simp; refine hK _ ?_; clear hK K))
              refine wx_loudU (us := []) (by rfl) (by rfl) (fun S wS hC hS hU => runs_enter (f := 117) (by go_simp <;> rfl) ?_) (fun v hv K hK => ?_)
              · refine (next_any base wS D J j d I K (hjr.dk.below hC.below) (hjr.jn.below hC.below) h2 h3 hhalf (by omega)).mono ?_
                rintro e w9 ⟨rfl, hb9⟩
                exact ⟨_, rfl, rfl, Kept.of_below hb9, trivial⟩
              obtain rfl := hv; (go_simp; refine hK _ ?_; clear hK K)
              repeat (first | (refine wx_quietU (by rfl) (by rfl) (by rfl) (fun K hK => ?_); go_big_quiet_op; refine hK _ ?_; clear hK K) | (refine wx_quietG (by rfl) (by rfl) (by rfl) (by rfl) (by rfl) (fun K hK => ?_); go_big_quiet_op; refine hK _ ?_; clear hK K) | (refine wx_skipG (by rfl) (by rfl) (by rfl) (fun K hK => ?_); go_simp; refine hK _ ?_; clear hK K) | (refine wx_skipN (by rfl) (by rfl) (by rfl) (fun K hK => ?_); go_simp; refine hK _ ?_; clear hK K))
              refine wx_loudU (us := []) (by rfl) (by rfl) (fun S wS hC hS hU => runs_enter (f := 15) (by go_simp <;> rfl) ?_) (fun v hv K hK => ?_)
              · refine (dsk_read_on base wS D d I ix (hjr.dk.below hC.below) ho (by omega)).mono ?_
                rintro e w9 ⟨g, rfl, hg1, hg2, hsl, hb9⟩
                exact ⟨_, rfl, ⟨g, rfl⟩, Kept.of_below hb9, g, rfl, .inr ⟨hg1, hg2⟩, hsl⟩
              obtain ⟨g6, rfl⟩ := hv; (go_simp; refine hK _ ?_; clear hK K)
              repeat (first | (refine wx_quietU (by rfl) (by rfl) (by rfl) (fun K hK => ?_); go_big_quiet_op; refine hK _ ?_; clear hK K) | (refine wx_quietG (by rfl) (by rfl) (by rfl) (by rfl) (by rfl) (fun K hK => ?_); go_big_quiet_op; refine hK _ ?_; clear hK K) | (refine wx_skipG (by rfl) (by rfl) (by rfl) (fun K hK => ?_); go_simp; refine hK _ ?_; clear hK K) | (refine wx_skipN (by rfl) (by rfl) (by rfl) (fun K hK => ?_); go_simp; refine hK _ ?_; clear hK K))
              refine wx_nil fun w6 hsat => ?_
              obtain ⟨S, hS, hfin⟩ := sat_get hsat 8
              obtain ⟨g', eg, hSg, hrd⟩ := hfin
              obtain rfl : g6 = g' := by simpa using eg
              have hb6 := sat_below hsat
              have hbr6 := hbr.trans (hb6.mono hrsz)
              have hrow6 : (c1' < 64 * k + 64 ∧ Sl w6 1 (.slice (some ⟨g1, 0, none⟩) (64 * k) c1') (B8 (fullJ D (nextJ D J) k))) ∨ w6.ownsRow w.heap.size 5 1 (.slice (some ⟨g1, 0, none⟩) (64 * k) c1') (64 * k) (B8 (fullJ D (nextJ D J) k)) := by
                rcases hrow with e | e
                · exact .inl ⟨e.1, e.2.below hb6⟩
                · exact .inr (own_below e hb6)
              have hsz6 := hbr6.size
              clear hsat hS hSg eg zr hrow hrs hbr hb6 hjr
              go_wp2_with (at_builtin; refine wpList_app_rb rfl (.tmp 71) (.tmp 72) st_bytes rfl w.heap.size rfl hrow6 (B8_one _) rfl hrd (B8_one _) (by omega) (by omega) hsz6 ?_)
              intro A7 c7 w7 hown7 hb7
              have hbr7 := hbr6.trans hb7
              rw [← B8_append, ← HFJ.out, show 64 * k + 64 = 64 * (k + 1) by omega] at hown7
              rw [show 64 * k + 64 = 64 * (k + 1) by omega]
              obtain ⟨g7, rfl, hg7, hg7'⟩ := own_some hown7 (by omega)
              clear hrow6 hrd hbr6 hb7 HFJ
              go_wp2_with fail
              go_light
              exact ⟨⟨k + 1, g7, c7, by omega, by omega, by go_num, rfl, .inr hown7, hbr7⟩, by simp [intOf]; omega⟩
            · obtain rfl : k = takesN n := by omega
              have hmid := sl_mid hrs 19 (19 + n) (by omega) (by omega) (by omega)
              rw [show 19 + n - 19 = n by omega, ← HEJ.out] at hmid
              have hrl := hrs.len.1
              have hjr := h.below hbr
              have hgen := hO.gen
              have hfew := hO.few
              have hcap := hrs.len.2
              clear hrow h hj2 hb1 hb2 HEJ
              go_wp2_with fail
              refine (takes_any n (by omega) wr).mono ?_
              rintro e w5 ⟨rfl, rfl⟩
              go_wp2_with fail
              refine (clone_any g1 (0 + 19) n (c1' - 19) (entJ D J) w5 hmid (by omega)).mono ?_
              rintro e w6 ⟨A6, c6, rfl, hown6, hb6⟩
              obtain ⟨g6, rfl, hg6, hg6'⟩ := own_some hown6 (by omega)
              have hs6 := own_sl hown6
              have hl6 := hs6.len.1
              have hr6 := hrs.below hb6
              have hj6 := hjr.below hb6
              have hbr6 := hbr.trans (hb6.mono hbr.size)
              have hbrs := hbr.size
              clear hmid hrs hjr hbr hb6
              go_wp2_with fail
              refine (frame_any base w6 J j d K hj6.jn (by omega) (by omega) _ n c6 (entJ D J) hs6 (by omega)).mono ?_
              rintro e w7 ⟨A7, c7, rfl, hown7, hb7⟩
              have hr7 := hr6.below hb7
              have hbr7 := hbr6.trans (hb7.mono hbr6.size)
              have hown6' := own_below hown6 hb7
              have hf7 := own_sl hown7
              have hsz7 := hb7.size
              clear hown7 hr6 hbr6 hj6 hs6 hown6
              go_wp2_with fail
              refine (bytesEqual_any _ _ _ _ _ _ (fullJ D (nextJ D J) (takesN n)) (frameJ J.gen J.all.length (entJ D J)) w7 hr7 hf7).mono ?_
              rintro e w8 ⟨rfl, rfl⟩
              have hown9 := own_base hown6' hbrs
              by_cases c5 : fullJ D (nextJ D J) (takesN n) = frameJ J.gen J.all.length (entJ D J)
              · rw [beq_iff_eq.2 c5]
                have HN := hid (HRM.out.trans (if_pos c5))
                clear hr7 hf7 HRM c5 hown6'
                go_wp2_with fail
                refine bodyPost_ret (v := .tuple #[.slice (some ⟨g6, 0, none⟩) n c6, .int .i64 0]) (by simp [results, Try.results121, go_sem]) rfl ⟨_, rfl, hbr7, Or.inr ⟨entJ D J, g6, c6, HN.out, by rw [hl6], by omega, by omega, by rw [hl6]; exact hown9, by omega, by omega⟩⟩
              · rw [beq_eq_false_iff_ne.2 c5]
                have HN : Hid (readN D J = none) := hid (HRM.out.trans (if_neg c5))
                clear hr7 hf7 HRM c5 hown6'
                go_wp2_with fail
                refine bodyPost_ret (v := .tuple #[.slice none 0 0, .int .i64 0]) (by simp [results, Try.results121, go_sem]) rfl ⟨_, rfl, hbr7, Or.inl ⟨HN.out, rfl⟩⟩
end Go.Proofs.Ytfhlidlmipleaaa
namespace Go.Proofs.Ytfhlidlmipleaaa
set_option linter.unusedVariables false
set_option linter.unusedSimpArgs false
open Go Go.RowKit LM

def openL (D : Dk) : Nat → Jn → Jn
  | 0, J => J
  | f + 1, J => match readN D J with
    | none => J
    | some l => openL D f (addJ J l)
def startJ (D : Dk) : Jn := ⟨(curN D 2).1, (curN D 2).2, [], 0, false⟩
def openJ (D : Dk) : Jn := openL D (sizeJ D + 1) (startJ D)
theorem readN_room {D : Dk} {J : Jn} {l : List UInt8} (h : readN D J = some l) : l = entJ D J ∧ takesN (lenJ D J) ≤ sizeJ D - J.used ∧ l.length ≤ lenJ D J := by
  unfold readN at h
  split at h
  · cases h
  · split at h
    · cases h
    · split at h
      · injection h with h
        exact ⟨h.symm, by omega, by rw [← h]; unfold entJ; rw [List.length_take]; omega⟩
      · cases h
theorem takesN_mono {a b : Nat} (h : a ≤ b) : takesN a ≤ takesN b := by unfold takesN; omega
/-- after an entry was read and noted -/
theorem JOk.read {D : Dk} {J : Jn} {l : List UInt8} (h : JOk J) (hu : J.used ≤ sizeJ D) (hc : J.all.length ≤ J.used) (hs : sizeJ D ≤ 511) (hr : readN D J = some l) (h1 : 1 ≤ l.length) (h8 : l.length ≤ 8192) : JOk (addJ J l) ∧ (addJ J l).used ≤ sizeJ D ∧ (addJ J l).all.length ≤ (addJ J l).used ∧ J.used < (addJ J l).used := by
  obtain ⟨_, h3, h4⟩ := readN_room hr
  have h5 := takesN_mono h4
  have h6 : 1 ≤ takesN l.length := by unfold takesN; omega
  have e1 : (addJ J l).used = J.used + takesN l.length := rfl
  have e2 : (addJ J l).all = J.all ++ [l] := rfl
  refine ⟨⟨h.half, h.gen, by rw [e1]; omega, by rw [e2, List.length_append]; simp; omega, fun x hx => ?_⟩, by rw [e1]; omega, by rw [e1, e2, List.length_append]; simp; omega, by rw [e1]; omega⟩
  rw [e2] at hx
  rcases List.mem_append.1 hx with hx | hx
  · exact h.ent x hx
  · simp at hx; subst hx; exact ⟨h1, h8⟩
set_option maxRecDepth 100000 in
set_option maxHeartbeats 1600000 in
theorem open_nil (w : World) : Calls Try.prog 64 #[.pointer none] w fun e w' => e = .returned (.tuple #[.pointer none, .int .i64 1]) ∧ w' = w := by
  go_enter Try.func64, Try.ntmps64
  go_wp2_with fail
  refine (able_nil w).mono ?_
  rintro e w1 ⟨rfl, rfl⟩
  go_wp2_with fail
  refine bodyPost_ret (v := .tuple #[.pointer none, .int .i64 1]) (by simp [results, Try.results64, go_sem]) rfl ⟨rfl, rfl⟩
set_option maxRecDepth 100000 in
set_option maxHeartbeats 1600000 in
theorem open_small (base : Nat) (w : World) (D : Dk) (d : Nat) (I : Nat → Prop) (h : Dsk base w D d I) (hl : D.stay.length < 4) : Calls Try.prog 64 #[.pointer (some ⟨d, 0, none⟩)] w fun e w' => e = .returned (.tuple #[.pointer none, .int .i64 1]) ∧ w' = w := by
  have hd : decide (4 ≤ (D.stay.length : Int)) = false := decide_eq_false (by omega)
  go_enter Try.func64, Try.ntmps64
  go_wp2_with fail
  refine (able_any base w D d I h).mono ?_
  rintro e w1 ⟨rfl, rfl⟩
  rw [hd]
  clear hd
  go_wp2_with fail
  refine bodyPost_ret (v := .tuple #[.pointer none, .int .i64 1]) (by simp [results, Try.results64, go_sem]) rfl ⟨rfl, rfl⟩
set_option maxRecDepth 100000 in
set_option maxHeartbeats 1600000 in
theorem open_off (base : Nat) (w : World) (D : Dk) (d : Nat) (I : Nat → Prop) (h : Dsk base w D d I) (hl : 4 ≤ D.stay.length) (ho : D.off = true) : Calls Try.prog 64 #[.pointer (some ⟨d, 0, none⟩)] w fun e w' => e = .returned (.tuple #[.pointer none, .int .i64 2]) ∧ Below w.heap.size w w' := by
  have hd : decide (4 ≤ (D.stay.length : Int)) = true := decide_eq_true (by omega)
  have e3 : curE D = 2 := by unfold curE; rw [if_pos ho]
  go_enter Try.func64, Try.ntmps64
  go_wp2_with fail
  refine (able_any base w D d I h).mono ?_
  rintro e w1 ⟨rfl, rfl⟩
  rw [hd]
  clear hd
  go_wp2_with fail
  refine (current_any base w1 D d I h (by omega)).mono ?_
  rintro e w2 ⟨rfl, hb2⟩
  rw [e3]
  clear e3
  go_wp2_with fail
  refine bodyPost_ret (v := .tuple #[.pointer none, .int .i64 2]) (by simp [results, Try.results64, go_sem]) rfl ⟨rfl, hb2⟩
set_option maxRecDepth 100000 in
set_option maxHeartbeats 1600000 in
theorem open_form (base : Nat) (w : World) (D : Dk) (d : Nat) (I : Nat → Prop) (h : Dsk base w D d I) (hl : 4 ≤ D.stay.length) (ho : D.off = false) (h0 : (curN D 2).1 = 0) : Calls Try.prog 64 #[.pointer (some ⟨d, 0, none⟩)] w fun e w' => e = .returned (.tuple #[.pointer none, .int .i64 3]) ∧ Below w.heap.size w w' := by
  have hd : decide (4 ≤ (D.stay.length : Int)) = true := decide_eq_true (by omega)
  have hn : ¬ D.off = true := by rw [ho]; exact Bool.false_ne_true
  have e3 : curE D = 0 := by unfold curE; rw [if_neg hn]
  have e1 : curG D = 0 := by unfold curG; rw [if_neg hn, h0]
  go_enter Try.func64, Try.ntmps64
  go_wp2_with fail
  refine (able_any base w D d I h).mono ?_
  rintro e w1 ⟨rfl, rfl⟩
  rw [hd]
  clear hd
  go_wp2_with fail
  refine (current_any base w1 D d I h (by omega)).mono ?_
  rintro e w2 ⟨rfl, hb2⟩
  rw [e3, e1]
  clear e3 e1
  go_wp2_with fail
  refine bodyPost_ret (v := .tuple #[.pointer none, .int .i64 3]) (by simp [results, Try.results64, go_sem]) rfl ⟨rfl, hb2⟩
set_option maxRecDepth 100000 in
set_option maxHeartbeats 3200000 in
theorem open_any (base : Nat) (w : World) (D : Dk) (d : Nat) (I : Nat → Prop) (h : Dsk base w D d I) (hbase : base ≤ w.heap.size) (hl : 4 ≤ D.stay.length ∧ D.stay.length ≤ 1000) (ho : D.off = false) (h0 : (curN D 2).1 ≠ 0) (hg9 : (curN D 2).1 < 9223372036854775807) : Calls Try.prog 64 #[.pointer (some ⟨d, 0, none⟩)] w fun e w' => ∃ j K, e = .returned (.tuple #[.pointer (some ⟨j, 0, none⟩), .int .i64 0]) ∧ Jd base w' D (openJ D) j d I K ∧ (∀ b, K b → w.heap.size ≤ b) ∧ JOk (openJ D) ∧ (openJ D).used ≤ sizeJ D ∧ Below w.heap.size w w' := by
  have hd : decide (4 ≤ (D.stay.length : Int)) = true := decide_eq_true (by omega)
  have hn : ¬ D.off = true := by rw [ho]; exact Bool.false_ne_true
  have e3 : curE D = 0 := by unfold curE; rw [if_neg hn]
  have e1 : curG D = (curN D 2).1 := by unfold curG; rw [if_neg hn]
  have e2 : curH D = (curN D 2).2 := by unfold curH; rw [if_neg hn]
  have hlt := curN_lt D 2
  have hsz : sizeJ D ≤ 511 := sizeJ_le (by omega)
  have HO : Hid (openJ D = openL D (sizeJ D + 1) ⟨(curN D 2).1, (curN D 2).2, [], 0, false⟩) := hid rfl
  have q0 : ((((curN D 2).1 : Nat) : Int) == 0) = false := by simpa using h0
  go_enter Try.func64, Try.ntmps64
  go_wp2_with fail
  refine (able_any base w D d I h).mono ?_
  rintro e w1 ⟨rfl, rfl⟩
  rw [hd]
  clear hd
  go_wp2_with fail
  refine (current_any base w1 D d I h (by omega)).mono ?_
  rintro e w2 ⟨rfl, hb2⟩
  rw [e3, e1, e2]
  clear e3 e1 e2
  generalize (curN D 2).1 = gen at *
  generalize (curN D 2).2 = half at *
  have h2 := h.below hb2
  have hba := hb2.alloc hb2.size (.cells #[.pointer (some ⟨d, 0, none⟩), .int .u64 gen, .int .i64 half, .slice none 0 0, .int .i64 0, .bool false] 201)
  have hw2 := hb2.size
  have hjd : Jd base (w2.alloc (.cells #[.pointer (some ⟨d, 0, none⟩), .int .u64 gen, .int .i64 half, .slice none 0 0, .int .i64 0, .bool false] 201)) D ⟨gen, half, [], 0, false⟩ w2.heap.size d I (fun b => b = w2.heap.size) := by
    refine ⟨h2.below ((Below.refl _ _).alloc (Nat.le_refl _) _), ⟨none, 0, [], fun _ => False, ⟨heap_alloc_new w2 _, World.ownsRow_nil _ _ _ _, fun k hk => absurd hk (by simp), fun _ h => h.elim, by omega, by simp [Value.ownBlock], fun h => h, fun _ _ h => h⟩, fun b => by simp [Value.ownBlock]⟩, fun b hb e => by have := (h2.bd b hb).2; omega⟩
  have hO0 : JOk ⟨gen, half, [], 0, false⟩ := ⟨hlt.2, hg9, by simp, by simp, by simp⟩
  have hK0 : ∀ b, b = w2.heap.size → w1.heap.size ≤ b := fun b hb => by omega
  have q0n : ((gen : Int) != 0) = true := by simpa using h0
  go_wp2_with fail
  generalize w2.alloc (.cells #[.pointer (some ⟨d, 0, none⟩), .int .u64 gen, .int .i64 half, .slice none 0 0, .int .i64 0, .bool false] 201) = w3 at *
  generalize w2.heap.size = j at *
  refine (readj_any base w3 D _ j d I _ hjd (by omega) (by omega) ho hO0 (Nat.zero_le _)).mono ?_
  rintro e w4 ⟨v, rfl, hb4, hv⟩
  have hs3 := hba.size
  have hb14 := hba.trans (hb4.mono hs3)
  have hjd4 := hjd.below hb4
  have hinit : ∃ (f : Nat) (J : Jn) (K : Nat → Prop), sizeJ D - J.used < f ∧ openL D f J = openJ D ∧ Jd base w4 D J j d I K ∧ (∀ b, K b → w1.heap.size ≤ b) ∧ JOk J ∧ J.used ≤ sizeJ D ∧ J.all.length ≤ J.used ∧ Below w1.heap.size w1 w4 ∧
      ((readN D J = none ∧ v = .slice none 0 0) ∨ ∃ l g c, readN D J = some l ∧ v = .slice (some ⟨g, 0, none⟩) l.length c ∧ 1 ≤ l.length ∧ l.length ≤ 8192 ∧ Sl w4 1 (.slice (some ⟨g, 0, none⟩) l.length c) (B8 l) ∧ w1.heap.size ≤ g ∧ g < w4.heap.size ∧ ¬ (I g ∨ K g)) ∧ sizeJ D - J.used ≤ sizeJ D := by
    refine ⟨sizeJ D + 1, ⟨gen, half, [], 0, false⟩, _, by simp, HO.out.symm, hjd4, hK0, hO0, Nat.zero_le _, by simp, hb14, ?_, by simp⟩
    rcases hv with hv | ⟨l, g, c, e1, e2, e3, e4, e5, e6, e7⟩
    · exact .inl hv
    · refine .inr ⟨l, g, c, e1, e2, e3, e4, own_sl e5, by omega, e7, fun e => by have := (hjd.lt g e).2; omega⟩
  clear hv hjd4 hb4 hjd hO0 hK0 hb14 hba h2 h hb2 HO hw2 q0 h0
  go_wp2_with fail
  go_loopw [8, 6] (fun v e wr => e = .int .i64 0 ∧ ∃ (f : Nat) (J : Jn) (K : Nat → Prop), sizeJ D - J.used < f ∧ openL D f J = openJ D ∧ Jd base wr D J j d I K ∧ (∀ b, K b → w1.heap.size ≤ b) ∧ JOk J ∧ J.used ≤ sizeJ D ∧ J.all.length ≤ J.used ∧ Below w1.heap.size w1 wr ∧
      ((readN D J = none ∧ v = .slice none 0 0) ∨ ∃ l g c, readN D J = some l ∧ v = .slice (some ⟨g, 0, none⟩) l.length c ∧ 1 ≤ l.length ∧ l.length ≤ 8192 ∧ Sl wr 1 (.slice (some ⟨g, 0, none⟩) l.length c) (B8 l) ∧ w1.heap.size ≤ g ∧ g < wr.heap.size ∧ ¬ (I g ∨ K g)) ∧ sizeJ D - J.used ≤ sizeJ D)
    (fun v e wr => sizeJ D - (intOf ((wr.cell? ⟨j, 4, none⟩).getD undef)).toNat)
  case atStart => exact ⟨rfl, hinit⟩
  case round =>
    clear hinit
    obtain ⟨rfl, f, J, K, hf, hop, hjd, hK, hO, hu, hc, hbw, hv, _⟩ := hrel
    rcases hv with ⟨hN, rfl⟩ | ⟨l, g, c, hN, rfl, hl1, hl2, hs, hg1, hg2, hgn⟩
    · have hfin : openJ D = J := by
        rw [← hop]
        obtain ⟨f, rfl⟩ : ∃ f', f = f' + 1 := ⟨f - 1, by omega⟩
        unfold openL
        rw [hN]
      have HF := hid hfin
      clear hfin hop hN
      go_wp2_with fail
      refine bodyPost_ret (v := .tuple #[.pointer (some ⟨j, 0, none⟩), .int .i64 0]) (by simp [results, Try.results64, go_sem]) rfl ⟨j, K, rfl, by rw [HF.out]; exact hjd, hK, by rw [HF.out]; exact hO, by rw [HF.out]; exact hu, hbw⟩
    · have hop2 : ∃ f', sizeJ D - (addJ J l).used < f' ∧ openL D f' (addJ J l) = openJ D := by
        obtain ⟨f, rfl⟩ : ∃ f', f = f' + 1 := ⟨f - 1, by omega⟩
        unfold openL at hop
        rw [hN] at hop
        obtain ⟨_, _, _, h4⟩ := hO.read hu hc hsz hN hl1 hl2
        exact ⟨f, by omega, hop⟩
      obtain ⟨f2, hf2, hop2⟩ := hop2
      obtain ⟨hO2, hu2, hc2, hlt2⟩ := hO.read hu hc hsz hN hl1 hl2
      have hws := hbw.size
      have hbase1 : base ≤ wr.heap.size := by omega
      have hfew := hO.few
      have hus := hO.used
      have q4 : wr.cell? ⟨j, 4, none⟩ = some (.int .i64 J.used) := by
        obtain ⟨_, _, _, _, _, _, _, _, _, q4, _⟩ := hjd.jn.cells
        exact q4
      clear hop hN hf
      go_wp2_with fail
      refine (add_any base wr D J j d I K hjd hbase1 (by omega) (by omega) g 0 l.length c l hs (by omega) ⟨by omega, hg2⟩ hgn).mono ?_
      rintro e w6 ⟨rfl, K6, hjd6, hk6, hs6⟩
      have hb6 : Below w1.heap.size wr w6 := hk6.below_of hws hK
      have hbw6 := hbw.trans hb6
      have hK6 : ∀ b, K6 b → w1.heap.size ≤ b := fun b hb => by
        rcases hs6 b hb with e | e | e
        · exact hK b e
        · omega
        · omega
      clear hjd hs hk6 hb6 hs6 hgn
      go_wp2_with fail
      refine (readj_any base w6 D _ j d I K6 hjd6 (by omega) (by omega) ho hO2 hu2).mono ?_
      rintro e w7 ⟨v, rfl, hb7, hv⟩
      have hs6 := hbw6.size
      have hb17 := hbw6.trans (hb7.mono hs6)
      have hjd7 := hjd6.below hb7
      have q47 : w7.cell? ⟨j, 4, none⟩ = some (.int .i64 (addJ J l).used) := by
        obtain ⟨_, _, _, _, _, _, _, _, _, q4, _⟩ := hjd7.jn.cells
        exact q4
      have hfin : ((readN D (addJ J l) = none ∧ v = .slice none 0 0) ∨ ∃ l' g c, readN D (addJ J l) = some l' ∧ v = .slice (some ⟨g, 0, none⟩) l'.length c ∧ 1 ≤ l'.length ∧ l'.length ≤ 8192 ∧ Sl w7 1 (.slice (some ⟨g, 0, none⟩) l'.length c) (B8 l') ∧ w1.heap.size ≤ g ∧ g < w7.heap.size ∧ ¬ (I g ∨ K6 g)) := by
        rcases hv with hv | ⟨l', g', c', e1, e2, e3, e4, e5, e6, e7⟩
        · exact .inl hv
        · exact .inr ⟨l', g', c', e1, e2, e3, e4, own_sl e5, by omega, e7, fun e => by have := (hjd6.lt g' e).2; omega⟩
      clear hv hb7 hjd6 hbw6
      go_wp2_with fail
      go_light
      refine ⟨⟨rfl, f2, addJ J l, K6, hf2, hop2, hjd7, hK6, hO2, hu2, hc2, hb17, hfin, by omega⟩, ?_⟩
      rw [q4, q47]
      simp [intOf]
      omega
end Go.Proofs.Ytfhlidlmipleaaa
namespace Go.Proofs.Ytfhlidlmipleaaa
set_option linter.unusedVariables false
set_option linter.unusedSimpArgs false
open Go Go.RowKit LM

set_option maxRecDepth 100000 in
set_option maxHeartbeats 1600000 in
theorem begin_nil (w : World) : Calls Try.prog 60 #[.pointer none] w fun e w' => e = .returned (.tuple #[.pointer none, .int .i64 1]) ∧ w' = w := by
  go_enter Try.func60, Try.ntmps60
  go_wp2_with fail
  refine (able_nil w).mono ?_
  rintro e w1 ⟨rfl, rfl⟩
  go_wp2_with fail
  refine bodyPost_ret (v := .tuple #[.pointer none, .int .i64 1]) (by simp [results, Try.results60, go_sem]) rfl ⟨rfl, rfl⟩
set_option maxRecDepth 100000 in
set_option maxHeartbeats 1600000 in
theorem begin_small (base : Nat) (w : World) (D : Dk) (d : Nat) (I : Nat → Prop) (h : Dsk base w D d I) (hl : D.stay.length < 4) : Calls Try.prog 60 #[.pointer (some ⟨d, 0, none⟩)] w fun e w' => e = .returned (.tuple #[.pointer none, .int .i64 1]) ∧ w' = w := by
  have hd : decide (4 ≤ (D.stay.length : Int)) = false := decide_eq_false (by omega)
  go_enter Try.func60, Try.ntmps60
  go_wp2_with fail
  refine (able_any base w D d I h).mono ?_
  rintro e w1 ⟨rfl, rfl⟩
  rw [hd]
  clear hd
  go_wp2_with fail
  refine bodyPost_ret (v := .tuple #[.pointer none, .int .i64 1]) (by simp [results, Try.results60, go_sem]) rfl ⟨rfl, rfl⟩
/-- the disk behind Begin -/
def beginD (D : Dk) : Dk := sureD (wrD D (1 - (((curN D 2).1 + 1) % 2 : Nat)) zero64) (((curN D 2).1 + 1) % 2 : Nat) (slotJ ((curN D 2).1 + 1) 0)
set_option maxRecDepth 100000 in
set_option maxHeartbeats 3200000 in
theorem begin_any (base n : Nat) (w : World) (D : Dk) (d : Nat) (I : Nat → Prop) (h : Dsk base w D d I) (hF : FitJ D n) (hbase : base ≤ w.heap.size) (hl : 4 ≤ n ∧ n ≤ 1000) (ho : D.off = false) (hg9 : (curN D 2).1 < 9223372036854775806)
    (he1 : wrE D (1 - (((curN D 2).1 + 1) % 2 : Nat)) zero64 = 0) (he2 : sureE (wrD D (1 - (((curN D 2).1 + 1) % 2 : Nat)) zero64) (((curN D 2).1 + 1) % 2 : Nat) (slotJ ((curN D 2).1 + 1) 0) = 0) :
    Calls Try.prog 60 #[.pointer (some ⟨d, 0, none⟩)] w fun e w' => ∃ j I' K, e = .returned (.tuple #[.pointer (some ⟨j, 0, none⟩), .int .i64 0]) ∧ Jd base w' (beginD D) ⟨(curN D 2).1 + 1, 0, [], 0, false⟩ j d I' K ∧ (∀ b, K b → w.heap.size ≤ b) ∧ (∀ b, I' b → I b ∨ w.heap.size ≤ b) ∧ Kept I w w' := by
  have hln := hF.len
  have hd : decide (4 ≤ (D.stay.length : Int)) = true := decide_eq_true (by omega)
  have hn : ¬ D.off = true := by rw [ho]; exact Bool.false_ne_true
  have e3 : curE D = 0 := by unfold curE; rw [if_neg hn]
  have e1 : curG D = (curN D 2).1 := by unfold curG; rw [if_neg hn]
  have HB : Hid (sureD (wrD D (1 - (((curN D 2).1 + 1) % 2 : Nat)) zero64) (((curN D 2).1 + 1) % 2 : Nat) (slotJ ((curN D 2).1 + 1) 0) = beginD D) := hid rfl
  go_enter Try.func60, Try.ntmps60
  go_wp2_with fail
  refine (able_any base w D d I h).mono ?_
  rintro e w1 ⟨rfl, rfl⟩
  rw [hd]
  clear hd
  go_wp2_with fail
  refine (current_any base w1 D d I h (by omega)).mono ?_
  rintro e w2 ⟨rfl, hb2⟩
  rw [e3, e1]
  clear e3 e1
  obtain ⟨gen, hgen⟩ : ∃ gen, (curN D 2).1 = gen := ⟨_, rfl⟩
  rw [hgen] at HB he1 he2 hg9 ⊢
  have HG := hid hgen
  clear hgen
  generalize curH D = half at *
  have h2 := h.below hb2
  have hw2 := hb2.size
  obtain ⟨g1, hg1⟩ : ∃ g1, gen + 1 = g1 := ⟨_, rfl⟩
  have eg : (gen : Int) + 1 = (g1 : Int) := by omega
  obtain ⟨ow, how⟩ : ∃ ow, g1 % 2 = ow := ⟨_, rfl⟩
  have eo : (g1 : Int) % 2 = (ow : Int) := by omega
  have how2 : ow < 2 := by omega
  have hgl : g1 < 9223372036854775807 := by omega
  rw [hg1, how] at HB he1 he2
  have HG1 := hid hg1
  clear hg1 how
  have hjd : Jd base (w2.alloc (.cells #[.pointer (some ⟨d, 0, none⟩), .int .u64 (g1 : Int), .int .i64 0, .slice none 0 0, .int .i64 0, .bool false] 201)) D ⟨g1, 0, [], 0, false⟩ w2.heap.size d I (fun b => b = w2.heap.size) := by
    refine ⟨h2.below ((Below.refl _ _).alloc (Nat.le_refl _) _), ⟨none, 0, [], fun _ => False, ⟨heap_alloc_new w2 _, World.ownsRow_nil _ _ _ _, fun k hk => absurd hk (by simp), fun _ h => h.elim, by omega, by simp [Value.ownBlock], fun h => h, fun _ _ h => h⟩, fun b => by simp [Value.ownBlock]⟩, fun b hb e => by have := (h2.bd b hb).2; omega⟩
  have hba := hb2.alloc hb2.size (.cells #[.pointer (some ⟨d, 0, none⟩), .int .u64 (g1 : Int), .int .i64 0, .slice none 0 0, .int .i64 0, .bool false] 201)
  have hIlt : ∀ b, I b → b < w2.heap.size := fun b hb => (h2.bd b hb).2
  obtain ⟨w4, hm, hown4, hb4⟩ := mk64 (w2.alloc (.cells #[.pointer (some ⟨d, 0, none⟩), .int .u64 (g1 : Int), .int .i64 0, .slice none 0 0, .int .i64 0, .bool false] 201))
  have hs3 : w1.heap.size ≤ (w2.alloc (.cells #[.pointer (some ⟨d, 0, none⟩), .int .u64 (g1 : Int), .int .i64 0, .slice none 0 0, .int .i64 0, .bool false] 201)).heap.size := hba.size
  have hs2 : w2.heap.size < (w2.alloc (.cells #[.pointer (some ⟨d, 0, none⟩), .int .u64 (g1 : Int), .int .i64 0, .slice none 0 0, .int .i64 0, .bool false] 201)).heap.size := by simp
  have hs34 := hb4.size
  have hjd4 := hjd.below hb4
  have hb14 := hba.trans (hb4.mono hs3)
  have hfew := hF.few
  have hlz : (B8 zero64).length = 64 := by simp [B8_length, zero64]
  clear hjd hba h2 hb4
  have hsz : w2.heap.size + 1 = (w2.alloc (.cells #[.pointer (some ⟨d, 0, none⟩), .int .u64 (g1 : Int), .int .i64 0, .slice none 0 0, .int .i64 0, .bool false] 201)).heap.size := by simp
  generalize (w2.alloc (.cells #[.pointer (some ⟨d, 0, none⟩), .int .u64 (g1 : Int), .int .i64 0, .slice none 0 0, .int .i64 0, .bool false] 201)).heap.size = g at *
  go_wp2_with fail
  refine (dsk_write base w4 D d I _ g 0 64 64 zero64 hjd4.dk (by omega) (own_sl hown4) (.inl rfl) (by omega) (fun hx => by have := hIlt g hx; omega)).mono ?_
  rintro e w5 ⟨rfl, I5, hd5, ht5⟩
  have s5 := hjd4.turn hd5 ht5
  have hF5 := hF.write (1 - (ow : Int)) zero64
  have hi5 : ∀ b, I5 b → I b ∨ w1.heap.size ≤ b := fun b hb => by
    rcases ht5.2 b hb with e | e
    · exact .inl e
    · exact .inr (by omega)
  have hk5 : Kept I w1 w5 := (Kept.of_below hb14).step ht5.1 (fun b hb => .inl hb)
  rw [he1]
  clear hm he1 hd5 ht5 hjd4 hown4 hb14
  obtain ⟨_, _, hjl5, _, _, _, q1, _⟩ := s5.jd.jn.cells
  simp only at q1
  have hs5 := s5.size
  go_wp2_with fail
  refine (slot_any g1 0 w5 (by omega) (by omega)).mono ?_
  rintro e w6 ⟨A6, c6, rfl, hown6, hb6⟩
  obtain ⟨g6, rfl, hg6, hg6'⟩ := own_some hown6 (by omega)
  have s6 := s5.trans (Stp.ofBelow s5.jd hb6)
  have hk6 : Kept I w1 w6 := hk5.step (Kept.of_below (S := I) hb6) (fun b hb => .inl hb)
  have hg6I : ¬ I5 g6 := fun hx => by have := (s5.jd.dk.bd g6 hx).2; omega
  clear q1 hb6 s5 hk5
  go_wp2_with fail
  refine (sure_any base n w6 _ _ w2.heap.size d I5 _ s6.jd hF5 hl.2 (by have := s6.size; omega) (ow : Int) g6 0 c6 _ (own_sl hown6) hg6I).mono ?_
  rintro e w7 ⟨rfl, I7, s7⟩
  rw [he2] at s7 ⊢
  have hsz7 := s7.size
  have hsz6 := s6.size
  have hk7 : Kept I w1 w7 := hk6.step s7.kp (fun b hb => by
    rcases hb with e | e
    · exact hi5 b e
    · exact .inr (by omega))
  have hi7 : ∀ b, I7 b → I b ∨ w1.heap.size ≤ b := fun b hb => by
    rcases s7.sub b (.inl hb) with e | e
    · rcases e with e | e
      · exact hi5 b e
      · exact .inr (by omega)
    · exact .inr (by omega)
  have hjd7 : Jd base w7 (beginD D) ⟨g1, 0, [], 0, false⟩ w2.heap.size d I7 (fun b => b = w2.heap.size) := by
    rw [← HB.out]
    exact s7.jd
  have hK7 : ∀ b, b = w2.heap.size → w1.heap.size ≤ b := fun b hb => by omega
  clear s7 s6 hk6 HB hown6
  go_wp2_with fail
  refine bodyPost_ret (v := .tuple #[.pointer (some ⟨w2.heap.size, 0, none⟩), .int .i64 0]) (by simp [results, Try.results60, go_sem]) rfl ⟨w2.heap.size, I7, _, rfl, by rw [HG.out, HG1.out]; exact hjd7, hK7, hi7, hk7⟩
end Go.Proofs.Ytfhlidlmipleaaa
namespace Go.Proofs.Ytfhlidlmipleaaa
set_option linter.unusedVariables false
set_option linter.unusedSimpArgs false
open Go Go.RowKit LM

def sd0 : Dk := newD 8
def sd1 : Dk := beginD sd0
def sj1 : Jn := ⟨1, 0, [], 0, false⟩
def sone : List UInt8 := [111, 110, 101]
theorem st_cur0 : curN sd0 2 = (0, 0) := by kernel_rfl
theorem st_e1 : wrE sd0 (1 - ((0 + 1) % 2 : Nat)) zero64 = 0 := by kernel_rfl
theorem st_e2 : sureE (wrD sd0 (1 - ((0 + 1) % 2 : Nat)) zero64) ((0 + 1) % 2 : Nat) (slotJ (0 + 1) 0) = 0 := by kernel_rfl
theorem st_crc : crcOf [49, 50, 51, 52, 53, 54, 55, 56, 57] = 3421780262 := by kernel_rfl
theorem st_app : (appS sd1 sj1 sone).2.2 = 0 := by kernel_rfl
theorem st_appJ : (appS sd1 sj1 sone).2.1 = ⟨1, 0, [sone], 1, false⟩ := by kernel_rfl
def sd2 : Dk := (appS sd1 sj1 sone).1
theorem st_cur2 : curN sd2 2 = (1, 0) := by kernel_rfl
theorem st_off2 : sd2.off = false := by kernel_rfl
theorem st_open : openJ sd2 = ⟨1, 0, [sone], 1, false⟩ := by kernel_rfl
theorem st_size : sizeJ sd2 = 3 := by kernel_rfl
end Go.Proofs.Ytfhlidlmipleaaa
namespace Go.Proofs.Ytfhlidlmipleaaa
set_option linter.unusedVariables false
set_option linter.unusedSimpArgs false
open Go Go.RowKit LM

theorem fitJ_new (n : Nat) : FitJ (newD n) n := ⟨newD_len n, by simp [newD], by simp [newD], by simp [newD]⟩
/-- disk.New, by its blocks -/
theorem newDsk (n : Nat) (w : World) (h1 : 1 ≤ n) (h2 : n ≤ 1024) :
    Calls Try.prog 22 #[.int .i64 n] w fun e w' => ∃ d I, e = .returned (.tuple #[.pointer (some ⟨d, 0, none⟩), .int .i64 0]) ∧ Dsk w.heap.size w' (newD n) d I ∧ Below w.heap.size w w' := by
  refine (newDisk_any n w h1 h2).mono ?_
  rintro e w' ⟨d, gs, cs, r, rfl, hd, _, hb⟩
  exact ⟨d, _, rfl, ⟨gs, cs, r, none, 0, hd, fun _ => Iff.rfl⟩, hb⟩
theorem sl_mark (w : World) (l : List UInt8) (e : TypeId) (cs : Array Value) (fr : Nat × Nat) (n g : Nat) (hg : g = w.heap.size) (hcs : cs = (B8 l).toArray) (hn : n = l.length) (hm : l.length ≤ 9223372036854775807) :
    Sl (w.alloc (.cells cs e fr)) 1 (.slice (some ⟨g, 0, none⟩) n n) (B8 l) := by
  subst hcs; subst hn; subst hg
  refine ⟨_, _, _, rfl, by simp [B8], Nat.le_refl _, by simpa [maxLen] using hm, fun hn => ⟨w.heap.size, 0, rfl, by simp, fun i hi => ?_⟩⟩
  rw [World.cell?_alloc_mark]
  simp
theorem st_mayok : JOk sj1 := ⟨by decide, by decide, by decide, by decide, by simp [sj1]⟩
set_option maxRecDepth 100000 in
set_option maxHeartbeats 6400000 in
theorem stays_any (w : World) : Calls Try.prog 55 #[] w fun e w' => e = .returned (.bool true) ∧ Below w.heap.size w w' := by
  go_enter Try.func55, Try.ntmps55
  go_wp2_with fail
  refine (newDsk 8 w (by omega) (by omega)).mono ?_
  rintro e w1 ⟨d, I, rfl, hd, hb1⟩
  go_wp2_with fail
  refine (begin_any w.heap.size 8 w1 (newD 8) d I hd (fitJ_new 8) hb1.size (by omega) rfl (by rw [show (curN (newD 8) 2).1 = 0 from congrArg Prod.fst st_cur0]; omega) (by rw [show (curN (newD 8) 2).1 = 0 from congrArg Prod.fst st_cur0]; exact st_e1) (by rw [show (curN (newD 8) 2).1 = 0 from congrArg Prod.fst st_cur0]; exact st_e2)).mono ?_
  rintro e w2 ⟨j, I2, K2, rfl, hjd2, hK2, hI2, hk2⟩
  rw [show (curN (newD 8) 2).1 = 0 from congrArg Prod.fst st_cur0] at hjd2
  have hs1 := hb1.size
  have hb2 : Below w.heap.size w w2 := hb1.trans (hk2.below_of hs1 (fun b hb => (hd.bd b hb).1))
  have hs2 := hb2.size
  have hF2 : FitJ (beginD (newD 8)) 8 := ((fitJ_new 8).write _ _).sure _ _
  replace hjd2 : Jd w.heap.size w2 sd1 sj1 j d I2 K2 := hjd2
  replace hF2 : FitJ sd1 8 := hF2
  have kc := fun (w : World) (C : Array Value) (n c : Nat) => Lib.run_convert_bytes_const (P := Try.prog) w 27 5 C n c Try.underlying27 Try.underlying5
  have hsl : Sl (w2.alloc (.cells #[.int .u8 111, .int .u8 110, .int .u8 101] 5 (3, 4))) 1 (.slice (some ⟨w2.heap.size, 0, none⟩) 3 3) (B8 sone) := sl_mark _ _ _ _ _ _ _ rfl rfl rfl (by simp [sone])
  have hba := (Below.refl w2.heap.size w2).alloc (Nat.le_refl _) (.cells #[.int .u8 111, .int .u8 110, .int .u8 101] 5 (3, 4))
  have hjd3 := hjd2.below hba
  have hb3 := hb2.trans (hba.mono hs2)
  have hgn : ¬ (I2 w2.heap.size ∨ K2 w2.heap.size) := fun e => by have := (hjd2.lt _ e).2; omega
  have hs3 := hb3.size
  clear hjd2 hba hb2 hk2 hd hb1
  go_wp2_with fail
  generalize hw3 : w2.alloc (.cells #[.int .u8 111, .int .u8 110, .int .u8 101] 5 (3, 4)) = w3 at *
  generalize w2.heap.size = g3 at *
  refine (append_any w.heap.size 8 w3 sd1 sj1 j d I2 K2 hjd3 hF2 (by omega) hs3 st_mayok g3 0 3 3 sone hsl hgn).mono ?_
  rintro e w4 ⟨rfl, I4, K4, s4⟩
  rw [st_app]
  have hb4 : Below w.heap.size w w4 := hb3.trans (s4.kp.below_of hs3 (fun b hb => (hjd3.lt b hb).1))
  have hs4 := hb4.size
  have hd4 : Dsk w.heap.size w4 sd2 d I4 := s4.jd.dk
  have hl4 : 4 ≤ sd2.stay.length ∧ sd2.stay.length ≤ 1000 := by
    have := (hF2.app sj1 sone).len
    show 4 ≤ (appS sd1 sj1 sone).1.stay.length ∧ _ ≤ 1000
    unfold sd2
    omega
  clear hw3 hsl hgn hjd3 hb3 s4
  go_wp2_with fail
  refine (open_any w.heap.size w4 sd2 d I4 hd4 hs4 hl4 st_off2 (by rw [st_cur2]; decide) (by rw [st_cur2]; decide)).mono ?_
  rintro e w5 ⟨j5, K5, rfl, hjd5, hK5, hO5, hu5, hb5⟩
  rw [st_open] at hjd5 hO5 hu5
  have hb5' := hb4.trans (hb5.mono hs4)
  have hs5 := hb5'.size
  clear hd4 hb5 hb4
  go_wp2_with fail
  refine (all_any w.heap.size w5 _ j5 d K5 hjd5.jn hO5).mono ?_
  rintro e w6 ⟨A6, c6, vs6, E6, rfl, hown6, hev6, hE6, hb6⟩
  have hb6' := hb5'.trans (hb6.mono hs5)
  have hs6 := hb6'.size
  have hjd6 := hjd5.below hb6
  obtain ⟨A7, n7, c7, e7, hs7, _⟩ := hev6 0 (by decide)
  have hn7 := hs7.len.1
  obtain rfl : n7 = 3 := by rw [← hn7]; rfl
  obtain ⟨g6, rfl, _, hg6⟩ := own_some hown6 (by decide)
  have hcell : w6.cell? ⟨g6, 0, none⟩ = some (.slice A7 3 c7) := by rw [(own_cell hown6 0 (by decide)).1]; exact e7
  have st : (convert 27 9 (.slice A7 3 c7)).run Try.prog w6 = .ok (.string ⟨#[111, 110, 101]⟩) w6 := bstr hs7
  have hcap := own_lens hown6
  have hlen : (allJ ⟨1, 0, [sone], 1, false⟩).length = 1 := rfl
  rw [hlen] at hcap ⊢
  clear hown6 hev6 hE6 e7 hs7 hjd5 hb5' hb6
  go_wp2_with fail
  refine (free_any w.heap.size w6 sd2 _ j5 d I4 K5 hjd6 (by omega) (by omega) (by decide)).mono ?_
  rintro e w7 ⟨rfl, hb7⟩
  have hfr : freeJ sd2 ⟨1, 0, [sone], 1, false⟩ = 2 := by unfold freeJ; rw [st_size]; rfl
  rw [hfr]
  have hb7' := hb6'.trans (hb7.mono hs6)
  have hs7 := hb7'.size
  have hsl : Sl (w7.alloc (.cells #[.int .u8 49, .int .u8 50, .int .u8 51, .int .u8 52, .int .u8 53, .int .u8 54, .int .u8 55, .int .u8 56, .int .u8 57] 5 (9, 10))) 1 (.slice (some ⟨w7.heap.size, 0, none⟩) 9 9) (B8 [49, 50, 51, 52, 53, 54, 55, 56, 57]) := sl_mark _ _ _ _ _ _ _ rfl rfl rfl (by simp)
  have hb8 := hb7'.alloc hs7 (.cells #[.int .u8 49, .int .u8 50, .int .u8 51, .int .u8 52, .int .u8 53, .int .u8 54, .int .u8 55, .int .u8 56, .int .u8 57] 5 (9, 10))
  clear hjd6 hb6' hb7 hfr st hcell
  go_wp2_with fail
  refine (Crc_any _ 9 9 _ _ hsl).mono ?_
  rintro e w9 ⟨rfl, rfl⟩
  rw [st_crc]
  go_wp2_with fail
  go_ret
  exact ⟨rfl, hb8⟩
end Go.Proofs.Ytfhlidlmipleaaa
namespace Go.Proofs.Ytfhlidlmipleaaa
set_option linter.unusedVariables false
set_option linter.unusedSimpArgs false
open Go Go.RowKit LM

def bitR (l : List UInt8) (i : Nat) : Nat := byt l (i / 8) / 2 ^ (i % 8) % 2
def refR (l : List UInt8) : Nat → Nat
  | 0 => 4294967295
  | i + 1 => if refR l i % 2 ≠ bitR l i then (refR l i / 2) ^^^ 3988292384 else refR l i / 2
theorem refR_lt (l : List UInt8) (i : Nat) : refR l i < 4294967296 := by
  induction i with
  | zero => simp [refR]
  | succ i ih =>
    unfold refR
    split
    · exact Nat.xor_lt_two_pow (n := 32) (by omega) (by omega)
    · omega
theorem xor_half (a b : Nat) : (a ^^^ b) / 2 = a / 2 ^^^ b / 2 := by
  apply Nat.eq_of_testBit_eq
  intro i
  simp [Nat.testBit_div_two, Nat.testBit_xor]
theorem xor_mod2 (a b : Nat) : (a ^^^ b) % 2 = (a % 2 + b % 2) % 2 := by
  have h : (a ^^^ b).testBit 0 = (a.testBit 0 ^^ b.testBit 0) := Nat.testBit_xor a b 0
  simp only [Nat.testBit_zero] at h
  rcases Nat.mod_two_eq_zero_or_one a with ha | ha <;> rcases Nat.mod_two_eq_zero_or_one b with hb | hb <;> rcases Nat.mod_two_eq_zero_or_one (a ^^^ b) with hc | hc <;> rw [ha, hb, hc] at h <;> rw [ha, hb, hc] <;> simp at h ⊢
theorem xor_lc (a b c : Nat) : a ^^^ (b ^^^ c) = b ^^^ (a ^^^ c) := by rw [← Nat.xor_assoc, Nat.xor_comm a b, Nat.xor_assoc]
theorem refR_step (l : List UInt8) (k j : Nat) (hj : j ≤ 8) : refR l (8 * k + j) ^^^ (byt l k / 2 ^ j) = crcN j (refR l (8 * k) ^^^ byt l k) := by
  induction j with
  | zero => simp [crcN]
  | succ j ih =>
    have ih := ih (by omega)
    show _ = crcStep (crcN j (refR l (8 * k) ^^^ byt l k))
    rw [← ih]
    have e1 : (8 * k + j) / 8 = k := by omega
    have e2 : (8 * k + j) % 8 = j := by omega
    rw [← Nat.add_assoc]
    have hR : refR l (8 * k + j + 1) = if refR l (8 * k + j) % 2 ≠ byt l k / 2 ^ j % 2 then (refR l (8 * k + j) / 2) ^^^ 3988292384 else refR l (8 * k + j) / 2 := by
      show (if refR l (8 * k + j) % 2 ≠ bitR l (8 * k + j) then _ else _) = _
      unfold bitR
      rw [e1, e2]
    rw [hR, Nat.pow_succ, ← Nat.div_div_eq_div_mul]
    generalize refR l (8 * k + j) = r
    generalize byt l k / 2 ^ j = z
    unfold crcStep
    rw [xor_half, xor_mod2]
    rcases Nat.mod_two_eq_zero_or_one r with ha | ha <;> rcases Nat.mod_two_eq_zero_or_one z with hb | hb <;> rw [ha, hb] <;> simp [Nat.xor_assoc, Nat.xor_comm, xor_lc]
theorem refR_crc (l : List UInt8) (k : Nat) (hk : k ≤ l.length) : refR l (8 * k) = crcL 4294967295 (l.take k) := by
  induction k with
  | zero => simp [refR, crcL]
  | succ k ih =>
    have h := refR_step l k 8 (Nat.le_refl _)
    have hb := byt_lt l k
    rw [show byt l k / 2 ^ 8 = 0 by omega, Nat.xor_zero] at h
    rw [crcL_more _ _ _ (by omega), ← ih (by omega), show 8 * (k + 1) = 8 * k + 8 by omega, h]
    rfl
theorem crcOf_ref (l : List UInt8) : refR l (8 * l.length) ^^^ 4294967295 = crcOf l := by
  rw [refR_crc l _ (Nat.le_refl _), List.take_length, Nat.xor_comm, not32 _ (crcL_lt (by omega) l)]
  rfl
set_option maxRecDepth 100000 in
set_option maxHeartbeats 1600000 in
theorem refTakes_any (n : Nat) (hn : n ≤ 1048576) (w : World) :
    Calls Try.prog 59 #[.int .i64 n] w fun e w' => e = .returned (.int .i64 (takesN n)) ∧ w' = w := by
  go_enter Try.func59, Try.ntmps59
  go_wp2_with fail
  go_loopw [3] (fun i wr => ∃ k : Nat, k ≤ takesN n ∧ i = .int .i64 k ∧ wr = w) (fun i _ => takesN n - (intOf i).toNat)
  case atStart => exact ⟨0, Nat.zero_le _, rfl, rfl⟩
  case round =>
    obtain ⟨k, hk, rfl, rfl⟩ := hrel
    have ht : takesN n * 64 ≤ n + 82 ∧ n + 19 ≤ takesN n * 64 := by unfold takesN; omega
    by_cases hkt : k < takesN n
    · have hc : 64 * k < n + 19 := by unfold takesN at hkt; omega
      go_wp2_with fail
      go_light
      exact ⟨⟨k + 1, by omega, by go_num, trivial⟩, by simp [intOf]; omega⟩
    · obtain rfl : k = takesN n := by omega
      go_wp2_with fail
      go_ret
      exact ⟨rfl, rfl⟩
set_option maxRecDepth 100000 in
set_option maxHeartbeats 1600000 in
theorem refCrc_any (A : Option Addr) (n c : Nat) (l : List UInt8) (w : World) (hS : Sl w 1 (.slice A n c) (B8 l)) (hn8 : n ≤ 1048576) :
    Calls Try.prog 57 #[.slice A n c] w fun e w' => e = .returned (.int .u32 (crcOf l)) ∧ w' = w := by
  obtain ⟨hn, hnc, hc⟩ := hS.len
  have HC := hid (crcOf_ref l)
  rw [hn] at HC
  go_enter Try.func57, Try.ntmps57
  go_wp2_with fail
  go_loopw [3, 4] (fun v i wr => ∃ k : Nat, k ≤ 8 * n ∧ i = .int .i64 k ∧ v = .int .u32 (refR l k) ∧ wr = w) (fun _ i _ => 8 * n - (intOf i).toNat)
  case atStart => exact ⟨0, Nat.zero_le _, rfl, rfl, rfl⟩
  case round =>
    obtain ⟨k, hk, rfl, rfl, rfl⟩ := hrel
    have hr := refR_lt l k
    by_cases hkn : k < 8 * n
    · have HR : Hid (refR l (k + 1) = if refR l k % 2 ≠ bitR l k then (refR l k / 2) ^^^ 3988292384 else refR l k / 2) := hid rfl
      have HB : Hid (bitR l k = byt l (k / 8) / 2 ^ (k % 8) % 2) := hid rfl
      obtain ⟨b, off, rfl, hb, hcell⟩ := hS.byte (k := k / 8) (by omega)
      have hby := byt_lt l (k / 8)
      obtain ⟨q, hq⟩ : ∃ q, k / 8 = q := ⟨_, rfl⟩
      obtain ⟨j, hj⟩ : ∃ j, k % 8 = j := ⟨_, rfl⟩
      rw [hq] at hcell hby HB
      rw [hj] at HB
      have eq : (k : Int) / 8 = (q : Int) := by omega
      have ej : (k : Int) % 8 = (j : Int) := by omega
      have hj8 : j < 8 := by omega
      have hqn : q < n := by omega
      generalize byt l q = y at *
      generalize refR l k = r at *
      generalize bitR l k = bt at *
      clear hq hj
      have hz : y / 2 ^ j < 256 := Nat.lt_of_le_of_lt (Nat.div_le_self _ _) hby
      have b1 : bits BinOp.and IntKind.u32 (r : Int) 1 = ((r % 2 : Nat) : Int) := by
        rw [show (1 : Int) = ((1 : Nat) : Int) from rfl, and32 r 1 hr (by omega), Nat.and_one_is_mod]
      have b2 : bits BinOp.and IntKind.u32 ((y : Int) / 2 ^ j) 1 = (bt : Int) := by
        rw [HB.out, show ((y : Int) / 2 ^ j) = ((y / 2 ^ j : Nat) : Int) by simp, show (1 : Int) = ((1 : Nat) : Int) from rfl, and32 _ 1 (by omega) (by omega), Nat.and_one_is_mod]
      have x1 : bits BinOp.xor IntKind.u32 ((r : Int) / 2) 3988292384 = (((r / 2) ^^^ 3988292384 : Nat) : Int) := by
        rw [show ((r : Int) / 2) = ((r / 2 : Nat) : Int) by omega, show (3988292384 : Int) = ((3988292384 : Nat) : Int) from rfl, xor32 _ _ (by omega) (by omega)]
      obtain ⟨r2, hr2⟩ : ∃ r2, r % 2 = r2 := ⟨_, rfl⟩
      obtain ⟨rx, hrx⟩ : ∃ rx, (r / 2) ^^^ 3988292384 = rx := ⟨_, rfl⟩
      rw [hr2] at b1 HR
      rw [hrx] at x1 HR
      clear hr2 hrx
      by_cases hbt : r2 = bt
      · have qq : ((r2 : Int) != (bt : Int)) = false := by rw [hbt]; simp
        have HR2 : Hid (refR l (k + 1) = r / 2) := hid (by rw [HR.out, if_neg (by omega)])
        have hbt' := hid hbt
        clear hbt
        go_wp2_with fail
        go_light
        exact ⟨⟨k + 1, by omega, by go_num, by rw [HR2.out]; simp, trivial⟩, by simp [intOf]; omega⟩
      · have qq : ((r2 : Int) != (bt : Int)) = true := by simp; omega
        have HR2 : Hid (refR l (k + 1) = rx) := hid (by rw [HR.out, if_pos hbt])
        have hbt' := hid hbt
        clear hbt
        go_wp2_with fail
        go_light
        exact ⟨⟨k + 1, by omega, by go_num, by rw [HR2.out], trivial⟩, by simp [intOf]; omega⟩
    · obtain rfl : k = 8 * n := by omega
      have xe : bits BinOp.xor IntKind.u32 ((refR l (8 * n) : Nat) : Int) IntKind.u32.max = ((crcOf l : Nat) : Int) := by
        rw [show IntKind.u32.max = ((4294967295 : Nat) : Int) from rfl, xor32 _ _ hr (by omega), HC.out]
      have xe2 : bits BinOp.xor IntKind.u32 ((refR l (8 * n) : Nat) : Int) 4294967295 = ((crcOf l : Nat) : Int) := xe
      have hcl := crcOf_lt l
      generalize refR l (8 * n) = r at *
      go_wp2_with fail
      go_ret
      exact ⟨rfl, rfl⟩
end Go.Proofs.Ytfhlidlmipleaaa
namespace Go.Proofs.Ytfhlidlmipleaaa
set_option linter.unusedVariables false
set_option linter.unusedSimpArgs false
open Go Go.RowKit LM

set_option maxRecDepth 100000 in
set_option maxHeartbeats 3200000 in
theorem journalSums_walk (A : Option Addr) (m c : Nat) (l : List UInt8) (n : Int) (w : World) (hS : Sl w 1 (.slice A m c) (B8 l)) (hn : -9223372036854775808 ≤ n ∧ n ≤ 9223372036854775807) :
    Calls Try.prog 8 #[.slice A m c, .int .i64 n] w fun e w' => e = .returned (.bool true) ∧ Below w.heap.size w w' := by
  obtain ⟨hm, hmc, hcm⟩ := hS.len
  obtain ⟨y, hy8, ek⟩ : ∃ y : Nat, y < 8193 ∧ wrap64 ((IntKind.u64.wrap n).tmod 8193) = (y : Int) := by
    refine ⟨((IntKind.u64.wrap n) % 8193).toNat, by omega, ?_⟩
    rw [Int.tmod_eq_emod_of_nonneg (by rw [IntKind.wrap_u64]; omega)]
    unfold wrap64
    rw [IntKind.wrap_u64]
    omega
  obtain ⟨p, hp⟩ : ∃ p : Nat, p = min m 200 := ⟨_, rfl⟩
  have ep : min (m : Int) 200 = (p : Int) := by omega
  have hs2 := hS.take p (by omega)
  have hpm : p ≤ m ∧ p ≤ 200 := by omega
  have hcl := crcOf_lt (l.take p)
  generalize hcc : crcOf (l.take p) = cr at *
  clear hp
  go_enter Try.func8, Try.ntmps8
  go_wp2_with fail
  refine wp_region_loud (fun _ => False) [(0, plainL [] (.bool true)), (7, plainL [] (.int .u32 (cr : Int))), (13, plainL [] (.int .u32 (cr : Int))), (18, plainL [] (.int .i64 (takesN y : Int))), (20, plainL [] (.int .i64 (takesN y : Int)))] (fun _ => Fact.none) (by kernel_rfl) (by kernel_rfl)
    (.cons (plainL_ok _ _) (.cons (plainL_ok _ _) (.cons (plainL_ok _ _) (.cons (plainL_ok _ _) (.cons (plainL_ok _ _) .nil))))) good_nothing sat_none (WX.out ?_)
  repeat (first | (refine wx_quietU (by rfl) (by rfl) (by rfl) (fun K hK => ?_); go_big_quiet_op; refine hK _ ?_; clear hK K) | (refine wx_quietG (by rfl) (by rfl) (by rfl) (by rfl) (by rfl) (fun K hK => ?_); go_big_quiet_op; refine hK _ ?_; clear hK K) | (refine wx_skipG (by rfl) (by rfl) (by rfl) (fun K hK => ?_); go_simp; refine hK _ ?_; clear hK K) | (refine wx_skipN (by rfl) (by rfl) (by rfl) (fun K hK => ?_); go_simp; refine hK _ ?_; clear hK K))
  refine wx_loudU (us := []) (by rfl) (by rfl) (fun S wS hC hS hU => runs_enter (f := 55) (by go_simp <;> rfl) ?_) (fun v hv K hK => ?_)
  · refine (stays_any wS).mono ?_
    rintro e w9 ⟨rfl, hb9⟩
    exact ⟨_, rfl, rfl, Kept.of_below hb9, trivial⟩
  obtain rfl := hv; (go_simp; refine hK _ ?_; clear hK K)
  repeat (first | (refine wx_quietU (by rfl) (by rfl) (by rfl) (fun K hK => ?_); go_big_quiet_op; refine hK _ ?_; clear hK K) | (refine wx_quietG (by rfl) (by rfl) (by rfl) (by rfl) (by rfl) (fun K hK => ?_); go_big_quiet_op; refine hK _ ?_; clear hK K) | (refine wx_skipG (by rfl) (by rfl) (by rfl) (fun K hK => ?_); go_simp; refine hK _ ?_; clear hK K) | (refine wx_skipN (by rfl) (by rfl) (by rfl) (fun K hK => ?_); go_simp; refine hK _ ?_; clear hK K))
  refine wx_loudG (us := []) (by rfl) (by rfl) (by rfl) (by rfl) (fun S wS hC hS hU => runs_enter (f := 56) (by go_simp <;> rfl) ?_) (fun v hv K hK => ?_)
  · refine (Crc_any A p c _ wS (hs2.below hC.below)).mono ?_
    rintro e w9 ⟨rfl, rfl⟩
    exact ⟨.int .u32 (cr : Int), by rw [hcc], rfl, Kept.refl _ _, trivial⟩
  obtain rfl := hv; (go_simp; refine hK _ ?_; clear hK K)
  repeat (first | (refine wx_quietU (by rfl) (by rfl) (by rfl) (fun K hK => ?_); go_big_quiet_op; refine hK _ ?_; clear hK K) | (refine wx_quietG (by rfl) (by rfl) (by rfl) (by rfl) (by rfl) (fun K hK => ?_); go_big_quiet_op; refine hK _ ?_; clear hK K) | (refine wx_skipG (by rfl) (by rfl) (by rfl) (fun K hK => ?_); go_simp; refine hK _ ?_; clear hK K) | (refine wx_skipN (by rfl) (by rfl) (by rfl) (fun K hK => ?_); go_simp; refine hK _ ?_; clear hK K))
  refine wx_loudG (us := []) (by rfl) (by rfl) (by rfl) (by rfl) (fun S wS hC hS hU => runs_enter (f := 57) (by go_simp <;> rfl) ?_) (fun v hv K hK => ?_)
  · refine (refCrc_any A p c _ wS (hs2.below hC.below) (by omega)).mono ?_
    rintro e w9 ⟨rfl, rfl⟩
    exact ⟨.int .u32 (cr : Int), by rw [hcc], rfl, Kept.refl _ _, trivial⟩
  obtain rfl := hv; (go_simp; refine hK _ ?_; clear hK K)
  have qc : ((cr : Int) == (cr : Int)) = true := by simp
  have qt : (((takesN y : Nat) : Int) == ((takesN y : Nat) : Int)) = true := by simp
  repeat (first | (refine wx_quietU (by rfl) (by rfl) (by rfl) (fun K hK => ?_); go_big_quiet_op; refine hK _ ?_; clear hK K) | (refine wx_quietG (by rfl) (by rfl) (by rfl) (by rfl) (by rfl) (fun K hK => ?_); go_big_quiet_op; refine hK _ ?_; clear hK K) | (refine wx_skipG (by rfl) (by rfl) (by rfl) (fun K hK => ?_); go_simp; refine hK _ ?_; clear hK K) | (refine wx_skipN (by rfl) (by rfl) (by rfl) (fun K hK => ?_); go_simp; refine hK _ ?_; clear hK K))
  refine wx_loudG (us := []) (by rfl) (by rfl) (by rfl) (by rfl) (fun S wS hC hS hU => runs_enter (f := 58) (by go_simp <;> rfl) ?_) (fun v hv K hK => ?_)
  · refine (takes_any y (by omega) wS).mono ?_
    rintro e w9 ⟨rfl, rfl⟩
    exact ⟨_, rfl, rfl, Kept.refl _ _, trivial⟩
  obtain rfl := hv; (go_simp; refine hK _ ?_; clear hK K)
  repeat (first | (refine wx_quietU (by rfl) (by rfl) (by rfl) (fun K hK => ?_); go_big_quiet_op; refine hK _ ?_; clear hK K) | (refine wx_quietG (by rfl) (by rfl) (by rfl) (by rfl) (by rfl) (fun K hK => ?_); go_big_quiet_op; refine hK _ ?_; clear hK K) | (refine wx_skipG (by rfl) (by rfl) (by rfl) (fun K hK => ?_); go_simp; refine hK _ ?_; clear hK K) | (refine wx_skipN (by rfl) (by rfl) (by rfl) (fun K hK => ?_); go_simp; refine hK _ ?_; clear hK K))
  refine wx_loudG (us := []) (by rfl) (by rfl) (by rfl) (by rfl) (fun S wS hC hS hU => runs_enter (f := 59) (by go_simp <;> rfl) ?_) (fun v hv K hK => ?_)
  · refine (refTakes_any y (by omega) wS).mono ?_
    rintro e w9 ⟨rfl, rfl⟩
    exact ⟨_, rfl, rfl, Kept.refl _ _, trivial⟩
  obtain rfl := hv; (go_simp; refine hK _ ?_; clear hK K)
  repeat (first | (refine wx_quietU (by rfl) (by rfl) (by rfl) (fun K hK => ?_); go_big_quiet_op; refine hK _ ?_; clear hK K) | (refine wx_quietG (by rfl) (by rfl) (by rfl) (by rfl) (by rfl) (fun K hK => ?_); go_big_quiet_op; refine hK _ ?_; clear hK K) | (refine wx_skipG (by rfl) (by rfl) (by rfl) (fun K hK => ?_); go_simp; refine hK _ ?_; clear hK K) | (refine wx_skipN (by rfl) (by rfl) (by rfl) (fun K hK => ?_); go_simp; refine hK _ ?_; clear hK K))
  refine wx_nil fun w9 hsat => ?_
  have hb9 := sat_below hsat
  clear hsat
  go_wp2_with fail
  go_ret
  exact ⟨rfl, hb9⟩
end Go.Proofs.Ytfhlidlmipleaaa
namespace Go.Proofs.Ytfhlidlmipleaaa
set_option linter.unusedVariables false
set_option linter.unusedSimpArgs false
open Go Go.RowKit LM

structure Quiet (D : Dk) : Prop where
  on : D.off = false
  arm : D.armed = -1
theorem Quiet.step {D : Dk} (h : Quiet D) : stepD D = (D, 0) := by
  unfold stepD
  rw [if_neg (by rw [h.arm]; omega), if_neg (by rw [h.arm]; omega)]
theorem laidD_same (D : Dk) (i : Int) (l : List UInt8) : (laidD D i l).off = D.off ∧ (laidD D i l).armed = D.armed ∧ (laidD D i l).stay = D.stay := by
  unfold laidD
  split <;> exact ⟨rfl, rfl, rfl⟩
theorem Quiet.write {D : Dk} (h : Quiet D) {i : Int} {l : List UInt8} (h0 : 0 ≤ i) (h1 : i < D.stay.length) (hl : l.length = 64) : wrE D i l = 0 ∧ wrD D i l = laidD D i l ∧ Quiet (wrD D i l) ∧ (wrD D i l).stay.length = D.stay.length := by
  have hm := mayE_on h.on h0 h1
  have e1 : wrE D i l = 0 := by unfold wrE; rw [if_neg (by omega), if_neg (by omega), h.step]
  have e2 : wrD D i l = laidD D i l := by unfold wrD; rw [if_neg (by omega), if_neg (by omega), if_pos (by rw [h.step]), h.step]
  obtain ⟨a, b, c⟩ := laidD_same D i l
  exact ⟨e1, e2, by rw [e2]; exact ⟨a.trans h.on, b.trans h.arm⟩, by rw [e2, c]⟩
theorem crashTo_same (D : Dk) (kl : List Bool) (k : Nat) : (crashTo D kl k).stay.length = D.stay.length := by rw [crashTo_stay]
theorem crashTo_off (D : Dk) (kl : List Bool) (k : Nat) : (crashTo D kl k).off = D.off ∧ (crashTo D kl k).armed = D.armed := by
  induction k with
  | zero => exact ⟨rfl, rfl⟩
  | succ k ih => unfold crashTo; split <;> simp [keepD, ih]
theorem Quiet.flush {D : Dk} (h : Quiet D) : flE D = 0 ∧ flD D = flushD D ∧ Quiet (flD D) ∧ (flD D).stay.length = D.stay.length := by
  have hn : ¬ D.off = true := by rw [h.on]; exact Bool.false_ne_true
  have e1 : flE D = 0 := by unfold flE; rw [if_neg hn, h.step]
  have e2 : flD D = flushD D := by unfold flD; rw [if_neg hn, if_pos (by rw [h.step]), h.step]
  have h3 := crashTo_off D (List.replicate D.order.length true) D.order.length
  refine ⟨e1, e2, ?_, ?_⟩
  · rw [e2]
    exact ⟨h3.1.trans h.on, h3.2.trans h.arm⟩
  · rw [e2]
    show (crashTo _ _ _).stay.length = _
    rw [crashTo_stay]
theorem Quiet.rest {D : Dk} (h : Quiet D) (nx m : Nat) (f : List UInt8) (hf : f.length = 64 * m) (hr : nx + m ≤ D.stay.length) (k : Nat) (hk : k < m) : (restS D nx f k).2 = 0 ∧ Quiet (restS D nx f k).1 ∧ (restS D nx f k).1.stay.length = D.stay.length := by
  induction k with
  | zero => exact ⟨rfl, h, rfl⟩
  | succ k ih =>
    obtain ⟨a, b, c⟩ := ih (by omega)
    have e : restS D nx f (k + 1) = (wrD (restS D nx f k).1 ((nx + (k + 1) : Nat) : Int) (chunk f (k + 1)), wrE (restS D nx f k).1 ((nx + (k + 1) : Nat) : Int) (chunk f (k + 1))) := by
      show (if (restS D nx f k).2 ≠ 0 then restS D nx f k else _) = _
      rw [if_neg (by omega)]
    obtain ⟨x1, _, x3, x4⟩ := b.write (i := ((nx + (k + 1) : Nat) : Int)) (l := chunk f (k + 1)) (by omega) (by rw [c]; omega) (chunk_len hf hk)
    rw [e]
    exact ⟨x1, x3, x4.trans c⟩
theorem Quiet.sure {D : Dk} (h : Quiet D) {i : Int} {l : List UInt8} (h0 : 0 ≤ i) (h1 : i < D.stay.length) (hl : l.length = 64) : sureE D i l = 0 ∧ sureD D i l = flushD (laidD D i l) ∧ Quiet (sureD D i l) ∧ (sureD D i l).stay.length = D.stay.length := by
  obtain ⟨a, b, c, d⟩ := h.write h0 h1 hl
  obtain ⟨x, y, z, u⟩ := c.flush
  have e1 : sureE D i l = 0 := by unfold sureE; rw [if_pos a, x]
  have e2 : sureD D i l = flD (wrD D i l) := by unfold sureD; rw [if_pos a]
  exact ⟨e1, by rw [e2, y, b], by rw [e2]; exact z, by rw [e2, u, d]⟩
theorem frameJ_len' (gen idx : Nat) (l : List UInt8) : (frameJ gen idx l).length = 64 * takesN l.length := by rw [frameJ_len]; omega
theorem Quiet.app {D : Dk} (h : Quiet D) {J : Jn} (hh : J.half < 2) (h2 : 2 ≤ D.stay.length) (hu : J.used ≤ sizeJ D) {l : List UInt8} (hm : mayJ D J [l] J.used = 0) :
    (appS D J l).2 = (addJ J l, 0) ∧ Quiet (appS D J l).1 ∧ (appS D J l).1.stay.length = D.stay.length := by
  obtain ⟨hg, hl1, hl2, hroom⟩ := mayJ_one hm
  have hT : 1 ≤ takesN l.length := by unfold takesN; omega
  have hnx := nextJ_room (J := J) h2 hh (takesN l.length) (by omega) hu
  have hfl := frameJ_len' J.gen J.all.length l
  have hR : (apR D J l).2 = 0 ∧ Quiet (apR D J l).1 ∧ (apR D J l).1.stay.length = D.stay.length := by
    unfold apR
    by_cases ht : 1 < takesN l.length
    · rw [if_pos ht]
      obtain ⟨a, b, c⟩ := h.rest (nextJ D J) (takesN l.length) _ hfl hnx (takesN l.length - 1) (by omega)
      rw [if_pos a]
      obtain ⟨x, y, z, u⟩ := b.flush
      exact ⟨x, z, u.trans c⟩
    · rw [if_neg ht]
      exact ⟨rfl, h, rfl⟩
  obtain ⟨r1, r2, r3⟩ := hR
  obtain ⟨a, b, c, d⟩ := r2.sure (i := (nextJ D J : Int)) (l := (frameJ J.gen J.all.length l).take 64) (by omega) (by rw [r3]; omega) (by rw [List.length_take]; omega)
  have hA : appS D J l = (sureD (apR D J l).1 (nextJ D J) ((frameJ J.gen J.all.length l).take 64), addJ J l, 0) := by
    unfold appS
    rw [if_neg (by omega), if_neg (by omega), if_neg (by omega)]
  rw [hA]
  exact ⟨rfl, c, d.trans r3⟩
theorem quiet_new (n : Nat) : Quiet (newD n) := ⟨rfl, rfl⟩
theorem readB_new (n i : Nat) : readB (newD n) i = zero64 := by
  unfold readB
  have : lookW (newD n).wait (i : Int) = none := rfl
  rw [this, Option.getD_none]
  show (List.replicate n zero64).getD i zero64 = _
  rw [List.getD_eq_getElem?_getD, List.getElem?_replicate]
  split <;> rfl
theorem curN_new (n : Nat) (h : 2 ≤ n) : curN (newD n) 2 = (0, 0) := by
  have hs : ∀ i, i < 2 → curStep (newD n) i (0, 0) = (0, 0) := fun i hi => by
    unfold curStep
    rw [readE_on rfl (by rw [newD_len]; omega), readB_new, if_neg]
    intro hc
    exact absurd hc.2.1 (by decide)
  show curStep (newD n) 1 (curStep (newD n) 0 (0, 0)) = _
  rw [hs 0 (by omega), hs 1 (by omega)]
/-- Begin on a new disk -/
theorem begin_new (base n : Nat) (w : World) (d : Nat) (I : Nat → Prop) (h : Dsk base w (newD n) d I) (hbase : base ≤ w.heap.size) (hl : 4 ≤ n ∧ n ≤ 1000) :
    Calls Try.prog 60 #[.pointer (some ⟨d, 0, none⟩)] w fun e w' => ∃ j I' K, e = .returned (.tuple #[.pointer (some ⟨j, 0, none⟩), .int .i64 0]) ∧ Jd base w' (beginD (newD n)) ⟨1, 0, [], 0, false⟩ j d I' K ∧ (∀ b, K b → w.heap.size ≤ b) ∧ (∀ b, I' b → I b ∨ w.heap.size ≤ b) ∧ Kept I w w' := by
  have h0 : (curN (newD n) 2).1 = 0 := by rw [curN_new n (by omega)]
  have hln := newD_len n
  obtain ⟨a, b, c, d1⟩ := (quiet_new n).write (i := (1 - ((0 + 1) % 2 : Nat) : Int)) (l := zero64) (by decide) (by rw [hln]; simp; omega) rfl
  obtain ⟨x, _⟩ := c.sure (i := ((0 + 1) % 2 : Nat)) (l := slotJ (0 + 1) 0) (by decide) (by rw [d1, hln]; simp; omega) (slotJ_len _ _)
  refine (begin_any base n w (newD n) d I h (fitJ_new n) hbase hl rfl (by rw [h0]; omega) (by rw [h0]; exact a) (by rw [h0]; exact x)).mono ?_
  rintro e w' ⟨j, I', K, rfl, hjd, hK, hI, hk⟩
  rw [h0] at hjd
  exact ⟨j, I', K, rfl, hjd, hK, hI, hk⟩
theorem quiet_begin (n : Nat) (hl : 4 ≤ n) : Quiet (beginD (newD n)) ∧ (beginD (newD n)).stay.length = n := by
  have h0 : (curN (newD n) 2).1 = 0 := by rw [curN_new n (by omega)]
  have hln := newD_len n
  obtain ⟨a, b, c, d1⟩ := (quiet_new n).write (i := (1 - ((0 + 1) % 2 : Nat) : Int)) (l := zero64) (by decide) (by rw [hln]; simp; omega) rfl
  obtain ⟨x, y, z, u⟩ := c.sure (i := ((0 + 1) % 2 : Nat)) (l := slotJ (0 + 1) 0) (by decide) (by rw [d1, hln]; simp; omega) (slotJ_len _ _)
  unfold beginD
  rw [h0]
  exact ⟨z, by rw [u, d1, hln]⟩
/-- make of so many zero bytes -/
theorem mkz (w : World) (k : Nat) (hk : k ≤ 1099511627776) : ∃ w1, (Instr.makeSlice 27 (.int .i64 (k : Int)) (.int .i64 (k : Int))).run Try.prog w = .ok (.slice (some ⟨w.heap.size, 0, none⟩) k k) w1 ∧ w1.ownsRow w.heap.size 5 1 (.slice (some ⟨w.heap.size, 0, none⟩) k k) k (B8 (List.replicate k 0)) ∧ Below w.heap.size w w1 := by
  obtain ⟨ht, _, i, z, hi, hz, hsi, hby, hzs⟩ := st_bytes
  obtain ⟨w1, hm, hown, hg⟩ := run_make_full (P := Try.prog) w w.heap.size 27 5 i z 1 ht hi hz hsi .i64 .i64 k (by rw [hby]; omega) (by simp [maxLen]; omega) (Nat.le_refl _)
  have hz0 : z = .int .u8 0 := by
    have h0 := info_u8
    rw [hi] at h0
    simp only [Option.map_some, Option.some.injEq] at h0
    rw [hz] at h0
    injection h0
  subst hz0
  have hmc : (madeCells (Value.int .u8 0).cells (k * 1)).toList = B8 (List.replicate k 0) := by
    apply List.ext_getElem
    · simp [madeCells, B8]
    · intro i h1 h2
      simp [madeCells, Value.cells, B8] at h1 ⊢
      simp [Nat.mod_one]
  rw [hmc] at hown
  exact ⟨w1, hm, hown, (Below.refl _ _).grown hg (Nat.le_refl _) (by intro k hk; cases hk)⟩
end Go.Proofs.Ytfhlidlmipleaaa
namespace Go.Proofs.Ytfhlidlmipleaaa
set_option linter.unusedVariables false
set_option linter.unusedSimpArgs false
open Go Go.RowKit LM

theorem modU (n : Int) (m : Nat) (hm : 0 < m) (hm2 : m < 9223372036854775808) : ∃ y : Nat, y < m ∧ wrap64 ((IntKind.u64.wrap n).tmod m) = (y : Int) := by
  refine ⟨((IntKind.u64.wrap n) % m).toNat, ?_, ?_⟩
  · have := Int.emod_lt_of_pos (IntKind.u64.wrap n) (show (0 : Int) < m by omega)
    have := Int.emod_nonneg (IntKind.u64.wrap n) (show (m : Int) ≠ 0 by omega)
    omega
  · rw [Int.tmod_eq_emod_of_nonneg (by rw [IntKind.wrap_u64]; omega)]
    have := Int.emod_lt_of_pos (IntKind.u64.wrap n) (show (0 : Int) < m by omega)
    have := Int.emod_nonneg (IntKind.u64.wrap n) (show (m : Int) ≠ 0 by omega)
    unfold wrap64
    omega
/-- the journal behind so many entries of k zeros -/
def roomJ (k i : Nat) : Jn := ⟨1, 0, List.replicate i (List.replicate k 0), i * takesN k, false⟩
theorem roomJ_ok {k i n : Nat} (hk : 1 ≤ k ∧ k ≤ 200) (hn : n ≤ 64) (hi : i * takesN k ≤ n) : JOk (roomJ k i) := by
  have hT : 1 ≤ takesN k := by unfold takesN; omega
  have hi2 : i ≤ n := Nat.le_trans (Nat.le_mul_of_pos_right i hT) hi
  refine ⟨by simp [roomJ], by simp [roomJ], ?_, ?_, fun l hl => ?_⟩
  · show i * takesN k ≤ 1024
    omega
  · show (List.replicate i _).length ≤ 1024
    rw [List.length_replicate]; omega
  · have := (List.mem_replicate.1 hl).2
    subst this
    rw [List.length_replicate]; omega
theorem roomJ_add (k i : Nat) : addJ (roomJ k i) (List.replicate k 0) = roomJ k (i + 1) := by
  simp [addJ, roomJ, List.replicate_succ', Nat.succ_mul]
theorem roomJ_may {D : Dk} {k i rm : Nat} (hk : 1 ≤ k ∧ k ≤ 200) (hrm : rm = sizeJ D / takesN k) : mayJ D (roomJ k i) [List.replicate k 0] (roomJ k i).used = if i < rm then 0 else 5 := by
  have hT : 1 ≤ takesN k := by unfold takesN; omega
  have hu : (roomJ k i).used = i * takesN k := rfl
  have key : (i < rm) ↔ i * takesN k + takesN k ≤ sizeJ D := by
    rw [hrm, ← Nat.succ_le_iff, Nat.le_div_iff_mul_le hT, Nat.succ_mul]
  unfold mayJ mayL mayL
  rw [hu, List.length_replicate, if_neg (by simp [roomJ]), if_neg (by omega)]
  by_cases h : i < rm
  · rw [if_pos h, if_neg (by have := key.1 h; omega)]
  · rw [if_neg h, if_pos (by have := mt key.2 h; omega)]
set_option maxRecDepth 100000 in
set_option maxHeartbeats 6400000 in
theorem journalRooms_walk (x1 x2 : Int) (w : World) (h1 : -9223372036854775808 ≤ x1 ∧ x1 ≤ 9223372036854775807) (h2 : -9223372036854775808 ≤ x2 ∧ x2 ≤ 9223372036854775807) :
    Calls Try.prog 9 #[.int .i64 x1, .int .i64 x2] w fun e w' => e = .returned (.bool true) ∧ Below w.heap.size w w' := by
  obtain ⟨y, hy, ey'⟩ := modU x1 60 (by omega) (by omega)
  obtain ⟨z, hz, ez'⟩ := modU x2 200 (by omega) (by omega)
  have ey : wrap64 ((IntKind.u64.wrap x1).tmod 60) = (y : Int) := ey'
  have ez : wrap64 ((IntKind.u64.wrap x2).tmod 200) = (z : Int) := ez'
  clear ey' ez'
  obtain ⟨n, hn⟩ : ∃ n, 4 + y = n := ⟨_, rfl⟩
  obtain ⟨k, hk⟩ : ∃ k, 1 + z = k := ⟨_, rfl⟩
  have en : 4 + (y : Int) = (n : Int) := by omega
  have ek : 1 + (z : Int) = (k : Int) := by omega
  have hn2 : 4 ≤ n ∧ n ≤ 64 := by omega
  have hk2 : 1 ≤ k ∧ k ≤ 200 := by omega
  clear hn hk hy hz
  have htk : 1 ≤ takesN k ∧ takesN k ≤ 4 := by unfold takesN; omega
  have htk0 : ¬ takesN k = 0 := by omega
  obtain ⟨s, hs⟩ : ∃ s, (n - 2) / 2 = s := ⟨_, rfl⟩
  have es : ((n : Int) - 2) / 2 = (s : Int) := by omega
  obtain ⟨rm, hrm⟩ : ∃ rm, s / takesN k = rm := ⟨_, rfl⟩
  have hrl : rm ≤ 64 := by rw [← hrm]; exact Nat.le_trans (Nat.div_le_self _ _) (by omega)
  have er : (s : Int) / ((takesN k : Nat) : Int) = (rm : Int) := by rw [← hrm]; simp
  have er2 : Int.tdiv (s : Int) ((takesN k : Nat) : Int) = (rm : Int) := by rw [Int.tdiv_eq_ediv_of_nonneg (by omega), er]
  have HRM := hid hrm
  have HSZ := hid hs
  have hs31 : s ≤ 31 := by omega
  have hrmT : rm * takesN k ≤ s := by rw [← hrm]; exact Nat.div_mul_le_self _ _
  clear hrm hs
  go_enter Try.func9, Try.ntmps9
  go_wp2_with fail
  refine (newDsk n w (by omega) (by omega)).mono ?_
  rintro e w1 ⟨d, I, rfl, hd, hb1⟩
  go_wp2_with fail
  refine (begin_new w.heap.size n w1 d I hd hb1.size (by omega)).mono ?_
  rintro e w2 ⟨j, I2, K2, rfl, hjd2, hK2, hI2, hk2'⟩
  have hs1 := hb1.size
  have hb2 : Below w.heap.size w w2 := hb1.trans (hk2'.below_of hs1 (fun b hb => (hd.bd b hb).1))
  obtain ⟨hq, hln⟩ := quiet_begin n hn2.1
  have hF2 : FitJ (beginD (newD n)) n := ((fitJ_new n).write _ _).sure _ _
  generalize beginD (newD n) = D0 at *
  clear hd hb1 hk2'
  have hs2 := hb2.size
  go_wp2_with fail
  refine (stays_any w2).mono ?_
  rintro e w3 ⟨rfl, hb3⟩
  have hjd3 := hjd2.below hb3
  have hb3' := hb2.trans (hb3.mono hs2)
  clear hjd2 hb2 hb3
  go_wp2_with fail
  refine (refTakes_any k (by omega) w3).mono ?_
  rintro e w4 ⟨rfl, rfl⟩
  go_wp2_with fail
  have hs4 := hb3'.size
  go_loopw [12] (fun i wr => ∃ (m : Nat) (D : Dk) (I K : Nat → Prop), m ≤ rm + 2 ∧ i = .int .i64 m ∧ Jd w.heap.size wr D (roomJ k (min m rm)) j d I K ∧ Quiet D ∧ FitJ D n ∧ Below w.heap.size w wr) (fun i _ => rm + 2 - (intOf i).toNat)
  case atStart => exact ⟨0, D0, I2, K2, Nat.zero_le _, rfl, by simpa [roomJ] using hjd3, hq, hF2, hb3'⟩
  case round =>
    clear hjd3 hq hF2 hln hb3'
    obtain ⟨m, D, I, K, hm, rfl, hjd, hq, hF, hb⟩ := hrel
    have hln := hF.len
    have hszD : sizeJ D = s := by unfold sizeJ; rw [hln]; exact HSZ.out
    by_cases hmr : m < rm + 2
    · obtain ⟨w5, hmk, hown5, hb5⟩ := mkz wr k (by omega)
      have hbs := hb.size
      have hjd5 := hjd.below hb5
      have hb5' := hb.trans (hb5.mono hbs)
      have hs5 := hb5.size
      have hgn : ¬ (I wr.heap.size ∨ K wr.heap.size) := fun e => by have := (hjd.lt _ e).2; omega
      have hlim : min m rm * takesN k ≤ s := Nat.le_trans (Nat.mul_le_mul_right _ (Nat.min_le_right m rm)) hrmT
      have hO := roomJ_ok (k := k) (i := min m rm) (n := 64) hk2 (by omega) (by omega)
      have hmay := roomJ_may (D := D) (k := k) (i := min m rm) (rm := rm) hk2 (by rw [hszD]; exact HRM.out.symm)
      have hsl := own_sl hown5
      clear hown5 hb5 hb hjd
      go_wp2_with fail
      generalize wr.heap.size = g5 at *
      refine (append_any w.heap.size n w5 D _ j d I K hjd5 hF (by omega) (by omega) hO g5 0 k k _ hsl hgn).mono ?_
      rintro e w6 ⟨rfl, I6, K6, s6⟩
      have hb6 : Below w.heap.size w w6 := hb5'.trans (s6.kp.below_of (by omega) (fun b hb => (hjd5.lt b hb).1))
      have hF6 := hF.app (roomJ k (min m rm)) (List.replicate k 0)
      by_cases hmm : m < rm
      · have e1 : min m rm = m := by omega
        rw [e1] at s6 hF6 hmay hO hlim ⊢
        rw [if_pos hmm] at hmay
        obtain ⟨a1, a2, a3⟩ := hq.app (show (roomJ k m).half < 2 by simp [roomJ]) (by omega) (by rw [hszD]; exact hlim) hmay
        have hO' := roomJ_ok (k := k) (i := m + 1) (n := 64) hk2 (by omega) (by have := Nat.mul_le_mul_right (takesN k) (show m + 1 ≤ rm from hmm); omega)
        have x1 : (appS D (roomJ k m) (List.replicate k 0)).2.2 = 0 := by rw [a1]
        have x2 : (appS D (roomJ k m) (List.replicate k 0)).2.1 = roomJ k (m + 1) := by rw [a1]; exact roomJ_add k m
        rw [x2] at s6
        rw [x1]
        have hjd6 := s6.jd
        generalize (appS D (roomJ k m) (List.replicate k 0)).1 = D6 at *
        have em : min ((m : Int) + 1) (rm : Int) = ((m + 1 : Nat) : Int) := by omega
        have em2 : min (m + 1) rm = m + 1 := by omega
        clear s6 hmay a1 a3 x1 x2 e1 hjd5 hb5' hsl hmk hgn hlim hq hF
        go_wp2_with fail
        refine (all_any w.heap.size w6 _ j d K6 hjd6.jn hO').mono ?_
        rintro e w7 ⟨A7, c7, vs7, E7, rfl, hown7, _, _, hb7⟩
        have hb7' := hb6.trans (hb7.mono hb6.size)
        have hjd7 := hjd6.below hb7
        have hal : (allJ (roomJ k (m + 1))).length = m + 1 := by simp [allJ, roomJ]
        rw [hal]
        clear hown7 hb7 hjd6 hal
        go_wp2_with fail
        go_light
        exact ⟨⟨m + 1, D6, I6, K6, by omega, by go_num, by rw [em2]; exact hjd7, a2, hF6, hb7'⟩, by simp [intOf]; omega⟩
      · have e1 : min m rm = rm := by omega
        rw [e1] at s6 hF6 hmay hO hlim ⊢
        rw [if_neg (by omega)] at hmay
        have x0 : appS D (roomJ k rm) (List.replicate k 0) = (D, roomJ k rm, 5) := by unfold appS; rw [if_pos (by omega), hmay]
        rw [x0] at s6 ⊢
        simp only at s6 ⊢
        have hjd6 := s6.jd
        have em : min ((m : Int) + 1) (rm : Int) = (rm : Int) := by omega
        have em2 : min (m + 1) rm = rm := by omega
        clear s6 hmay x0 e1 hjd5 hb5' hsl hmk hgn hlim hF6
        go_wp2_with fail
        refine (all_any w.heap.size w6 _ j d K6 hjd6.jn hO).mono ?_
        rintro e w7 ⟨A7, c7, vs7, E7, rfl, hown7, _, _, hb7⟩
        have hb7' := hb6.trans (hb7.mono hb6.size)
        have hjd7 := hjd6.below hb7
        have hal : (allJ (roomJ k rm)).length = rm := by simp [allJ, roomJ]
        rw [hal]
        clear hown7 hb7 hjd6 hal
        go_wp2_with fail
        go_light
        exact ⟨⟨m + 1, D, I6, K6, by omega, by go_num, by rw [em2]; exact hjd7, hq, hF, hb7'⟩, by simp [intOf]; omega⟩
    · obtain rfl : m = rm + 2 := by omega
      go_wp2_with fail
      go_ret
      exact ⟨rfl, hb⟩
end Go.Proofs.Ytfhlidlmipleaaa
