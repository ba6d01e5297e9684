/-
  Contract of Open.
-/
import Derived.Test.YtfhlidlmipleaaaJnC
namespace Go.Proofs.Ytfhlidlmipleaaa
set_option linter.unusedVariables false
set_option linter.unusedSimpArgs false
open Go Go.RowKit LM

def openL (D : Dk) : Nat → Jn → Jn
  | 0, J => J
  | f + 1, J => match readN D J with
    | none => J
    | some l => openL D f (addJ J l)
def startJ (D : Dk) : Jn := ⟨(curN D 2).1, (curN D 2).2, [], 0, false⟩
def openJ (D : Dk) : Jn := openL D (sizeJ D + 1) (startJ D)
theorem readN_room {D : Dk} {J : Jn} {l : List UInt8} (h : readN D J = some l) : l = entJ D J ∧ takesN (lenJ D J) ≤ sizeJ D - J.used ∧ l.length ≤ lenJ D J := by
  unfold readN at h
  split at h
  · cases h
  · split at h
    · cases h
    · split at h
      · injection h with h
        exact ⟨h.symm, by omega, by rw [← h]; unfold entJ; rw [List.length_take]; omega⟩
      · cases h
theorem takesN_mono {a b : Nat} (h : a ≤ b) : takesN a ≤ takesN b := by unfold takesN; omega
/-- after an entry was read and noted -/
theorem JOk.read {D : Dk} {J : Jn} {l : List UInt8} (h : JOk J) (hu : J.used ≤ sizeJ D) (hc : J.all.length ≤ J.used) (hs : sizeJ D ≤ 511) (hr : readN D J = some l) (h1 : 1 ≤ l.length) (h8 : l.length ≤ 8192) : JOk (addJ J l) ∧ (addJ J l).used ≤ sizeJ D ∧ (addJ J l).all.length ≤ (addJ J l).used ∧ J.used < (addJ J l).used := by
  obtain ⟨_, h3, h4⟩ := readN_room hr
  have h5 := takesN_mono h4
  have h6 : 1 ≤ takesN l.length := by unfold takesN; omega
  have e1 : (addJ J l).used = J.used + takesN l.length := rfl
  have e2 : (addJ J l).all = J.all ++ [l] := rfl
  refine ⟨⟨h.half, h.gen, by rw [e1]; omega, by rw [e2, List.length_append]; simp; omega, fun x hx => ?_⟩, by rw [e1]; omega, by rw [e1, e2, List.length_append]; simp; omega, by rw [e1]; omega⟩
  rw [e2] at hx
  rcases List.mem_append.1 hx with hx | hx
  · exact h.ent x hx
  · simp at hx; subst hx; exact ⟨h1, h8⟩
set_option maxRecDepth 100000 in
set_option maxHeartbeats 1600000 in
theorem open_nil (w : World) : Calls Try.prog 64 #[.pointer none] w fun e w' => e = .returned (.tuple #[.pointer none, .int .i64 1]) ∧ w' = w := by
  go_enter Try.func64, Try.ntmps64
  go_wp2_with fail
  refine (able_nil w).mono ?_
  rintro e w1 ⟨rfl, rfl⟩
  go_wp2_with fail
  refine bodyPost_ret (v := .tuple #[.pointer none, .int .i64 1]) (by simp [results, Try.results64, go_sem]) rfl ⟨rfl, rfl⟩
set_option maxRecDepth 100000 in
set_option maxHeartbeats 1600000 in
theorem open_small (base : Nat) (w : World) (D : Dk) (d : Nat) (I : Nat → Prop) (h : Dsk base w D d I) (hl : D.stay.length < 4) : Calls Try.prog 64 #[.pointer (some ⟨d, 0, none⟩)] w fun e w' => e = .returned (.tuple #[.pointer none, .int .i64 1]) ∧ w' = w := by
  have hd : decide (4 ≤ (D.stay.length : Int)) = false := decide_eq_false (by omega)
  go_enter Try.func64, Try.ntmps64
  go_wp2_with fail
  refine (able_any base w D d I h).mono ?_
  rintro e w1 ⟨rfl, rfl⟩
  rw [hd]
  clear hd
  go_wp2_with fail
  refine bodyPost_ret (v := .tuple #[.pointer none, .int .i64 1]) (by simp [results, Try.results64, go_sem]) rfl ⟨rfl, rfl⟩
set_option maxRecDepth 100000 in
set_option maxHeartbeats 1600000 in
theorem open_off (base : Nat) (w : World) (D : Dk) (d : Nat) (I : Nat → Prop) (h : Dsk base w D d I) (hl : 4 ≤ D.stay.length) (ho : D.off = true) : Calls Try.prog 64 #[.pointer (some ⟨d, 0, none⟩)] w fun e w' => e = .returned (.tuple #[.pointer none, .int .i64 2]) ∧ Below w.heap.size w w' := by
  have hd : decide (4 ≤ (D.stay.length : Int)) = true := decide_eq_true (by omega)
  have e3 : curE D = 2 := by unfold curE; rw [if_pos ho]
  go_enter Try.func64, Try.ntmps64
  go_wp2_with fail
  refine (able_any base w D d I h).mono ?_
  rintro e w1 ⟨rfl, rfl⟩
  rw [hd]
  clear hd
  go_wp2_with fail
  refine (current_any base w1 D d I h (by omega)).mono ?_
  rintro e w2 ⟨rfl, hb2⟩
  rw [e3]
  clear e3
  go_wp2_with fail
  refine bodyPost_ret (v := .tuple #[.pointer none, .int .i64 2]) (by simp [results, Try.results64, go_sem]) rfl ⟨rfl, hb2⟩
set_option maxRecDepth 100000 in
set_option maxHeartbeats 1600000 in
theorem open_form (base : Nat) (w : World) (D : Dk) (d : Nat) (I : Nat → Prop) (h : Dsk base w D d I) (hl : 4 ≤ D.stay.length) (ho : D.off = false) (h0 : (curN D 2).1 = 0) : Calls Try.prog 64 #[.pointer (some ⟨d, 0, none⟩)] w fun e w' => e = .returned (.tuple #[.pointer none, .int .i64 3]) ∧ Below w.heap.size w w' := by
  have hd : decide (4 ≤ (D.stay.length : Int)) = true := decide_eq_true (by omega)
  have hn : ¬ D.off = true := by rw [ho]; exact Bool.false_ne_true
  have e3 : curE D = 0 := by unfold curE; rw [if_neg hn]
  have e1 : curG D = 0 := by unfold curG; rw [if_neg hn, h0]
  go_enter Try.func64, Try.ntmps64
  go_wp2_with fail
  refine (able_any base w D d I h).mono ?_
  rintro e w1 ⟨rfl, rfl⟩
  rw [hd]
  clear hd
  go_wp2_with fail
  refine (current_any base w1 D d I h (by omega)).mono ?_
  rintro e w2 ⟨rfl, hb2⟩
  rw [e3, e1]
  clear e3 e1
  go_wp2_with fail
  refine bodyPost_ret (v := .tuple #[.pointer none, .int .i64 3]) (by simp [results, Try.results64, go_sem]) rfl ⟨rfl, hb2⟩
set_option maxRecDepth 100000 in
set_option maxHeartbeats 3200000 in
theorem open_any (base : Nat) (w : World) (D : Dk) (d : Nat) (I : Nat → Prop) (h : Dsk base w D d I) (hbase : base ≤ w.heap.size) (hl : 4 ≤ D.stay.length ∧ D.stay.length ≤ 1000) (ho : D.off = false) (h0 : (curN D 2).1 ≠ 0) (hg9 : (curN D 2).1 < 9223372036854775807) : Calls Try.prog 64 #[.pointer (some ⟨d, 0, none⟩)] w fun e w' => ∃ j K, e = .returned (.tuple #[.pointer (some ⟨j, 0, none⟩), .int .i64 0]) ∧ Jd base w' D (openJ D) j d I K ∧ (∀ b, K b → w.heap.size ≤ b) ∧ JOk (openJ D) ∧ (openJ D).used ≤ sizeJ D ∧ Below w.heap.size w w' := by
  have hd : decide (4 ≤ (D.stay.length : Int)) = true := decide_eq_true (by omega)
  have hn : ¬ D.off = true := by rw [ho]; exact Bool.false_ne_true
  have e3 : curE D = 0 := by unfold curE; rw [if_neg hn]
  have e1 : curG D = (curN D 2).1 := by unfold curG; rw [if_neg hn]
  have e2 : curH D = (curN D 2).2 := by unfold curH; rw [if_neg hn]
  have hlt := curN_lt D 2
  have hsz : sizeJ D ≤ 511 := sizeJ_le (by omega)
  have HO : Hid (openJ D = openL D (sizeJ D + 1) ⟨(curN D 2).1, (curN D 2).2, [], 0, false⟩) := hid rfl
  have q0 : ((((curN D 2).1 : Nat) : Int) == 0) = false := by simpa using h0
  go_enter Try.func64, Try.ntmps64
  go_wp2_with fail
  refine (able_any base w D d I h).mono ?_
  rintro e w1 ⟨rfl, rfl⟩
  rw [hd]
  clear hd
  go_wp2_with fail
  refine (current_any base w1 D d I h (by omega)).mono ?_
  rintro e w2 ⟨rfl, hb2⟩
  rw [e3, e1, e2]
  clear e3 e1 e2
  generalize (curN D 2).1 = gen at *
  generalize (curN D 2).2 = half at *
  have h2 := h.below hb2
  have hba := hb2.alloc hb2.size (.cells #[.pointer (some ⟨d, 0, none⟩), .int .u64 gen, .int .i64 half, .slice none 0 0, .int .i64 0, .bool false] 201)
  have hw2 := hb2.size
  have hjd : Jd base (w2.alloc (.cells #[.pointer (some ⟨d, 0, none⟩), .int .u64 gen, .int .i64 half, .slice none 0 0, .int .i64 0, .bool false] 201)) D ⟨gen, half, [], 0, false⟩ w2.heap.size d I (fun b => b = w2.heap.size) := by
    refine ⟨h2.below ((Below.refl _ _).alloc (Nat.le_refl _) _), ⟨none, 0, [], fun _ => False, ⟨heap_alloc_new w2 _, World.ownsRow_nil _ _ _ _, fun k hk => absurd hk (by simp), fun _ h => h.elim, by omega, by simp [Value.ownBlock], fun h => h, fun _ _ h => h⟩, fun b => by simp [Value.ownBlock]⟩, fun b hb e => by have := (h2.bd b hb).2; omega⟩
  have hO0 : JOk ⟨gen, half, [], 0, false⟩ := ⟨hlt.2, hg9, by simp, by simp, by simp⟩
  have hK0 : ∀ b, b = w2.heap.size → w1.heap.size ≤ b := fun b hb => by omega
  have q0n : ((gen : Int) != 0) = true := by simpa using h0
  go_wp2_with fail
  generalize w2.alloc (.cells #[.pointer (some ⟨d, 0, none⟩), .int .u64 gen, .int .i64 half, .slice none 0 0, .int .i64 0, .bool false] 201) = w3 at *
  generalize w2.heap.size = j at *
  refine (readj_any base w3 D _ j d I _ hjd (by omega) (by omega) ho hO0 (Nat.zero_le _)).mono ?_
  rintro e w4 ⟨v, rfl, hb4, hv⟩
  have hs3 := hba.size
  have hb14 := hba.trans (hb4.mono hs3)
  have hjd4 := hjd.below hb4
  have hinit : ∃ (f : Nat) (J : Jn) (K : Nat → Prop), sizeJ D - J.used < f ∧ openL D f J = openJ D ∧ Jd base w4 D J j d I K ∧ (∀ b, K b → w1.heap.size ≤ b) ∧ JOk J ∧ J.used ≤ sizeJ D ∧ J.all.length ≤ J.used ∧ Below w1.heap.size w1 w4 ∧
      ((readN D J = none ∧ v = .slice none 0 0) ∨ ∃ l g c, readN D J = some l ∧ v = .slice (some ⟨g, 0, none⟩) l.length c ∧ 1 ≤ l.length ∧ l.length ≤ 8192 ∧ Sl w4 1 (.slice (some ⟨g, 0, none⟩) l.length c) (B8 l) ∧ w1.heap.size ≤ g ∧ g < w4.heap.size ∧ ¬ (I g ∨ K g)) ∧ sizeJ D - J.used ≤ sizeJ D := by
    refine ⟨sizeJ D + 1, ⟨gen, half, [], 0, false⟩, _, by simp, HO.out.symm, hjd4, hK0, hO0, Nat.zero_le _, by simp, hb14, ?_, by simp⟩
    rcases hv with hv | ⟨l, g, c, e1, e2, e3, e4, e5, e6, e7⟩
    · exact .inl hv
    · refine .inr ⟨l, g, c, e1, e2, e3, e4, own_sl e5, by omega, e7, fun e => by have := (hjd.lt g e).2; omega⟩
  clear hv hjd4 hb4 hjd hO0 hK0 hb14 hba h2 h hb2 HO hw2 q0 h0
  go_wp2_with fail
  go_loopw [8, 6] (fun v e wr => e = .int .i64 0 ∧ ∃ (f : Nat) (J : Jn) (K : Nat → Prop), sizeJ D - J.used < f ∧ openL D f J = openJ D ∧ Jd base wr D J j d I K ∧ (∀ b, K b → w1.heap.size ≤ b) ∧ JOk J ∧ J.used ≤ sizeJ D ∧ J.all.length ≤ J.used ∧ Below w1.heap.size w1 wr ∧
      ((readN D J = none ∧ v = .slice none 0 0) ∨ ∃ l g c, readN D J = some l ∧ v = .slice (some ⟨g, 0, none⟩) l.length c ∧ 1 ≤ l.length ∧ l.length ≤ 8192 ∧ Sl wr 1 (.slice (some ⟨g, 0, none⟩) l.length c) (B8 l) ∧ w1.heap.size ≤ g ∧ g < wr.heap.size ∧ ¬ (I g ∨ K g)) ∧ sizeJ D - J.used ≤ sizeJ D)
    (fun v e wr => sizeJ D - (intOf ((wr.cell? ⟨j, 4, none⟩).getD undef)).toNat)
  case atStart => exact ⟨rfl, hinit⟩
  case round =>
    clear hinit
    obtain ⟨rfl, f, J, K, hf, hop, hjd, hK, hO, hu, hc, hbw, hv, _⟩ := hrel
    rcases hv with ⟨hN, rfl⟩ | ⟨l, g, c, hN, rfl, hl1, hl2, hs, hg1, hg2, hgn⟩
    · have hfin : openJ D = J := by
        rw [← hop]
        obtain ⟨f, rfl⟩ : ∃ f', f = f' + 1 := ⟨f - 1, by omega⟩
        unfold openL
        rw [hN]
      have HF := hid hfin
      clear hfin hop hN
      go_wp2_with fail
      refine bodyPost_ret (v := .tuple #[.pointer (some ⟨j, 0, none⟩), .int .i64 0]) (by simp [results, Try.results64, go_sem]) rfl ⟨j, K, rfl, by rw [HF.out]; exact hjd, hK, by rw [HF.out]; exact hO, by rw [HF.out]; exact hu, hbw⟩
    · have hop2 : ∃ f', sizeJ D - (addJ J l).used < f' ∧ openL D f' (addJ J l) = openJ D := by
        obtain ⟨f, rfl⟩ : ∃ f', f = f' + 1 := ⟨f - 1, by omega⟩
        unfold openL at hop
        rw [hN] at hop
        obtain ⟨_, _, _, h4⟩ := hO.read hu hc hsz hN hl1 hl2
        exact ⟨f, by omega, hop⟩
      obtain ⟨f2, hf2, hop2⟩ := hop2
      obtain ⟨hO2, hu2, hc2, hlt2⟩ := hO.read hu hc hsz hN hl1 hl2
      have hws := hbw.size
      have hbase1 : base ≤ wr.heap.size := by omega
      have hfew := hO.few
      have hus := hO.used
      have q4 : wr.cell? ⟨j, 4, none⟩ = some (.int .i64 J.used) := by
        obtain ⟨_, _, _, _, _, _, _, _, _, q4, _⟩ := hjd.jn.cells
        exact q4
      clear hop hN hf
      go_wp2_with fail
      refine (add_any base wr D J j d I K hjd hbase1 (by omega) (by omega) g 0 l.length c l hs (by omega) ⟨by omega, hg2⟩ hgn).mono ?_
      rintro e w6 ⟨rfl, K6, hjd6, hk6, hs6⟩
      have hb6 : Below w1.heap.size wr w6 := hk6.below_of hws hK
      have hbw6 := hbw.trans hb6
      have hK6 : ∀ b, K6 b → w1.heap.size ≤ b := fun b hb => by
        rcases hs6 b hb with e | e | e
        · exact hK b e
        · omega
        · omega
      clear hjd hs hk6 hb6 hs6 hgn
      go_wp2_with fail
      refine (readj_any base w6 D _ j d I K6 hjd6 (by omega) (by omega) ho hO2 hu2).mono ?_
      rintro e w7 ⟨v, rfl, hb7, hv⟩
      have hs6 := hbw6.size
      have hb17 := hbw6.trans (hb7.mono hs6)
      have hjd7 := hjd6.below hb7
      have q47 : w7.cell? ⟨j, 4, none⟩ = some (.int .i64 (addJ J l).used) := by
        obtain ⟨_, _, _, _, _, _, _, _, _, q4, _⟩ := hjd7.jn.cells
        exact q4
      have hfin : ((readN D (addJ J l) = none ∧ v = .slice none 0 0) ∨ ∃ l' g c, readN D (addJ J l) = some l' ∧ v = .slice (some ⟨g, 0, none⟩) l'.length c ∧ 1 ≤ l'.length ∧ l'.length ≤ 8192 ∧ Sl w7 1 (.slice (some ⟨g, 0, none⟩) l'.length c) (B8 l') ∧ w1.heap.size ≤ g ∧ g < w7.heap.size ∧ ¬ (I g ∨ K6 g)) := by
        rcases hv with hv | ⟨l', g', c', e1, e2, e3, e4, e5, e6, e7⟩
        · exact .inl hv
        · exact .inr ⟨l', g', c', e1, e2, e3, e4, own_sl e5, by omega, e7, fun e => by have := (hjd6.lt g' e).2; omega⟩
      clear hv hb7 hjd6 hbw6
      go_wp2_with fail
      go_light
      refine ⟨⟨rfl, f2, addJ J l, K6, hf2, hop2, hjd7, hK6, hO2, hu2, hc2, hb17, hfin, by omega⟩, ?_⟩
      rw [q4, q47]
      simp [intOf]
      omega
end Go.Proofs.Ytfhlidlmipleaaa
