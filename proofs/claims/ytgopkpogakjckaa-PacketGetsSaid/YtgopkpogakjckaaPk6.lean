/-
  Contract of packet's body: what a packet tells, as bytes.
-/
import Derived.Test.YtgopkpogakjckaaPk5
import Derived.Test.YtgopkpogakjckaaLsa7
import Derived.Test.YtgopkpogakjckaaPkP
namespace Go.Proofs.Ytgopkpogakjckaa
set_option linter.unusedVariables false
set_option linter.unusedSimpArgs false
open Go Go.RowKit SM LM PK

def hdsTo (l : List Hdr) (k : Nat) : List UInt8 := (l.take k).flatMap Hdr.bytes
def kysTo (l : List Ky) (k : Nat) : List UInt8 := (l.take k).flatMap Ky.bytes
def lssTo (l : List Lsa) (k : Nat) : List UInt8 := (l.take k).flatMap putB
theorem to_succ {α : Type} (f : α → List UInt8) (d : α) (l : List α) (k : Nat) (h : k < l.length) : (l.take (k + 1)).flatMap f = (l.take k).flatMap f ++ f (l.getD k d) := by
  have e : l.take (k + 1) = l.take k ++ [l[k]] := List.take_succ_eq_append_getElem h
  rw [e, List.flatMap_append, List.getD_eq_getElem?_getD, List.getElem?_eq_getElem h]
  simp
theorem getD_mem {α : Type} (d : α) (l : List α) (k : Nat) (h : k < l.length) : l.getD k d ∈ l := by
  rw [List.getD_eq_getElem?_getD, List.getElem?_eq_getElem h]
  exact List.getElem_mem h
def l0 : Lsa := ⟨0, 0, 0, 0, 0, [], 0, [], 0⟩
theorem lsAt_fst (l : List Lsa) (R : List LsR) (h : R.length = l.length) (k : Nat) (hk : k < l.length) : (lsAt (l.zip R) k).1 = l.getD k l0 ∧ lsAt (l.zip R) k ∈ l.zip R := by
  have hz : k < (l.zip R).length := by rw [List.length_zip]; omega
  refine ⟨?_, getD_mem _ _ _ hz⟩
  unfold lsAt
  rw [List.getD_eq_getElem?_getD, List.getD_eq_getElem?_getD, List.getElem?_eq_getElem hz, List.getElem?_eq_getElem hk]
  simp
/-- what body leaves -/
def BodyPost (P : Pkt) (w : World) (e : Ending) (w' : World) : Prop :=
  ((P.ty = 4 ∧ P.lsas.all Lsa.right = false) ∧ e = .returned (.tuple #[.slice none 0 0, .int .i64 1]) ∧ Below w.heap.size w w') ∨
  ((P.ty = 4 → P.lsas.all Lsa.right = true) ∧ ∃ A c n, e = .returned (.tuple #[.slice A n c, .int .i64 0]) ∧ w'.ownsRow w.heap.size 5 1 (.slice A n c) n (B8 (bodyB P)) ∧ Below w.heap.size w w')
set_option maxRecDepth 100000 in
set_option maxHeartbeats 3200000 in
theorem body_t5
    (P : Pkt) (A1 : Option Addr) (n1 c1 : Nat) (A2 : Option Addr) (n2 c2 : Nat) (A3 : Option Addr) (n3 c3 : Nat) (A4 : Option Addr) (n4 c4 : Nat) (R : List LsR) (w : World) (h : IsPk w P A1 n1 c1 A2 n2 c2 A3 n3 c3 A4 n4 c4 R) (hwf : WfP P) (s1 : n1 ≤ 20) (s2 : n2 ≤ 20) (s3 : n3 ≤ 20) (s4 : n4 ≤ 20)
    (hk : P.ty = 5) : Calls Try.prog 36 #[.agg (pkC P A1 n1 c1 A2 n2 c2 A3 n3 c3 A4 n4 c4)] w (BodyPost P w) := by
  have hn := h.lens
  have hnb := h.nbs
  have hhd := h.heads
  have hky := h.keys
  have hls := h.lsas
  have hrl := h.rl
  have heach := h.each
  clear h
  obtain ⟨ty, router, area, auth, mask, intv, dead, prio, dr, bdr, nbs, flags, seq, heads, keys, lsas⟩ := P
  obtain ⟨hn1, hn2, hn3, hn4⟩ := hn
  have hwf0 := hwf
  obtain ⟨_, _, _, _, _, _, _, _, _, _, _, hwq, hwh, hwk, hwl⟩ := hwf
  simp only at hn1 hn2 hn3 hn4 hnb hhd hky hls hrl heach hk hwq hwh hwk hwl
  subst hk
  have HN2 := hid hn2
  have HN3 := hid hn3
  have HN4 := hid hn4
  have HH := hid hhd
  have HNB := hid hnb
  have HK := hid hky
  have HL := hid hls
  clear hn1 hn2 hn3 hn4 hhd hnb hky hls
  have hal := (Below.refl w.heap.size w).alloc (Nat.le_refl _) (.cells (pkC ⟨5, router, area, auth, mask, intv, dead, prio, dr, bdr, nbs, flags, seq, heads, keys, lsas⟩ A1 n1 c1 A2 n2 c2 A3 n3 c3 A4 n4 c4) 40)
  have HC0 := hid ((blk_cells (heap_alloc_new w (.cells (pkC ⟨5, router, area, auth, mask, intv, dead, prio, dr, bdr, nbs, flags, seq, heads, keys, lsas⟩ A1 n1 c1 A2 n2 c2 A3 n3 c3 A4 n4 c4) 40))).1)
  have hz0 : (w.alloc (.cells (pkC ⟨5, router, area, auth, mask, intv, dead, prio, dr, bdr, nbs, flags, seq, heads, keys, lsas⟩ A1 n1 c1 A2 n2 c2 A3 n3 c3 A4 n4 c4) 40)).heap.size = w.heap.size + 1 := by simp
  have hbw : ∀ wr, Below (w.heap.size + 1) (w.alloc (.cells (pkC ⟨5, router, area, auth, mask, intv, dead, prio, dr, bdr, nbs, flags, seq, heads, keys, lsas⟩ A1 n1 c1 A2 n2 c2 A3 n3 c3 A4 n4 c4) 40)) wr → Below w.heap.size w wr := fun wr h => hal.trans (h.mono (by omega))
  have HBW := hid hbw
  clear hbw
  go_enter Try.func36, Try.ntmps36
  go_upto_region 1 with fail
  have k0 := HC0.out
  generalize w.alloc (.cells (pkC ⟨5, router, area, auth, mask, intv, dead, prio, dr, bdr, nbs, flags, seq, heads, keys, lsas⟩ A1 n1 c1 A2 n2 c2 A3 n3 c3 A4 n4 c4) 40) = w0 at *
  have HM : Hid (([] : List UInt8) = mainB ⟨5, router, area, auth, mask, intv, dead, prio, dr, bdr, nbs, flags, seq, heads, keys, lsas⟩) := by show _ = _; simp [mainB]
  have HA : Hid ((5 : Int) = 4 → lsas.all Lsa.right = true) := by show _ → _; intro h; simp at h
  generalize hM : ([] : List UInt8) = M at HM
  have hown : w0.ownsRow (w.heap.size + 1) 5 1 (.slice none 0 0) 0 (B8 M) := by rw [← hM]; exact own_nilE _ _ _ _
  clear hM k0
  have hb1 := Below.refl (w.heap.size + 1) w0
  -- here: W, A n c with 'hown : W.ownsRow (w.heap.size + 1) .. n (B8 M)', 'hb1 : Below (w.heap.size + 1) w0 w1', HM : Hid (M = mainB P), hnM : n ≤ 15000, HA : Hid (P.ty = 4 → ..)
  have k1 : ∀ i, w0.cell? ⟨w.heap.size, i, none⟩ = _ := fun i => (hb1.cell (p := ⟨w.heap.size, i, none⟩) (by simp)).trans (HC0.out i)
  go_upto_region 24 with fail
  clear k1
  have hB1 := hb1.size
  go_loopw [4, 83] (fun v i wr => ∃ (k : Nat) (A : Option Addr) (c : Nat), k ≤ n2 ∧ i = .int .i64 k ∧ v = .slice A (20 * k) c ∧ wr.ownsRow (w.heap.size + 1) 5 1 (.slice A (20 * k) c) (20 * k) (B8 (M ++ hdsTo heads k)) ∧ Below (w.heap.size + 1) w0 wr) (fun _ i _ => n2 - (intOf i).toNat)
  case atStart => exact ⟨0, none, 0, Nat.zero_le _, rfl, rfl, by simpa [hdsTo] using hown, hb1⟩
  case round =>
    obtain ⟨k, A', c', hk, rfl, rfl, hownr, hbr⟩ := hrel
    clear hown hb1 hB1
    have hsz := hbr.size
    by_cases hlt : k < n2
    · have hr := HH.out.below (HBW.out wr hbr)
      obtain ⟨b, off, rfl, hbl, q0, q1, q2, q3, q4, q5, q6⟩ := hr.hd hlt
      clear hr
      have hlt' : k < heads.length := by rw [HN2.out]; exact hlt
      have HS : Hid (hdsTo heads (k + 1) = hdsTo heads k ++ (hdAt heads k).bytes) := to_succ Hdr.bytes hd0 heads k hlt'
      obtain ⟨x1, x2, x3, x4, x5, x6, x7⟩ := hwh _ (getD_mem hd0 heads k hlt')
      change isU (hdAt heads k).id at x3
      change isU (hdAt heads k).adv at x4
      change 0 ≤ (hdAt heads k).sum ∧ (hdAt heads k).sum < 65536 at x6
      clear x1 x2 x5 x7 hlt'
      generalize hdAt heads k = X at *
      simp only [isU] at x3 x4
      go_wp2_with fail
      refine (putHeader_any X.age X.ty X.id X.adv X.seq X.sum X.len _ x3 x4 x6).mono ?_
      rintro e w3 ⟨A3, c3, rfl, hown3, hb3⟩
      have hbr3 := (hbr.alloc (by omega) (.cells (hdC X).toArray 96)).trans (hb3.mono (by simp; omega))
      have hownr3 := own_below (hownr.alloc (.cells (hdC X).toArray 96)) hb3
      have hsz3 := hbr3.size
      have hsl3 := own_sl hown3
      clear hownr hb3 hown3 q0 q1 q2 q3 q4 q5 q6
      go_wp2_with (at_builtin; refine wpList_app rfl (.tmp 87) (.tmp 89) st_bytes rfl (w.heap.size + 1) rfl hownr3 rfl hsl3 (B8_one _) (by simp [maxLen]; omega) (by omega) (by omega) ?_)
      intro A4 c4 w4 hown4 hg4 _
      have hbr4 := hbr3.trans (grown_below hownr3 hg4 (by omega))
      rw [← B8_append] at hown4
      clear hg4 hownr3 hbr3 hsl3
      go_wp2_with fail
      go_light
      have hk12 : 20 * k + 20 = 20 * (k + 1) := by omega
      rw [hk12] at hown4 ⊢
      refine ⟨⟨k + 1, A4, c4, by omega, by go_num, rfl, ?_, hbr4⟩, by simp [intOf]; omega⟩
      rw [HS.out, ← List.append_assoc]
      exact hown4
    · obtain rfl : k = n2 := by omega
      go_wp2_with fail
      go_ret2
      refine .inr ⟨(by intro hh; first | exact HA.out hh | exact HA.out trivial), _, c', _, rfl, own_base (base := w.heap.size + 1) ?_ (by omega), HBW.out wr hbr⟩
      have e : bodyB ⟨5, router, area, auth, mask, intv, dead, prio, dr, bdr, nbs, flags, seq, heads, keys, lsas⟩ = M ++ hdsTo heads k := by
        unfold bodyB hdsTo
        rw [HM.out]
        simp only
        rw [List.take_of_length_le (by rw [HN2.out]; omega)]
      rw [e]
      exact hownr
set_option maxRecDepth 100000 in
set_option maxHeartbeats 3200000 in
theorem body_t1
    (P : Pkt) (A1 : Option Addr) (n1 c1 : Nat) (A2 : Option Addr) (n2 c2 : Nat) (A3 : Option Addr) (n3 c3 : Nat) (A4 : Option Addr) (n4 c4 : Nat) (R : List LsR) (w : World) (h : IsPk w P A1 n1 c1 A2 n2 c2 A3 n3 c3 A4 n4 c4 R) (hwf : WfP P) (s1 : n1 ≤ 20) (s2 : n2 ≤ 20) (s3 : n3 ≤ 20) (s4 : n4 ≤ 20)
    (hk : P.ty = 1) : Calls Try.prog 36 #[.agg (pkC P A1 n1 c1 A2 n2 c2 A3 n3 c3 A4 n4 c4)] w (BodyPost P w) := by
  have hn := h.lens
  have hnb := h.nbs
  have hhd := h.heads
  have hky := h.keys
  have hls := h.lsas
  have hrl := h.rl
  have heach := h.each
  clear h
  obtain ⟨ty, router, area, auth, mask, intv, dead, prio, dr, bdr, nbs, flags, seq, heads, keys, lsas⟩ := P
  obtain ⟨hn1, hn2, hn3, hn4⟩ := hn
  have hwf0 := hwf
  obtain ⟨_, _, _, _, _, _, _, _, _, _, _, hwq, hwh, hwk, hwl⟩ := hwf
  simp only at hn1 hn2 hn3 hn4 hnb hhd hky hls hrl heach hk hwq hwh hwk hwl
  subst hk
  have HN2 := hid hn2
  have HN3 := hid hn3
  have HN4 := hid hn4
  have HH := hid hhd
  have HNB := hid hnb
  have HK := hid hky
  have HL := hid hls
  clear hn1 hn2 hn3 hn4 hhd hnb hky hls
  have hal := (Below.refl w.heap.size w).alloc (Nat.le_refl _) (.cells (pkC ⟨1, router, area, auth, mask, intv, dead, prio, dr, bdr, nbs, flags, seq, heads, keys, lsas⟩ A1 n1 c1 A2 n2 c2 A3 n3 c3 A4 n4 c4) 40)
  have HC0 := hid ((blk_cells (heap_alloc_new w (.cells (pkC ⟨1, router, area, auth, mask, intv, dead, prio, dr, bdr, nbs, flags, seq, heads, keys, lsas⟩ A1 n1 c1 A2 n2 c2 A3 n3 c3 A4 n4 c4) 40))).1)
  have hz0 : (w.alloc (.cells (pkC ⟨1, router, area, auth, mask, intv, dead, prio, dr, bdr, nbs, flags, seq, heads, keys, lsas⟩ A1 n1 c1 A2 n2 c2 A3 n3 c3 A4 n4 c4) 40)).heap.size = w.heap.size + 1 := by simp
  have hbw : ∀ wr, Below (w.heap.size + 1) (w.alloc (.cells (pkC ⟨1, router, area, auth, mask, intv, dead, prio, dr, bdr, nbs, flags, seq, heads, keys, lsas⟩ A1 n1 c1 A2 n2 c2 A3 n3 c3 A4 n4 c4) 40)) wr → Below w.heap.size w wr := fun wr h => hal.trans (h.mono (by omega))
  have HBW := hid hbw
  clear hbw
  go_enter Try.func36, Try.ntmps36
  go_upto_region 1 with fail
  have k0 := HC0.out
  generalize w.alloc (.cells (pkC ⟨1, router, area, auth, mask, intv, dead, prio, dr, bdr, nbs, flags, seq, heads, keys, lsas⟩ A1 n1 c1 A2 n2 c2 A3 n3 c3 A4 n4 c4) 40) = w0 at *
  have HA : Hid ((1 : Int) = 4 → lsas.all Lsa.right = true) := by show _ → _; intro h; simp at h
  have hnb := HNB.out.below hal
  go_wp2_with fail
  refine (greeting_any ⟨1, router, area, auth, mask, intv, dead, prio, dr, bdr, nbs, flags, seq, heads, keys, lsas⟩ A1 n1 c1 w0 hwf0 hnb (by omega)).mono ?_
  rintro e w1 ⟨A, c, n, rfl, hown, hb1⟩
  have hnM : n ≤ 200 := by
    have q1 := (own_sl hown).len.1
    have q2 := greetB_length ⟨1, router, area, auth, mask, intv, dead, prio, dr, bdr, nbs, flags, seq, heads, keys, lsas⟩
    have q3 := hnb.lenN.1
    rw [U32_length] at q3
    simp only at q2
    omega
  have HM0 : Hid (greetB ⟨1, router, area, auth, mask, intv, dead, prio, dr, bdr, nbs, flags, seq, heads, keys, lsas⟩ = mainB ⟨1, router, area, auth, mask, intv, dead, prio, dr, bdr, nbs, flags, seq, heads, keys, lsas⟩) := by show _ = _; simp [mainB]
  generalize hM : greetB ⟨1, router, area, auth, mask, intv, dead, prio, dr, bdr, nbs, flags, seq, heads, keys, lsas⟩ = M at *
  have HM := HM0
  clear hM HM0 hnb
  rw [hz0] at hown hb1
  -- here: W, A n c with 'hown : W.ownsRow (w.heap.size + 1) .. n (B8 M)', 'hb1 : Below (w.heap.size + 1) w0 w1', HM : Hid (M = mainB P), hnM : n ≤ 15000, HA : Hid (P.ty = 4 → ..)
  have k1 : ∀ i, w1.cell? ⟨w.heap.size, i, none⟩ = _ := fun i => (hb1.cell (p := ⟨w.heap.size, i, none⟩) (by simp)).trans (HC0.out i)
  go_upto_region 24 with fail
  clear k1
  have hB1 := hb1.size
  go_loopw [4, 83] (fun v i wr => ∃ (k : Nat) (A : Option Addr) (c : Nat), k ≤ n2 ∧ i = .int .i64 k ∧ v = .slice A (n + 20 * k) c ∧ wr.ownsRow (w.heap.size + 1) 5 1 (.slice A (n + 20 * k) c) (n + 20 * k) (B8 (M ++ hdsTo heads k)) ∧ Below (w.heap.size + 1) w0 wr) (fun _ i _ => n2 - (intOf i).toNat)
  case atStart => exact ⟨0, A, c, Nat.zero_le _, rfl, rfl, by simpa [hdsTo] using hown, hb1⟩
  case round =>
    obtain ⟨k, A', c', hk, rfl, rfl, hownr, hbr⟩ := hrel
    clear hown hb1 hB1
    have hsz := hbr.size
    by_cases hlt : k < n2
    · have hr := HH.out.below (HBW.out wr hbr)
      obtain ⟨b, off, rfl, hbl, q0, q1, q2, q3, q4, q5, q6⟩ := hr.hd hlt
      clear hr
      have hlt' : k < heads.length := by rw [HN2.out]; exact hlt
      have HS : Hid (hdsTo heads (k + 1) = hdsTo heads k ++ (hdAt heads k).bytes) := to_succ Hdr.bytes hd0 heads k hlt'
      obtain ⟨x1, x2, x3, x4, x5, x6, x7⟩ := hwh _ (getD_mem hd0 heads k hlt')
      change isU (hdAt heads k).id at x3
      change isU (hdAt heads k).adv at x4
      change 0 ≤ (hdAt heads k).sum ∧ (hdAt heads k).sum < 65536 at x6
      clear x1 x2 x5 x7 hlt'
      generalize hdAt heads k = X at *
      simp only [isU] at x3 x4
      go_wp2_with fail
      refine (putHeader_any X.age X.ty X.id X.adv X.seq X.sum X.len _ x3 x4 x6).mono ?_
      rintro e w3 ⟨A3, c3, rfl, hown3, hb3⟩
      have hbr3 := (hbr.alloc (by omega) (.cells (hdC X).toArray 96)).trans (hb3.mono (by simp; omega))
      have hownr3 := own_below (hownr.alloc (.cells (hdC X).toArray 96)) hb3
      have hsz3 := hbr3.size
      have hsl3 := own_sl hown3
      clear hownr hb3 hown3 q0 q1 q2 q3 q4 q5 q6
      go_wp2_with (at_builtin; refine wpList_app rfl (.tmp 87) (.tmp 89) st_bytes rfl (w.heap.size + 1) rfl hownr3 rfl hsl3 (B8_one _) (by simp [maxLen]; omega) (by omega) (by omega) ?_)
      intro A4 c4 w4 hown4 hg4 _
      have hbr4 := hbr3.trans (grown_below hownr3 hg4 (by omega))
      rw [← B8_append] at hown4
      clear hg4 hownr3 hbr3 hsl3
      go_wp2_with fail
      go_light
      have hk12 : n + 20 * k + 20 = n + 20 * (k + 1) := by omega
      rw [hk12] at hown4 ⊢
      refine ⟨⟨k + 1, A4, c4, by omega, by go_num, rfl, ?_, hbr4⟩, by simp [intOf]; omega⟩
      rw [HS.out, ← List.append_assoc]
      exact hown4
    · obtain rfl : k = n2 := by omega
      go_wp2_with fail
      go_ret2
      refine .inr ⟨(by intro hh; first | exact HA.out hh | exact HA.out trivial), _, c', _, rfl, own_base (base := w.heap.size + 1) ?_ (by omega), HBW.out wr hbr⟩
      have e : bodyB ⟨1, router, area, auth, mask, intv, dead, prio, dr, bdr, nbs, flags, seq, heads, keys, lsas⟩ = M ++ hdsTo heads k := by
        unfold bodyB hdsTo
        rw [HM.out]
        simp only
        rw [List.take_of_length_le (by rw [HN2.out]; omega)]
      rw [e]
      exact hownr
set_option maxRecDepth 100000 in
set_option maxHeartbeats 3200000 in
theorem body_t2
    (P : Pkt) (A1 : Option Addr) (n1 c1 : Nat) (A2 : Option Addr) (n2 c2 : Nat) (A3 : Option Addr) (n3 c3 : Nat) (A4 : Option Addr) (n4 c4 : Nat) (R : List LsR) (w : World) (h : IsPk w P A1 n1 c1 A2 n2 c2 A3 n3 c3 A4 n4 c4 R) (hwf : WfP P) (s1 : n1 ≤ 20) (s2 : n2 ≤ 20) (s3 : n3 ≤ 20) (s4 : n4 ≤ 20)
    (hk : P.ty = 2) : Calls Try.prog 36 #[.agg (pkC P A1 n1 c1 A2 n2 c2 A3 n3 c3 A4 n4 c4)] w (BodyPost P w) := by
  have hn := h.lens
  have hnb := h.nbs
  have hhd := h.heads
  have hky := h.keys
  have hls := h.lsas
  have hrl := h.rl
  have heach := h.each
  clear h
  obtain ⟨ty, router, area, auth, mask, intv, dead, prio, dr, bdr, nbs, flags, seq, heads, keys, lsas⟩ := P
  obtain ⟨hn1, hn2, hn3, hn4⟩ := hn
  have hwf0 := hwf
  obtain ⟨_, _, _, _, _, _, _, _, _, _, _, hwq, hwh, hwk, hwl⟩ := hwf
  simp only at hn1 hn2 hn3 hn4 hnb hhd hky hls hrl heach hk hwq hwh hwk hwl
  subst hk
  have HN2 := hid hn2
  have HN3 := hid hn3
  have HN4 := hid hn4
  have HH := hid hhd
  have HNB := hid hnb
  have HK := hid hky
  have HL := hid hls
  clear hn1 hn2 hn3 hn4 hhd hnb hky hls
  have hal := (Below.refl w.heap.size w).alloc (Nat.le_refl _) (.cells (pkC ⟨2, router, area, auth, mask, intv, dead, prio, dr, bdr, nbs, flags, seq, heads, keys, lsas⟩ A1 n1 c1 A2 n2 c2 A3 n3 c3 A4 n4 c4) 40)
  have HC0 := hid ((blk_cells (heap_alloc_new w (.cells (pkC ⟨2, router, area, auth, mask, intv, dead, prio, dr, bdr, nbs, flags, seq, heads, keys, lsas⟩ A1 n1 c1 A2 n2 c2 A3 n3 c3 A4 n4 c4) 40))).1)
  have hz0 : (w.alloc (.cells (pkC ⟨2, router, area, auth, mask, intv, dead, prio, dr, bdr, nbs, flags, seq, heads, keys, lsas⟩ A1 n1 c1 A2 n2 c2 A3 n3 c3 A4 n4 c4) 40)).heap.size = w.heap.size + 1 := by simp
  have hbw : ∀ wr, Below (w.heap.size + 1) (w.alloc (.cells (pkC ⟨2, router, area, auth, mask, intv, dead, prio, dr, bdr, nbs, flags, seq, heads, keys, lsas⟩ A1 n1 c1 A2 n2 c2 A3 n3 c3 A4 n4 c4) 40)) wr → Below w.heap.size w wr := fun wr h => hal.trans (h.mono (by omega))
  have HBW := hid hbw
  clear hbw
  go_enter Try.func36, Try.ntmps36
  go_upto_region 1 with fail
  have k0 := HC0.out
  generalize w.alloc (.cells (pkC ⟨2, router, area, auth, mask, intv, dead, prio, dr, bdr, nbs, flags, seq, heads, keys, lsas⟩ A1 n1 c1 A2 n2 c2 A3 n3 c3 A4 n4 c4) 40) = w0 at *
  have HA : Hid ((2 : Int) = 4 → lsas.all Lsa.right = true) := by show _ → _; intro h; simp at h
  have e1 : IntKind.u64.wrap (seq : Int) = (seq : Int) := IntWalk.u64_in _ (by omega)
  go_upto_region 6 with fail
  have kk : ∀ (x : WK (fun _ => False) w0) j, (wat x).cell? ⟨w.heap.size, j, none⟩ = _ := fun x j => (wat_cell (p := ⟨w.heap.size, j, none⟩) (by simp; omega) (by simp) x).trans (k0 j)
  have kk1 := fun x => kk x 11
  have kk2 := fun x => kk x 12
  simp at kk1 kk2
  clear kk
  refine wp_region_loud (fun _ => False)
    [(0, rowL [] (w0.heap.size) 5 1 (2) (B8 (be 2 1500))),
     (4, rowL [] (w0.heap.size) 5 1 (2) (B8 ([2, PK.u8 flags]))),
     (5, rowL [0, 4] (w0.heap.size) 5 1 (4) (B8 (be 2 1500 ++ [2, PK.u8 flags]))),
     (9, rowL [5] (w0.heap.size) 5 1 (8) (B8 (be 2 1500 ++ [2, PK.u8 flags] ++ be 4 seq)))]
    (fun _ => Fact.none) (by kernel_rfl) (by kernel_rfl) (.cons (rowL_ok _ _ _ _ _ _) (.cons (rowL_ok _ _ _ _ _ _) (.cons (rowL_ok _ _ _ _ _ _) (.cons (rowL_ok _ _ _ _ _ _) .nil)))) good_nothing sat_none (WX.out ?_)
  repeat (first | (refine wx_quietU (by rfl) (by rfl) (by rfl) (fun K hK => ?_); go_big_quiet_op; refine hK _ ?_; clear hK K) | (refine wx_quietG (by rfl) (by rfl) (by rfl) (by rfl) (by rfl) (fun K hK => ?_); go_big_quiet_op; refine hK _ ?_; clear hK K) | (refine wx_skipG (by rfl) (by rfl) (by rfl) (fun K hK => ?_); go_simp; refine hK _ ?_; clear hK K) | (refine wx_skipN (by rfl) (by rfl) (by rfl) (fun K hK => ?_); go_simp; refine hK _ ?_; clear hK K))
  refine wx_loudU (us := []) (by rfl) (by rfl) (fun S wS hC hS hU => runs_enter (f := 38) (by go_simp <;> rfl) ?_) (fun v hv K hK => ?_)
  · exact pput_0 2 _ _ hC.size (by omega) (by omega) (by omega)
  obtain ⟨RA0, Rc0, rfl⟩ := hv; (go_simp; refine hK _ ?_; clear hK K)
  repeat (first | (refine wx_quietU (by rfl) (by rfl) (by rfl) (fun K hK => ?_); go_big_quiet_op; refine hK _ ?_; clear hK K) | (refine wx_quietG (by rfl) (by rfl) (by rfl) (by rfl) (by rfl) (fun K hK => ?_); go_big_quiet_op; refine hK _ ?_; clear hK K) | (refine wx_skipG (by rfl) (by rfl) (by rfl) (fun K hK => ?_); go_simp; refine hK _ ?_; clear hK K) | (refine wx_skipN (by rfl) (by rfl) (by rfl) (fun K hK => ?_); go_simp; refine hK _ ?_; clear hK K))
  refine wx_loudU (us := []) (by rfl) (by rfl) (fun S wS hC hS hU => ?_) (fun v hv K hK => ?_)
  · refine runs_value (by go_simp <;> rfl) (made_x rfl hC.size ?_ (by simp [B8]) (by omega) (by omega))
    simp [B8, PK.u8, IntKind.wrap_u8]; try omega
  obtain ⟨RA4, Rc4, rfl⟩ := hv; (go_simp; refine hK _ ?_; clear hK K)
  repeat (first | (refine wx_quietU (by rfl) (by rfl) (by rfl) (fun K hK => ?_); go_big_quiet_op; refine hK _ ?_; clear hK K) | (refine wx_quietG (by rfl) (by rfl) (by rfl) (by rfl) (by rfl) (fun K hK => ?_); go_big_quiet_op; refine hK _ ?_; clear hK K) | (refine wx_skipG (by rfl) (by rfl) (by rfl) (fun K hK => ?_); go_simp; refine hK _ ?_; clear hK K) | (refine wx_skipN (by rfl) (by rfl) (by rfl) (fun K hK => ?_); go_simp; refine hK _ ?_; clear hK K))
  refine wx_loudU (us := [0, 4]) (by rfl) (by rfl) (fun S wS hC hS hU => ?_) (fun v hv K hK => ?_)
  · exact app_x (.tmp 22) (.tmp 26) (by rfl) (by rfl) (by rfl) (hU 0 (by simp)) (own_sl (hU 4 (by simp)).2) (by omega) hC.size
  obtain ⟨RA5, Rc5, rfl⟩ := hv; (go_simp; refine hK _ ?_; clear hK K)
  repeat (first | (refine wx_quietU (by rfl) (by rfl) (by rfl) (fun K hK => ?_); go_big_quiet_op; refine hK _ ?_; clear hK K) | (refine wx_quietG (by rfl) (by rfl) (by rfl) (by rfl) (by rfl) (fun K hK => ?_); go_big_quiet_op; refine hK _ ?_; clear hK K) | (refine wx_skipG (by rfl) (by rfl) (by rfl) (fun K hK => ?_); go_simp; refine hK _ ?_; clear hK K) | (refine wx_skipN (by rfl) (by rfl) (by rfl) (fun K hK => ?_); go_simp; refine hK _ ?_; clear hK K))
  refine wx_loudU (us := [5]) (by rfl) (by rfl) (fun S wS hC hS hU => runs_enter (f := 38) (by go_simp <;> rfl) ?_) (fun v hv K hK => ?_)
  · exact pput_x 4 _ _ (hU 5 (by simp)) hC.size (by omega) (by omega) (by omega) (by omega)
  obtain ⟨RA9, Rc9, rfl⟩ := hv; (go_simp; refine hK _ ?_; clear hK K)
  repeat (first | (refine wx_quietU (by rfl) (by rfl) (by rfl) (fun K hK => ?_); go_big_quiet_op; refine hK _ ?_; clear hK K) | (refine wx_quietG (by rfl) (by rfl) (by rfl) (by rfl) (by rfl) (fun K hK => ?_); go_big_quiet_op; refine hK _ ?_; clear hK K) | (refine wx_skipG (by rfl) (by rfl) (by rfl) (fun K hK => ?_); go_simp; refine hK _ ?_; clear hK K) | (refine wx_skipN (by rfl) (by rfl) (by rfl) (fun K hK => ?_); go_simp; refine hK _ ?_; clear hK K))
  refine wx_nil fun wreg hsat => ?_
  have hown := sat_row hsat 9 (by rfl)
  have hb1 := sat_below hsat
  clear hsat kk1 kk2 k0
  have HM0 : Hid (be 2 1500 ++ [2, PK.u8 flags] ++ be 4 seq = mainB ⟨2, router, area, auth, mask, intv, dead, prio, dr, bdr, nbs, flags, seq, heads, keys, lsas⟩) := by show _ = _; simp [mainB, be]
  generalize hM : be 2 1500 ++ [2, PK.u8 flags] ++ be 4 seq = M at *
  have HM := HM0
  clear hM HM0
  rw [hz0] at hown hb1
  obtain ⟨w1, rfl⟩ : ∃ w1 : World, w1 = wreg := ⟨_, rfl⟩
  -- here: W, A n c with 'hown : W.ownsRow (w.heap.size + 1) .. n (B8 M)', 'hb1 : Below (w.heap.size + 1) w0 w1', HM : Hid (M = mainB P), hnM : n ≤ 15000, HA : Hid (P.ty = 4 → ..)
  have k1 : ∀ i, w1.cell? ⟨w.heap.size, i, none⟩ = _ := fun i => (hb1.cell (p := ⟨w.heap.size, i, none⟩) (by simp)).trans (HC0.out i)
  go_upto_region 24 with fail
  clear k1
  have hB1 := hb1.size
  go_loopw [4, 83] (fun v i wr => ∃ (k : Nat) (A : Option Addr) (c : Nat), k ≤ n2 ∧ i = .int .i64 k ∧ v = .slice A (8 + 20 * k) c ∧ wr.ownsRow (w.heap.size + 1) 5 1 (.slice A (8 + 20 * k) c) (8 + 20 * k) (B8 (M ++ hdsTo heads k)) ∧ Below (w.heap.size + 1) w0 wr) (fun _ i _ => n2 - (intOf i).toNat)
  case atStart => exact ⟨0, RA9, Rc9, Nat.zero_le _, rfl, rfl, by simpa [hdsTo] using hown, hb1⟩
  case round =>
    obtain ⟨k, A', c', hk, rfl, rfl, hownr, hbr⟩ := hrel
    clear hown hb1 hB1
    have hsz := hbr.size
    by_cases hlt : k < n2
    · have hr := HH.out.below (HBW.out wr hbr)
      obtain ⟨b, off, rfl, hbl, q0, q1, q2, q3, q4, q5, q6⟩ := hr.hd hlt
      clear hr
      have hlt' : k < heads.length := by rw [HN2.out]; exact hlt
      have HS : Hid (hdsTo heads (k + 1) = hdsTo heads k ++ (hdAt heads k).bytes) := to_succ Hdr.bytes hd0 heads k hlt'
      obtain ⟨x1, x2, x3, x4, x5, x6, x7⟩ := hwh _ (getD_mem hd0 heads k hlt')
      change isU (hdAt heads k).id at x3
      change isU (hdAt heads k).adv at x4
      change 0 ≤ (hdAt heads k).sum ∧ (hdAt heads k).sum < 65536 at x6
      clear x1 x2 x5 x7 hlt'
      generalize hdAt heads k = X at *
      simp only [isU] at x3 x4
      go_wp2_with fail
      refine (putHeader_any X.age X.ty X.id X.adv X.seq X.sum X.len _ x3 x4 x6).mono ?_
      rintro e w3 ⟨A3, c3, rfl, hown3, hb3⟩
      have hbr3 := (hbr.alloc (by omega) (.cells (hdC X).toArray 96)).trans (hb3.mono (by simp; omega))
      have hownr3 := own_below (hownr.alloc (.cells (hdC X).toArray 96)) hb3
      have hsz3 := hbr3.size
      have hsl3 := own_sl hown3
      clear hownr hb3 hown3 q0 q1 q2 q3 q4 q5 q6
      go_wp2_with (at_builtin; refine wpList_app rfl (.tmp 87) (.tmp 89) st_bytes rfl (w.heap.size + 1) rfl hownr3 rfl hsl3 (B8_one _) (by simp [maxLen]; omega) (by omega) (by omega) ?_)
      intro A4 c4 w4 hown4 hg4 _
      have hbr4 := hbr3.trans (grown_below hownr3 hg4 (by omega))
      rw [← B8_append] at hown4
      clear hg4 hownr3 hbr3 hsl3
      go_wp2_with fail
      go_light
      have hk12 : 8 + 20 * k + 20 = 8 + 20 * (k + 1) := by omega
      rw [hk12] at hown4 ⊢
      refine ⟨⟨k + 1, A4, c4, by omega, by go_num, rfl, ?_, hbr4⟩, by simp [intOf]; omega⟩
      rw [HS.out, ← List.append_assoc]
      exact hown4
    · obtain rfl : k = n2 := by omega
      go_wp2_with fail
      go_ret2
      refine .inr ⟨(by intro hh; first | exact HA.out hh | exact HA.out trivial), _, c', _, rfl, own_base (base := w.heap.size + 1) ?_ (by omega), HBW.out wr hbr⟩
      have e : bodyB ⟨2, router, area, auth, mask, intv, dead, prio, dr, bdr, nbs, flags, seq, heads, keys, lsas⟩ = M ++ hdsTo heads k := by
        unfold bodyB hdsTo
        rw [HM.out]
        simp only
        rw [List.take_of_length_le (by rw [HN2.out]; omega)]
      rw [e]
      exact hownr
set_option maxRecDepth 100000 in
set_option maxHeartbeats 3200000 in
theorem body_t3
    (P : Pkt) (A1 : Option Addr) (n1 c1 : Nat) (A2 : Option Addr) (n2 c2 : Nat) (A3 : Option Addr) (n3 c3 : Nat) (A4 : Option Addr) (n4 c4 : Nat) (R : List LsR) (w : World) (h : IsPk w P A1 n1 c1 A2 n2 c2 A3 n3 c3 A4 n4 c4 R) (hwf : WfP P) (s1 : n1 ≤ 20) (s2 : n2 ≤ 20) (s3 : n3 ≤ 20) (s4 : n4 ≤ 20)
    (hk : P.ty = 3) : Calls Try.prog 36 #[.agg (pkC P A1 n1 c1 A2 n2 c2 A3 n3 c3 A4 n4 c4)] w (BodyPost P w) := by
  have hn := h.lens
  have hnb := h.nbs
  have hhd := h.heads
  have hky := h.keys
  have hls := h.lsas
  have hrl := h.rl
  have heach := h.each
  clear h
  obtain ⟨ty, router, area, auth, mask, intv, dead, prio, dr, bdr, nbs, flags, seq, heads, keys, lsas⟩ := P
  obtain ⟨hn1, hn2, hn3, hn4⟩ := hn
  have hwf0 := hwf
  obtain ⟨_, _, _, _, _, _, _, _, _, _, _, hwq, hwh, hwk, hwl⟩ := hwf
  simp only at hn1 hn2 hn3 hn4 hnb hhd hky hls hrl heach hk hwq hwh hwk hwl
  subst hk
  have HN2 := hid hn2
  have HN3 := hid hn3
  have HN4 := hid hn4
  have HH := hid hhd
  have HNB := hid hnb
  have HK := hid hky
  have HL := hid hls
  clear hn1 hn2 hn3 hn4 hhd hnb hky hls
  have hal := (Below.refl w.heap.size w).alloc (Nat.le_refl _) (.cells (pkC ⟨3, router, area, auth, mask, intv, dead, prio, dr, bdr, nbs, flags, seq, heads, keys, lsas⟩ A1 n1 c1 A2 n2 c2 A3 n3 c3 A4 n4 c4) 40)
  have HC0 := hid ((blk_cells (heap_alloc_new w (.cells (pkC ⟨3, router, area, auth, mask, intv, dead, prio, dr, bdr, nbs, flags, seq, heads, keys, lsas⟩ A1 n1 c1 A2 n2 c2 A3 n3 c3 A4 n4 c4) 40))).1)
  have hz0 : (w.alloc (.cells (pkC ⟨3, router, area, auth, mask, intv, dead, prio, dr, bdr, nbs, flags, seq, heads, keys, lsas⟩ A1 n1 c1 A2 n2 c2 A3 n3 c3 A4 n4 c4) 40)).heap.size = w.heap.size + 1 := by simp
  have hbw : ∀ wr, Below (w.heap.size + 1) (w.alloc (.cells (pkC ⟨3, router, area, auth, mask, intv, dead, prio, dr, bdr, nbs, flags, seq, heads, keys, lsas⟩ A1 n1 c1 A2 n2 c2 A3 n3 c3 A4 n4 c4) 40)) wr → Below w.heap.size w wr := fun wr h => hal.trans (h.mono (by omega))
  have HBW := hid hbw
  clear hbw
  go_enter Try.func36, Try.ntmps36
  go_upto_region 1 with fail
  have k0 := HC0.out
  generalize w.alloc (.cells (pkC ⟨3, router, area, auth, mask, intv, dead, prio, dr, bdr, nbs, flags, seq, heads, keys, lsas⟩ A1 n1 c1 A2 n2 c2 A3 n3 c3 A4 n4 c4) 40) = w0 at *
  have HA : Hid ((3 : Int) = 4 → lsas.all Lsa.right = true) := by show _ → _; intro h; simp at h
  go_upto_region 9 with fail
  clear k0
  go_loopw [4, 37] (fun v i wr => ∃ (k : Nat) (A : Option Addr) (c : Nat), k ≤ n3 ∧ i = .int .i64 k ∧ v = .slice A (12 * k) c ∧ wr.ownsRow (w.heap.size + 1) 5 1 (.slice A (12 * k) c) (12 * k) (B8 (kysTo keys k)) ∧ Below (w.heap.size + 1) w0 wr) (fun _ i _ => n3 - (intOf i).toNat)
  case atStart => exact ⟨0, none, 0, Nat.zero_le _, rfl, rfl, by simpa [kysTo, B8] using own_nilE _ _ _ _, Below.refl _ _⟩
  case round =>
    obtain ⟨k, A, c, hk, rfl, rfl, hownr, hbr⟩ := hrel
    have hsz := hbr.size
    by_cases hlt : k < n3
    · have hr := HK.out.below (HBW.out wr hbr)
      obtain ⟨b, off, rfl, hbl, q0, q1, q2⟩ := hr.ky hlt
      clear hr
      have hlt' : k < keys.length := by rw [HN3.out]; exact hlt
      have HS : Hid (kysTo keys (k + 1) = kysTo keys k ++ (kyAt keys k).bytes) := to_succ Ky.bytes ky0 keys k hlt'
      obtain ⟨x1, x2, x3⟩ := hwk _ (getD_mem ky0 keys k hlt')
      change isU (kyAt keys k).id at x2
      change isU (kyAt keys k).adv at x3
      clear x1 hlt'
      generalize kyAt keys k = X at *
      simp only [isU] at x2 x3
      have e1 : IntKind.u64.wrap X.id = X.id := IntWalk.u64_in _ (by omega)
      have e2 : IntKind.u64.wrap X.adv = X.adv := IntWalk.u64_in _ (by omega)
      have e3 : IntKind.u64.wrap X.ty = w64 X.ty := rfl
      have e4 := w64_bd X.ty
      go_upto_region 11 with fail
      have hS0 : ¬ Value.ownBlock (.slice A (12 * k) c) = some wr.heap.size := fun hh => by have := ownF_lt hownr _ hh; omega
      have hcx := (blk_cells (heap_alloc_new wr (.cells #[.int .i64 X.ty, .int .u32 X.id, .int .u32 X.adv] 60))).1
      replace hownr := hownr.alloc (.cells #[.int .i64 X.ty, .int .u32 X.id, .int .u32 X.adv] 60)
      replace hbr := hbr.alloc (by omega) (.cells #[.int .i64 X.ty, .int .u32 X.id, .int .u32 X.adv] 60)
      have hz1 : (wr.alloc (.cells #[.int .i64 X.ty, .int .u32 X.id, .int .u32 X.adv] 60)).heap.size = wr.heap.size + 1 := by simp
      generalize wr.alloc (.cells #[.int .i64 X.ty, .int .u32 X.id, .int .u32 X.adv] 60) = w1 at *
      have kk : ∀ (x : WK (fun b => Value.ownBlock (.slice A (12 * k) c) = some b) w1) j, (wat x).cell? ⟨wr.heap.size, j, none⟩ = _ := fun x j => (wat_cell (p := ⟨wr.heap.size, j, none⟩) (by simp; omega) hS0 x).trans (hcx j)
      have kk0 := fun x => kk x 0
      have kk1 := fun x => kk x 1
      have kk2 := fun x => kk x 2
      simp at kk0 kk1 kk2
      have hB1 : w.heap.size + 1 ≤ w1.heap.size := by omega
      clear kk hcx q0 q1 q2
      refine wp_region_loud (fun b => Value.ownBlock (.slice A (12 * k) c) = some b)
        [(4, rowL [100] (w.heap.size + 1) 5 1 (12 * k + 4) (B8 (kysTo keys k ++ be 4 (w64 X.ty).toNat))),
         (8, rowL [4] (w.heap.size + 1) 5 1 (12 * k + 4 + 4) (B8 (kysTo keys k ++ be 4 (w64 X.ty).toNat ++ be 4 X.id.toNat))),
         (12, rowL [8] (w.heap.size + 1) 5 1 (12 * k + 4 + 4 + 4) (B8 (kysTo keys k ++ be 4 (w64 X.ty).toNat ++ be 4 X.id.toNat ++ be 4 X.adv.toNat)))]
        (labelled 100 (OwnF (w.heap.size + 1) 5 1 (12 * k) (B8 (kysTo keys k)) (.slice A (12 * k) c))) (by kernel_rfl) (by kernel_rfl) (.cons (rowL_ok _ _ _ _ _ _) (.cons (rowL_ok _ _ _ _ _ _) (.cons (rowL_ok _ _ _ _ _ _) .nil))) (good_one 100 (good_own _ _ _ _ _ _)) (sat_one 100 _ (ownF_lt hownr) (ownF_in hownr)) (WX.out ?_)
      repeat (first | (refine wx_quietU (by rfl) (by rfl) (by rfl) (fun K hK => ?_); go_big_quiet_op; refine hK _ ?_; clear hK K) | (refine wx_quietG (by rfl) (by rfl) (by rfl) (by rfl) (by rfl) (fun K hK => ?_); go_big_quiet_op; refine hK _ ?_; clear hK K) | (refine wx_skipG (by rfl) (by rfl) (by rfl) (fun K hK => ?_); go_simp; refine hK _ ?_; clear hK K) | (refine wx_skipN (by rfl) (by rfl) (by rfl) (fun K hK => ?_); go_simp; refine hK _ ?_; clear hK K))
      refine wx_loudU (us := [100]) (by rfl) (by rfl) (fun S wS hC hS hU => runs_enter (f := 38) (by go_simp <;> rfl) ?_) (fun v hv K hK => ?_)
      · exact pput_x 4 _ _ (hU 100 (by simp)) (Nat.le_trans hB1 hC.size) (by omega) (by omega) (by omega) (by omega)
      obtain ⟨RA4, Rc4, rfl⟩ := hv; (go_simp; refine hK _ ?_; clear hK K)
      repeat (first | (refine wx_quietU (by rfl) (by rfl) (by rfl) (fun K hK => ?_); go_big_quiet_op; refine hK _ ?_; clear hK K) | (refine wx_quietG (by rfl) (by rfl) (by rfl) (by rfl) (by rfl) (fun K hK => ?_); go_big_quiet_op; refine hK _ ?_; clear hK K) | (refine wx_skipG (by rfl) (by rfl) (by rfl) (fun K hK => ?_); go_simp; refine hK _ ?_; clear hK K) | (refine wx_skipN (by rfl) (by rfl) (by rfl) (fun K hK => ?_); go_simp; refine hK _ ?_; clear hK K))
      refine wx_loudU (us := [4]) (by rfl) (by rfl) (fun S wS hC hS hU => runs_enter (f := 38) (by go_simp <;> rfl) ?_) (fun v hv K hK => ?_)
      · exact pput_x 4 _ _ (hU 4 (by simp)) (Nat.le_trans hB1 hC.size) (by omega) (by omega) (by omega) (by omega)
      obtain ⟨RA8, Rc8, rfl⟩ := hv; (go_simp; refine hK _ ?_; clear hK K)
      repeat (first | (refine wx_quietU (by rfl) (by rfl) (by rfl) (fun K hK => ?_); go_big_quiet_op; refine hK _ ?_; clear hK K) | (refine wx_quietG (by rfl) (by rfl) (by rfl) (by rfl) (by rfl) (fun K hK => ?_); go_big_quiet_op; refine hK _ ?_; clear hK K) | (refine wx_skipG (by rfl) (by rfl) (by rfl) (fun K hK => ?_); go_simp; refine hK _ ?_; clear hK K) | (refine wx_skipN (by rfl) (by rfl) (by rfl) (fun K hK => ?_); go_simp; refine hK _ ?_; clear hK K))
      refine wx_loudU (us := [8]) (by rfl) (by rfl) (fun S wS hC hS hU => runs_enter (f := 38) (by go_simp <;> rfl) ?_) (fun v hv K hK => ?_)
      · exact pput_x 4 _ _ (hU 8 (by simp)) (Nat.le_trans hB1 hC.size) (by omega) (by omega) (by omega) (by omega)
      obtain ⟨RA12, Rc12, rfl⟩ := hv; (go_simp; refine hK _ ?_; clear hK K)
      repeat (first | (refine wx_quietU (by rfl) (by rfl) (by rfl) (fun K hK => ?_); go_big_quiet_op; refine hK _ ?_; clear hK K) | (refine wx_quietG (by rfl) (by rfl) (by rfl) (by rfl) (by rfl) (fun K hK => ?_); go_big_quiet_op; refine hK _ ?_; clear hK K) | (refine wx_skipG (by rfl) (by rfl) (by rfl) (fun K hK => ?_); go_simp; refine hK _ ?_; clear hK K) | (refine wx_skipN (by rfl) (by rfl) (by rfl) (fun K hK => ?_); go_simp; refine hK _ ?_; clear hK K))
      refine wx_nil fun wreg hsat => ?_
      have hown2 := sat_row hsat 12 (by rfl)
      have hbr2 := hbr.trans (hsat.1.below_of hB1 (ownF_ge hownr))
      clear hsat kk0 kk1 kk2 hownr hbr
      go_wp2_with fail
      go_light
      have hk12 : 12 * k + 4 + 4 + 4 = 12 * (k + 1) := by omega
      rw [hk12] at hown2 ⊢
      refine ⟨⟨k + 1, RA12, Rc12, by omega, by go_num, rfl, ?_, hbr2⟩, by simp [intOf]; omega⟩
      rw [HS.out]
      simpa [Ky.bytes, List.append_assoc] using hown2
    · obtain rfl : k = n3 := by omega
      have hown := hownr
      have hb1 := hbr
      have HM : Hid (kysTo keys k = mainB ⟨3, router, area, auth, mask, intv, dead, prio, dr, bdr, nbs, flags, seq, heads, keys, lsas⟩) := by
        show _ = _
        unfold kysTo mainB
        rw [List.take_of_length_le (by rw [HN3.out]; omega)]
        simp
      generalize kysTo keys k = M at *
      clear hownr hbr
      obtain ⟨w1, rfl⟩ : ∃ w1 : World, w1 = wr := ⟨_, rfl⟩
      generalize hn12 : 12 * k = n at *
      have hnM : n ≤ 240 := by omega
      clear hn12
      -- here: W, A n c with 'hown : W.ownsRow (w.heap.size + 1) .. n (B8 M)', 'hb1 : Below (w.heap.size + 1) w0 w1', HM : Hid (M = mainB P), hnM : n ≤ 15000, HA : Hid (P.ty = 4 → ..)
      have k1 : ∀ i, w1.cell? ⟨w.heap.size, i, none⟩ = _ := fun i => (hb1.cell (p := ⟨w.heap.size, i, none⟩) (by simp)).trans (HC0.out i)
      go_upto_region 24 with fail
      clear k1
      have hB1 := hb1.size
      go_loopw [4, 83] (fun v i wr => ∃ (k : Nat) (A : Option Addr) (c : Nat), k ≤ n2 ∧ i = .int .i64 k ∧ v = .slice A (n + 20 * k) c ∧ wr.ownsRow (w.heap.size + 1) 5 1 (.slice A (n + 20 * k) c) (n + 20 * k) (B8 (M ++ hdsTo heads k)) ∧ Below (w.heap.size + 1) w0 wr) (fun _ i _ => n2 - (intOf i).toNat)
      case atStart => exact ⟨0, A, c, Nat.zero_le _, rfl, rfl, by simpa [hdsTo] using hown, hb1⟩
      case round =>
        obtain ⟨k, A', c', hk, rfl, rfl, hownr, hbr⟩ := hrel
        clear hown hb1 hB1
        have hsz := hbr.size
        by_cases hlt : k < n2
        · have hr := HH.out.below (HBW.out wr hbr)
          obtain ⟨b, off, rfl, hbl, q0, q1, q2, q3, q4, q5, q6⟩ := hr.hd hlt
          clear hr
          have hlt' : k < heads.length := by rw [HN2.out]; exact hlt
          have HS : Hid (hdsTo heads (k + 1) = hdsTo heads k ++ (hdAt heads k).bytes) := to_succ Hdr.bytes hd0 heads k hlt'
          obtain ⟨x1, x2, x3, x4, x5, x6, x7⟩ := hwh _ (getD_mem hd0 heads k hlt')
          change isU (hdAt heads k).id at x3
          change isU (hdAt heads k).adv at x4
          change 0 ≤ (hdAt heads k).sum ∧ (hdAt heads k).sum < 65536 at x6
          clear x1 x2 x5 x7 hlt'
          generalize hdAt heads k = X at *
          simp only [isU] at x3 x4
          go_wp2_with fail
          refine (putHeader_any X.age X.ty X.id X.adv X.seq X.sum X.len _ x3 x4 x6).mono ?_
          rintro e w3 ⟨A3, c3, rfl, hown3, hb3⟩
          have hbr3 := (hbr.alloc (by omega) (.cells (hdC X).toArray 96)).trans (hb3.mono (by simp; omega))
          have hownr3 := own_below (hownr.alloc (.cells (hdC X).toArray 96)) hb3
          have hsz3 := hbr3.size
          have hsl3 := own_sl hown3
          clear hownr hb3 hown3 q0 q1 q2 q3 q4 q5 q6
          go_wp2_with (at_builtin; refine wpList_app rfl (.tmp 87) (.tmp 89) st_bytes rfl (w.heap.size + 1) rfl hownr3 rfl hsl3 (B8_one _) (by simp [maxLen]; omega) (by omega) (by omega) ?_)
          intro A4 c4 w4 hown4 hg4 _
          have hbr4 := hbr3.trans (grown_below hownr3 hg4 (by omega))
          rw [← B8_append] at hown4
          clear hg4 hownr3 hbr3 hsl3
          go_wp2_with fail
          go_light
          have hk12 : n + 20 * k + 20 = n + 20 * (k + 1) := by omega
          rw [hk12] at hown4 ⊢
          refine ⟨⟨k + 1, A4, c4, by omega, by go_num, rfl, ?_, hbr4⟩, by simp [intOf]; omega⟩
          rw [HS.out, ← List.append_assoc]
          exact hown4
        · obtain rfl : k = n2 := by omega
          go_wp2_with fail
          go_ret2
          refine .inr ⟨(by intro hh; first | exact HA.out hh | exact HA.out trivial), _, c', _, rfl, own_base (base := w.heap.size + 1) ?_ (by omega), HBW.out wr hbr⟩
          have e : bodyB ⟨3, router, area, auth, mask, intv, dead, prio, dr, bdr, nbs, flags, seq, heads, keys, lsas⟩ = M ++ hdsTo heads k := by
            unfold bodyB hdsTo
            rw [HM.out]
            simp only
            rw [List.take_of_length_le (by rw [HN2.out]; omega)]
          rw [e]
          exact hownr
set_option maxRecDepth 100000 in
set_option maxHeartbeats 3200000 in
theorem body_t4
    (P : Pkt) (A1 : Option Addr) (n1 c1 : Nat) (A2 : Option Addr) (n2 c2 : Nat) (A3 : Option Addr) (n3 c3 : Nat) (A4 : Option Addr) (n4 c4 : Nat) (R : List LsR) (w : World) (h : IsPk w P A1 n1 c1 A2 n2 c2 A3 n3 c3 A4 n4 c4 R) (hwf : WfP P) (s1 : n1 ≤ 20) (s2 : n2 ≤ 20) (s3 : n3 ≤ 20) (s4 : n4 ≤ 20)
    (hk : P.ty = 4) : Calls Try.prog 36 #[.agg (pkC P A1 n1 c1 A2 n2 c2 A3 n3 c3 A4 n4 c4)] w (BodyPost P w) := by
  have hn := h.lens
  have hnb := h.nbs
  have hhd := h.heads
  have hky := h.keys
  have hls := h.lsas
  have hrl := h.rl
  have heach := h.each
  clear h
  obtain ⟨ty, router, area, auth, mask, intv, dead, prio, dr, bdr, nbs, flags, seq, heads, keys, lsas⟩ := P
  obtain ⟨hn1, hn2, hn3, hn4⟩ := hn
  have hwf0 := hwf
  obtain ⟨_, _, _, _, _, _, _, _, _, _, _, hwq, hwh, hwk, hwl⟩ := hwf
  simp only at hn1 hn2 hn3 hn4 hnb hhd hky hls hrl heach hk hwq hwh hwk hwl
  subst hk
  have HN2 := hid hn2
  have HN3 := hid hn3
  have HN4 := hid hn4
  have HH := hid hhd
  have HNB := hid hnb
  have HK := hid hky
  have HL := hid hls
  clear hn1 hn2 hn3 hn4 hhd hnb hky hls
  have hal := (Below.refl w.heap.size w).alloc (Nat.le_refl _) (.cells (pkC ⟨4, router, area, auth, mask, intv, dead, prio, dr, bdr, nbs, flags, seq, heads, keys, lsas⟩ A1 n1 c1 A2 n2 c2 A3 n3 c3 A4 n4 c4) 40)
  have HC0 := hid ((blk_cells (heap_alloc_new w (.cells (pkC ⟨4, router, area, auth, mask, intv, dead, prio, dr, bdr, nbs, flags, seq, heads, keys, lsas⟩ A1 n1 c1 A2 n2 c2 A3 n3 c3 A4 n4 c4) 40))).1)
  have hz0 : (w.alloc (.cells (pkC ⟨4, router, area, auth, mask, intv, dead, prio, dr, bdr, nbs, flags, seq, heads, keys, lsas⟩ A1 n1 c1 A2 n2 c2 A3 n3 c3 A4 n4 c4) 40)).heap.size = w.heap.size + 1 := by simp
  have hbw : ∀ wr, Below (w.heap.size + 1) (w.alloc (.cells (pkC ⟨4, router, area, auth, mask, intv, dead, prio, dr, bdr, nbs, flags, seq, heads, keys, lsas⟩ A1 n1 c1 A2 n2 c2 A3 n3 c3 A4 n4 c4) 40)) wr → Below w.heap.size w wr := fun wr h => hal.trans (h.mono (by omega))
  have HBW := hid hbw
  clear hbw
  go_enter Try.func36, Try.ntmps36
  go_upto_region 1 with fail
  have k0 := HC0.out
  generalize w.alloc (.cells (pkC ⟨4, router, area, auth, mask, intv, dead, prio, dr, bdr, nbs, flags, seq, heads, keys, lsas⟩ A1 n1 c1 A2 n2 c2 A3 n3 c3 A4 n4 c4) 40) = w0 at *
  have e1 : IntKind.u64.wrap (n4 : Int) = (n4 : Int) := IntWalk.u64_in _ (by omega)
  have k00 := k0
  go_wp2_with fail
  refine (pput_any (w.heap.size + 1) 0 0 4 none [] n4 w0 (own_nilE _ _ _ _) (by omega) (by omega) (by omega) (by omega) (by omega)).mono ?_
  rintro e w1 ⟨A, c, rfl, hown1, hb1, _, _⟩
  have k1 : ∀ i, w1.cell? ⟨w.heap.size, i, none⟩ = _ := fun i => (hb1.cell (p := ⟨w.heap.size, i, none⟩) (by simp)).trans (k00 i)
  replace hown1 : w1.ownsRow (w.heap.size + 1) 5 1 (.slice A 4 c) 4 (B8 (be 4 n4)) := by simpa using hown1
  clear k0 k00
  go_upto_region 16 with fail
  clear k1
  go_loopw [4, 65] (fun v i wr => ∃ (k n : Nat) (A : Option Addr) (c : Nat), k ≤ n4 ∧ i = .int .i64 k ∧ v = .slice A n c ∧ (lsas.take k).all Lsa.right = true ∧ n ≤ 4 + 504 * k ∧ wr.ownsRow (w.heap.size + 1) 5 1 (.slice A n c) n (B8 (be 4 n4 ++ lssTo lsas k)) ∧ Below (w.heap.size + 1) w0 wr) (fun _ i _ => n4 - (intOf i).toNat)
  case atStart => exact ⟨0, 4, A, c, Nat.zero_le _, rfl, by simp, by simp, by omega, by simpa [lssTo] using hown1, hb1⟩
  case round =>
    obtain ⟨k, n, A', c', hk, rfl, rfl, hok, hnb, hownr, hbr⟩ := hrel
    have HOK := hid hok
    clear hown1 hb1 hok
    have hsz := hbr.size
    by_cases hlt : k < n4
    · have hr := HL.out.below (HBW.out wr hbr)
      obtain ⟨b, off, rfl, hbl, q⟩ := hr.ls hlt
      clear hr
      have hlt' : k < lsas.length := by rw [HN4.out]; exact hlt
      obtain ⟨hp1, hp2⟩ := lsAt_fst lsas R hrl k hlt'
      have HS : Hid (lssTo lsas (k + 1) = lssTo lsas k ++ putB (lsas.getD k l0)) := to_succ putB l0 lsas k hlt'
      have HOS := hid (all_take_succ Lsa.right l0 lsas k hlt')
      rw [← hp1] at HS HOS
      have hL := (heach _ hp2).below (HBW.out wr hbr)
      have hLw : WfL (lsAt (lsas.zip R) k).1 := hwl _ (List.of_mem_zip (a := (lsAt (lsas.zip R) k).1) (b := (lsAt (lsas.zip R) k).2) hp2).1
      clear hp1 hp2 hlt'
      generalize lsAt (lsas.zip R) k = X at *
      obtain ⟨X, r⟩ := X
      have q0 := q 0 (by omega)
      have q1 := q 1 (by omega)
      have q2 := q 2 (by omega)
      have q3 := q 3 (by omega)
      have q4 := q 4 (by omega)
      have q5 := q 5 (by omega)
      have q6 := q 6 (by omega)
      have q7 := q 7 (by omega)
      have q8 := q 8 (by omega)
      simp [lsC] at q0 q1 q2 q3 q4 q5 q6 q7 q8
      clear q
      simp only at HS HOS hLw
      have hLa := hL.below ((Below.refl _ _).alloc (Nat.le_refl _) (.cells (lsaC X r.A1 r.n1 r.c1 r.A2 r.n2 r.c2) 63))
      cases hX : X.right
      · have HX := hid hX
        clear hX
        go_wp2_with fail
        refine (put_no X r.A1 r.n1 r.c1 r.A2 r.n2 r.c2 _ hLa HX.out).mono ?_
        rintro e w3 ⟨rfl, hb3⟩
        have hbr3 := (hbr.alloc (by omega) (.cells (lsaC X r.A1 r.n1 r.c1 r.A2 r.n2 r.c2) 63)).trans (hb3.mono (by simp; omega))
        clear hb3 q0 q1 q2 q3 q4 q5 q6 q7 q8
        go_wp2_with fail
        go_ret2
        refine .inl ⟨⟨rfl, ?_⟩, rfl, HBW.out _ hbr3⟩
        refine all_take_no Lsa.right lsas (k + 1) ?_
        rw [HOS.out, HX.out, Bool.and_false]
      · have hl40 : r.n1 ≤ 40 ∧ r.n2 ≤ 40 := by
          have g1 := hL.links.lenN.1
          have g2 := hL.routers.lenN.1
          rw [LK_length] at g1
          rw [U32_length] at g2
          simp only at g1 g2
          rcases (right_spec X hX).2.2 with h | h | h
          · obtain ⟨_, h3, _, _, h4, _⟩ := h; rw [h4] at g2; simp at g2; omega
          · obtain ⟨_, h3, _, h4, _⟩ := h; rw [h3] at g1; simp at g1; omega
          · obtain ⟨_, h3, h4, _⟩ := h; rw [h3] at g1; rw [h4] at g2; simp at g1 g2; omega
        have hlen : (putB X).length ≤ 504 := by
          have g1 := putB_length X
          have g2 := tellB_length X hX
          omega
        have HX := hid hX
        clear hX
        go_wp2_with fail
        refine (put_yes X r.A1 r.n1 r.c1 r.A2 r.n2 r.c2 _ hLa hLw HX.out (by omega) (by omega)).mono ?_
        rintro e w3 ⟨A3, c3, n3', rfl, hown3, hb3⟩
        have hbr3 := (hbr.alloc (by omega) (.cells (lsaC X r.A1 r.n1 r.c1 r.A2 r.n2 r.c2) 63)).trans (hb3.mono (by simp; omega))
        have hownr3 := own_below (hownr.alloc (.cells (lsaC X r.A1 r.n1 r.c1 r.A2 r.n2 r.c2) 63)) hb3
        have hsz3 := hbr3.size
        have hsl3 := own_sl hown3
        have hn3 := hsl3.len.1
        have HN3' := hid hn3
        have hn3b : n3' ≤ 504 := by omega
        clear hownr hb3 hown3 q0 q1 q2 q3 q4 q5 q6 q7 q8 hn3 hlen
        go_wp2_with (at_builtin; refine wpList_app rfl (.tmp 76) (.tmp 77) st_bytes rfl (w.heap.size + 1) rfl hownr3 rfl hsl3 (B8_one _) (by simp [maxLen]; omega) (by omega) (by omega) ?_)
        intro A5 c5 w5 hown5 hg5 _
        have hbr5 := hbr3.trans (grown_below hownr3 hg5 (by omega))
        rw [← B8_append] at hown5
        clear hg5 hownr3 hbr3 hsl3
        go_wp2_with fail
        go_light
        refine ⟨⟨k + 1, n + n3', A5, c5, by omega, by go_num, rfl, ?_, by omega, ?_, hbr5⟩, by simp [intOf]; omega⟩
        · rw [HOS.out, HOK.out, HX.out]; rfl
        · rw [HS.out, ← List.append_assoc]
          exact hown5
    · obtain rfl : k = n4 := by omega
      have hown := hownr
      have hb1 := hbr
      have HA : Hid ((4 : Int) = 4 → lsas.all Lsa.right = true) := by
        show _ → _
        intro _
        have := HOK.out
        rw [List.take_of_length_le (by rw [HN4.out]; omega)] at this
        exact this
      have HM : Hid (be 4 k ++ lssTo lsas k = mainB ⟨4, router, area, auth, mask, intv, dead, prio, dr, bdr, nbs, flags, seq, heads, keys, lsas⟩) := by
        show _ = _
        unfold lssTo mainB
        rw [List.take_of_length_le (by rw [HN4.out]; omega)]
        simp
        have := HN4.out
        rw [this]
      generalize be 4 k ++ lssTo lsas k = M at *
      clear hownr hbr HOK
      obtain ⟨w1, rfl⟩ : ∃ w1 : World, w1 = wr := ⟨_, rfl⟩
      have hnM : n ≤ 11000 := by omega
      -- here: W, A n c with 'hown : W.ownsRow (w.heap.size + 1) .. n (B8 M)', 'hb1 : Below (w.heap.size + 1) w0 w1', HM : Hid (M = mainB P), hnM : n ≤ 15000, HA : Hid (P.ty = 4 → ..)
      have k1 : ∀ i, w1.cell? ⟨w.heap.size, i, none⟩ = _ := fun i => (hb1.cell (p := ⟨w.heap.size, i, none⟩) (by simp)).trans (HC0.out i)
      go_upto_region 24 with fail
      clear k1
      have hB1 := hb1.size
      go_loopw [4, 83] (fun v i wr => ∃ (k : Nat) (A : Option Addr) (c : Nat), k ≤ n2 ∧ i = .int .i64 k ∧ v = .slice A (n + 20 * k) c ∧ wr.ownsRow (w.heap.size + 1) 5 1 (.slice A (n + 20 * k) c) (n + 20 * k) (B8 (M ++ hdsTo heads k)) ∧ Below (w.heap.size + 1) w0 wr) (fun _ i _ => n2 - (intOf i).toNat)
      case atStart => exact ⟨0, A', c', Nat.zero_le _, rfl, rfl, by simpa [hdsTo] using hown, hb1⟩
      case round =>
        obtain ⟨k, A', c', hk, rfl, rfl, hownr, hbr⟩ := hrel
        clear hown hb1 hB1
        have hsz := hbr.size
        by_cases hlt : k < n2
        · have hr := HH.out.below (HBW.out wr hbr)
          obtain ⟨b, off, rfl, hbl, q0, q1, q2, q3, q4, q5, q6⟩ := hr.hd hlt
          clear hr
          have hlt' : k < heads.length := by rw [HN2.out]; exact hlt
          have HS : Hid (hdsTo heads (k + 1) = hdsTo heads k ++ (hdAt heads k).bytes) := to_succ Hdr.bytes hd0 heads k hlt'
          obtain ⟨x1, x2, x3, x4, x5, x6, x7⟩ := hwh _ (getD_mem hd0 heads k hlt')
          change isU (hdAt heads k).id at x3
          change isU (hdAt heads k).adv at x4
          change 0 ≤ (hdAt heads k).sum ∧ (hdAt heads k).sum < 65536 at x6
          clear x1 x2 x5 x7 hlt'
          generalize hdAt heads k = X at *
          simp only [isU] at x3 x4
          go_wp2_with fail
          refine (putHeader_any X.age X.ty X.id X.adv X.seq X.sum X.len _ x3 x4 x6).mono ?_
          rintro e w3 ⟨A3, c3, rfl, hown3, hb3⟩
          have hbr3 := (hbr.alloc (by omega) (.cells (hdC X).toArray 96)).trans (hb3.mono (by simp; omega))
          have hownr3 := own_below (hownr.alloc (.cells (hdC X).toArray 96)) hb3
          have hsz3 := hbr3.size
          have hsl3 := own_sl hown3
          clear hownr hb3 hown3 q0 q1 q2 q3 q4 q5 q6
          go_wp2_with (at_builtin; refine wpList_app rfl (.tmp 87) (.tmp 89) st_bytes rfl (w.heap.size + 1) rfl hownr3 rfl hsl3 (B8_one _) (by simp [maxLen]; omega) (by omega) (by omega) ?_)
          intro A4 c4 w4 hown4 hg4 _
          have hbr4 := hbr3.trans (grown_below hownr3 hg4 (by omega))
          rw [← B8_append] at hown4
          clear hg4 hownr3 hbr3 hsl3
          go_wp2_with fail
          go_light
          have hk12 : n + 20 * k + 20 = n + 20 * (k + 1) := by omega
          rw [hk12] at hown4 ⊢
          refine ⟨⟨k + 1, A4, c4, by omega, by go_num, rfl, ?_, hbr4⟩, by simp [intOf]; omega⟩
          rw [HS.out, ← List.append_assoc]
          exact hown4
        · obtain rfl : k = n2 := by omega
          go_wp2_with fail
          go_ret2
          refine .inr ⟨(by intro hh; first | exact HA.out hh | exact HA.out trivial), _, c', _, rfl, own_base (base := w.heap.size + 1) ?_ (by omega), HBW.out wr hbr⟩
          have e : bodyB ⟨4, router, area, auth, mask, intv, dead, prio, dr, bdr, nbs, flags, seq, heads, keys, lsas⟩ = M ++ hdsTo heads k := by
            unfold bodyB hdsTo
            rw [HM.out]
            simp only
            rw [List.take_of_length_le (by rw [HN2.out]; omega)]
          rw [e]
          exact hownr
theorem pbody_any
    (P : Pkt) (A1 : Option Addr) (n1 c1 : Nat) (A2 : Option Addr) (n2 c2 : Nat) (A3 : Option Addr) (n3 c3 : Nat) (A4 : Option Addr) (n4 c4 : Nat) (R : List LsR) (w : World) (h : IsPk w P A1 n1 c1 A2 n2 c2 A3 n3 c3 A4 n4 c4 R) (hwf : WfP P) (s1 : n1 ≤ 20) (s2 : n2 ≤ 20) (s3 : n3 ≤ 20) (s4 : n4 ≤ 20)
    (hk : 1 ≤ P.ty ∧ P.ty ≤ 5) : Calls Try.prog 36 #[.agg (pkC P A1 n1 c1 A2 n2 c2 A3 n3 c3 A4 n4 c4)] w (BodyPost P w) := by
  by_cases t1 : P.ty = 1
  · exact body_t1 P A1 n1 c1 A2 n2 c2 A3 n3 c3 A4 n4 c4 R w h hwf s1 s2 s3 s4 t1
  by_cases t2 : P.ty = 2
  · exact body_t2 P A1 n1 c1 A2 n2 c2 A3 n3 c3 A4 n4 c4 R w h hwf s1 s2 s3 s4 t2
  by_cases t3 : P.ty = 3
  · exact body_t3 P A1 n1 c1 A2 n2 c2 A3 n3 c3 A4 n4 c4 R w h hwf s1 s2 s3 s4 t3
  by_cases t4 : P.ty = 4
  · exact body_t4 P A1 n1 c1 A2 n2 c2 A3 n3 c3 A4 n4 c4 R w h hwf s1 s2 s3 s4 t4
  · exact body_t5 P A1 n1 c1 A2 n2 c2 A3 n3 c3 A4 n4 c4 R w h hwf s1 s2 s3 s4 (by omega)
end Go.Proofs.Ytgopkpogakjckaa
