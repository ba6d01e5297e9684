/-
  Contract of rest.
-/
import Derived.Test.YtfhlidlmipleaaaJn6
namespace Go.Proofs.Ytfhlidlmipleaaa
set_option linter.unusedVariables false
set_option linter.unusedSimpArgs false
open Go Go.RowKit LM

def chunk (f : List UInt8) (k : Nat) : List UInt8 := (f.drop (64 * k)).take 64
/-- the sectors of a frame behind the first one, the first k of them -/
def restS (D : Dk) (nx : Nat) (f : List UInt8) : Nat → Dk × Int
  | 0 => (D, 0)
  | k + 1 => if (restS D nx f k).2 ≠ 0 then restS D nx f k else (wrD (restS D nx f k).1 ((nx + (k + 1) : Nat) : Int) (chunk f (k + 1)), wrE (restS D nx f k).1 ((nx + (k + 1) : Nat) : Int) (chunk f (k + 1)))
theorem restS_stuck (D : Dk) (nx : Nat) (f : List UInt8) (k i : Nat) (h : (restS D nx f k).2 ≠ 0) : restS D nx f (k + i) = restS D nx f k := by
  induction i with
  | zero => rfl
  | succ i ih =>
    rw [← Nat.add_assoc]
    show (if (restS D nx f (k + i)).2 ≠ 0 then restS D nx f (k + i) else _) = _
    rw [ih, if_pos h]
theorem FitJ.rest {D : Dk} {n : Nat} (h : FitJ D n) (nx : Nat) (f : List UInt8) (k : Nat) : FitJ (restS D nx f k).1 n := by
  induction k with
  | zero => exact h
  | succ k ih =>
    unfold restS
    split
    · exact ih
    · exact ih.write _ _
theorem nextJ_len {D D' : Dk} (h : D'.stay.length = D.stay.length) (J : Jn) : nextJ D' J = nextJ D J := by
  unfold nextJ sizeJ
  rw [h]
theorem chunk_len {f : List UInt8} {m k : Nat} (h : f.length = 64 * m) (hk : k < m) : (chunk f k).length = 64 := by
  simp [chunk]
  omega
theorem sizeJ_le {D : Dk} (h : D.stay.length ≤ 1024) : sizeJ D ≤ 511 := by unfold sizeJ; omega
theorem nextJ_le {D : Dk} {J : Jn} (h : D.stay.length ≤ 1024) (hh : J.half < 2) : nextJ D J ≤ 513 + J.used := by
  have hs := sizeJ_le h
  unfold nextJ
  rcases (by omega : J.half = 0 ∨ J.half = 1) with h | h <;> rw [h] <;> omega
set_option maxRecDepth 100000 in
set_option maxHeartbeats 3200000 in
theorem rest_any (base n : Nat) (w : World) (D : Dk) (J : Jn) (j d : Nat) (I K : Nat → Prop) (h : Jd base w D J j d I K) (hF : FitJ D n) (hn : 2 ≤ n ∧ n ≤ 1000) (hbase : base ≤ w.heap.size) (hh : J.half < 2) (hu : J.used ≤ 1099511627776)
    (b off c m : Nat) (f : List UInt8) (hl : Sl w 1 (.slice (some ⟨b, off, none⟩) (64 * m) c) (B8 f)) (hnb : ¬ (I b ∨ K b)) (hm : 1 ≤ m ∧ m ≤ 1099511627776) :
    Calls Try.prog 115 #[.pointer (some ⟨j, 0, none⟩), .slice (some ⟨b, off, none⟩) (64 * m) c] w fun e w' => e = .returned (.int .i64 (restS D (nextJ D J) f (m - 1)).2) ∧ ∃ I', Stp base w w' (restS D (nextJ D J) f (m - 1)).1 J j d I K I' K := by
  obtain ⟨hfl, hfc, hfm⟩ := hl.len
  have hbl : b < w.heap.size := by
    obtain ⟨b', off', e, h1, _⟩ := hl.byte (k := 0) (by omega)
    injection e with e
    injection e with e1 e2
    subst e1
    exact h1
  have hlen := hF.len
  go_enter Try.func115, Try.ntmps115
  go_wp2_with fail
  go_loopw [5] (fun i wr => ∃ (k : Nat) (I1 : Nat → Prop), k < m ∧ i = .int .i64 ((64 * (k + 1) : Nat) : Int) ∧ (restS D (nextJ D J) f k).2 = 0 ∧ Stp base w wr (restS D (nextJ D J) f k).1 J j d I K I1 K) (fun i _ => 64 * m - (intOf i).toNat)
  case atStart => exact ⟨0, I, hm.1, rfl, rfl, Stp.refl h⟩
  case round =>
    obtain ⟨k, I1, hkm, rfl, h0, s1⟩ := hrel
    have hF1 := hF.rest (nextJ D J) f k
    by_cases hk : k + 1 < m
    · have HR : Hid (restS D (nextJ D J) f (k + 1) = (wrD (restS D (nextJ D J) f k).1 ((nextJ D J + (k + 1) : Nat) : Int) (chunk f (k + 1)), wrE (restS D (nextJ D J) f k).1 ((nextJ D J + (k + 1) : Nat) : Int) (chunk f (k + 1)))) := hid (by
        show (if (restS D (nextJ D J) f k).2 ≠ 0 then restS D (nextJ D J) f k else _) = _
        rw [if_neg (by omega)])
      have HS := fun h => hid (restS_stuck D (nextJ D J) f (k + 1) (m - 1 - (k + 1)) h)
      rw [show k + 1 + (m - 1 - (k + 1)) = m - 1 by omega] at HS
      have hnx : nextJ (restS D (nextJ D J) f k).1 J = nextJ D J := nextJ_len (by rw [hF1.len, hlen]) J
      have hnl := nextJ_le (D := D) (J := J) (by omega) hh
      have hcl := chunk_len (k := k + 1) hfl hk
      have hlr := sl_kept hl s1.kp (fun ad had => by injection had with had; subst had; exact hnb)
      have hch : Sl wr 1 (.slice (some ⟨b, off + 64 * (k + 1), none⟩) (64 * (k + 1) + 64 - 64 * (k + 1)) (c - 64 * (k + 1))) (B8 ((f.drop (64 * (k + 1))).take (64 * (k + 1) + 64 - 64 * (k + 1)))) := sl_mid hlr (64 * (k + 1)) (64 * (k + 1) + 64) (by omega) (by omega) (by omega)
      rw [show 64 * (k + 1) + 64 - 64 * (k + 1) = 64 by omega] at hch
      have hnb1 : ¬ (I1 b ∨ K b) := s1.nb hbl hnb
      obtain ⟨Aa, ca, hjl, _, _, q0, _⟩ := s1.jd.jn.cells
      obtain ⟨ix, ei⟩ : ∃ ix : Int, (nextJ D J : Int) + ((k : Int) + 1) = ix := ⟨_, rfl⟩
      have ei2 : ((nextJ D J + (k + 1) : Nat) : Int) = ix := by omega
      rw [ei2] at HR
      clear ei2
      have hfew := hF1.few
      have hjd := s1.jd
      have hbw := Nat.le_trans hbase s1.size
      generalize restS D (nextJ D J) f k = R at *
      clear hl hlr h
      have hjI : ¬ (False ∨ I1 j) := by
        rintro (e | e)
        · exact e
        · exact hjd.dis j e hjd.jn.mem
      have hbI : ¬ (False ∨ I1 b) := by
        rintro (e | e)
        · exact e
        · exact hnb1 (.inl e)
      have z0 := fun (z : WK (fun y => False ∨ I1 y) wr) => (wat_cell (p := ⟨j, 0, none⟩) hjl hjI z).trans q0
      have zcap := fun (z : WK (fun y => False ∨ I1 y) wr) => (sl_kept hch (wat_kept z) (fun ad had => by injection had with had; subst had; exact hbI))
      clear q0
      go_wp2_with fail
      refine wp_region_loud (fun y => False ∨ I1 y) [(5, factL [100] (fun v => v = .int .i64 (nextJ D J)) (fun _ => DskF base R.1 d)), (14, factL [5] (fun v => v = .int .i64 (wrE R.1 ix (chunk f (k + 1)))) (fun _ => DskF base (wrD R.1 ix (chunk f (k + 1))) d))] (addL 100 (DskF base R.1 d) (fun _ => Fact.none)) (by kernel_rfl) (by kernel_rfl)
        (.cons (factL_ok ⟨_, rfl⟩ (fun _ => good_dsk _ _ _)) (.cons (factL_ok ⟨_, rfl⟩ (fun _ => good_dsk _ _ _)) .nil)) (good_add _ (good_dsk _ _ _) good_nothing)
        (sat_add 100 sat_none (fun b _ h => h) (fun b hb => (hjd.dk.bd b hb).2) ⟨I1, fun b hb => hb, hjd.dk⟩) (WX.out ?_)
      repeat (first | (refine wx_quietU (by rfl) (by rfl) (by rfl) (fun K hK => ?_); go_big_quiet_op; refine hK _ ?_; clear hK K) | (refine wx_quietG (by rfl) (by rfl) (by rfl) (by rfl) (by rfl) (fun K hK => ?_); go_big_quiet_op; refine hK _ ?_; clear hK K) | (refine wx_skipG (by rfl) (by rfl) (by rfl) (fun K hK => ?_); go_simp; refine hK _ ?_; clear hK K) | (refine wx_skipN (by rfl) (by rfl) (by rfl) (fun K hK => ?_); go_simp; refine hK _ ?_; clear hK K))
      have hKS : ∀ y, K y → ¬ (False ∨ I1 y) := fun y hy e => by
        rcases e with e | e
        · exact e
        · exact hjd.dis y e hy
      refine wx_loudU (us := [100]) (by rfl) (by rfl) (fun S wS hC hS hU => runs_enter (f := 117) (by go_simp <;> rfl) ?_) (fun v hv K hK => ?_)
      · obtain ⟨I3, hI3, hD3⟩ := (hU 100 (by simp) : DskF base R.1 d S wS)
        refine (next_any base wS R.1 J j d I3 K hD3 (hjd.jn.kept hC hKS) (by rw [hF1.len]; omega) (by rw [hF1.len]; omega) hh hu).mono ?_
        rintro e w9 ⟨rfl, hb9⟩
        exact ⟨.int .i64 (nextJ D J), by rw [hnx], rfl, Kept.of_below hb9, I3, fun y hy => .inl (hI3 y hy), hD3.below hb9⟩
      obtain rfl := hv; (go_simp; refine hK _ ?_; clear hK K)
      repeat (first | (refine wx_quietU (by rfl) (by rfl) (by rfl) (fun K hK => ?_); go_big_quiet_op; refine hK _ ?_; clear hK K) | (refine wx_quietG (by rfl) (by rfl) (by rfl) (by rfl) (by rfl) (fun K hK => ?_); go_big_quiet_op; refine hK _ ?_; clear hK K) | (refine wx_skipG (by rfl) (by rfl) (by rfl) (fun K hK => ?_); go_simp; refine hK _ ?_; clear hK K) | (refine wx_skipN (by rfl) (by rfl) (by rfl) (fun K hK => ?_); go_simp; refine hK _ ?_; clear hK K))
      refine wx_loudU (us := [5]) (by rfl) (by rfl) (fun S wS hC hS hU => runs_enter (f := 17) (by go_simp <;> rfl) ?_) (fun v hv K hK => ?_)
      · obtain ⟨I3, hI3, hD3⟩ := (hU 5 (by simp) : DskF base R.1 d S wS)
        have hsl := sl_kept hch hC (fun ad had => by injection had with had; subst had; exact hbI)
        refine (dsk_write base wS R.1 d I3 _ b _ 64 _ (chunk f (k + 1)) hD3 (Nat.le_trans hbw hC.size) hsl (.inl rfl) (by omega) (fun hx => by
          rcases (hS b (hI3 b hx)).1 with e | e
          · exact hbI e
          · have := s1.size; omega)).mono ?_
        rintro e w9 ⟨rfl, I4, hD4, ht4⟩
        refine ⟨_, rfl, rfl, ht4.1.wider hI3, I4, fun y hy => ?_, hD4⟩
        rcases ht4.2 y hy with h1 | h1
        · exact .inl (hI3 y h1)
        · exact .inr ⟨h1, (hD4.bd y hy).2⟩
      obtain rfl := hv; (go_simp; refine hK _ ?_; clear hK K)
      repeat (first | (refine wx_quietU (by rfl) (by rfl) (by rfl) (fun K hK => ?_); go_big_quiet_op; refine hK _ ?_; clear hK K) | (refine wx_quietG (by rfl) (by rfl) (by rfl) (by rfl) (by rfl) (fun K hK => ?_); go_big_quiet_op; refine hK _ ?_; clear hK K) | (refine wx_skipG (by rfl) (by rfl) (by rfl) (fun K hK => ?_); go_simp; refine hK _ ?_; clear hK K) | (refine wx_skipN (by rfl) (by rfl) (by rfl) (fun K hK => ?_); go_simp; refine hK _ ?_; clear hK K))
      refine wx_nil fun w21 hsat => ?_
      obtain ⟨S, hS, hfin⟩ := sat_get hsat 14
      obtain ⟨I5, hI5, hD5⟩ := (hfin : DskF base (wrD R.1 ix (chunk f (k + 1))) d S w21)
      have s2 : Stp base wr w21 (wrD R.1 ix (chunk f (k + 1))) J j d I1 K I5 K := by
        refine hjd.turn hD5 ⟨hsat.1.wider (fun y hy => hy.elim False.elim id), fun y hy => ?_⟩
        rcases hS y (hI5 y hy) with e | e
        · exact .inl (e.elim False.elim id)
        · exact .inr e
      have s3 := s1.trans s2
      clear hsat hD5 s2 s1 hI5 hS z0 zcap hch hKS
      by_cases hz : wrE R.1 ix (chunk f (k + 1)) = 0
      · rw [hz]
        go_wp2_with fail
        go_light
        refine ⟨⟨k + 1, I5, by omega, by go_num, by rw [HR.out]; exact hz, by rw [HR.out]; exact s3⟩, by simp [intOf]; omega⟩
      · have hz2 : ((wrE R.1 ix (chunk f (k + 1))) != 0) = true := by simpa using hz
        have hst := (HS (by rw [HR.out]; exact hz)).out
        rw [HR.out] at hst
        have HST := hid hst
        clear hst HS HR
        go_wp2_with fail
        go_ret
        rw [HST.out]
        exact ⟨rfl, I5, s3⟩
    · obtain rfl : k + 1 = m := by omega
      go_wp2_with fail
      go_ret
      rw [show k + 1 - 1 = k by omega, h0]
      exact ⟨rfl, I1, s1⟩
end Go.Proofs.Ytfhlidlmipleaaa
