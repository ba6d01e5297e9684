/-
  Contract of wipe.
  Contract of lay.
  Words on Compact: what it leaves.
  Contract of Compact.
  Plain words on a disk: what writes and flushes leave, and what a crash leaves of them.
  Plain words on a journal: what lies on its disk, and that Open reads just that.
  Plain words on Append: it is done, or power went and a crash leaves the journal as it was or as it should be.
  Plain words on Compact: it is done, or power went and a crash leaves the journal as it was or as it should be.
  Plain words on a journal that begins, on an armed disk, and on one that was crashed.
-/
import Derived.Test.YtfhlidlmipleaaaJzB
import Derived.Deep.RegionHeld3
namespace Go.Proofs.Ytfhlidlmipleaaa
set_option linter.unusedVariables false
set_option linter.unusedSimpArgs false
open Go Go.RowKit LM

/-- noughts written from a sector on, so many -/
def wipeS (D : Dk) (b0 : Nat) : Nat → Dk × Int
  | 0 => (D, 0)
  | k + 1 => if (wipeS D b0 k).2 ≠ 0 then wipeS D b0 k else (wrD (wipeS D b0 k).1 ((b0 + k : Nat) : Int) zero64, wrE (wipeS D b0 k).1 ((b0 + k : Nat) : Int) zero64)
theorem wipeS_stuck (D : Dk) (b0 k i : Nat) (h : (wipeS D b0 k).2 ≠ 0) : wipeS D b0 (k + i) = wipeS D b0 k := by
  induction i with
  | zero => rfl
  | succ i ih =>
    rw [← Nat.add_assoc]
    show (if (wipeS D b0 (k + i)).2 ≠ 0 then wipeS D b0 (k + i) else _) = _
    rw [ih, if_pos h]
theorem FitJ.wipe {D : Dk} {n : Nat} (h : FitJ D n) (b0 k : Nat) : FitJ (wipeS D b0 k).1 n := by
  induction k with
  | zero => exact h
  | succ k ih =>
    unfold wipeS
    split
    · exact ih
    · exact ih.write _ _
/-- a row of bytes is no block of the disk's -/
theorem dsk_ne_row {base b2 : Nat} {w : World} {D : Dk} {d : Nat} {I : Nat → Prop} (h : Dsk base w D d I) {g n c : Nat} {xs : List Value} (ho : w.ownsRow b2 5 1 (.slice (some ⟨g, 0, none⟩) n c) n xs) : ¬ I g := by
  obtain ⟨gs, cs, r, Ao, co, h, hI⟩ := h
  intro hg
  rcases ho.2 with ⟨e, _⟩ | ⟨g2, cap, cur, e, _, hg2, _⟩
  · cases e
  injection e with e
  injection e with e
  injection e with e
  subst e
  have hrow : ∀ {e : TypeId} {size n : Nat} {v : Value} {xs : List Value}, w.ownsRow base e size v n xs → v.ownBlock = some g → e = 5 := by
    intro e size n v xs hr hv
    rcases hr.2 with ⟨rfl, _⟩ | ⟨g3, cap3, cur3, rfl, _, hg3, _⟩
    · cases hv
    · injection hv with hv
      subst hv
      rw [hg2] at hg3
      injection hg3 with hg3
      injection hg3 with _ hg3
      exact hg3.symm
  rcases (hI g).1 hg with e | e | e | e
  · subst e
    have := h.blk
    rw [hg2] at this
    injection this with this
    injection this with _ this
    exact absurd this (by decide)
  · have := hrow h.stay (by rw [e]; rfl)
    exact absurd this (by decide)
  · subst e
    obtain ⟨es, clk, hm, _⟩ := h.map
    rw [hg2] at hm
    injection hm with hm
    cases hm
  · have := hrow h.ord e
    exact absurd this (by decide)
def wipeJ (D : Dk) (J : Jn) : Dk × Int := wipeS D (nextJ D J) (sizeJ D - J.used)
set_option maxRecDepth 100000 in
set_option maxHeartbeats 3200000 in
theorem wipe_any (base n : Nat) (w : World) (D : Dk) (J : Jn) (j d : Nat) (I K : Nat → Prop) (h : Jd base w D J j d I K) (hF : FitJ D n) (hn : 4 ≤ n ∧ n ≤ 1000) (hbase : base ≤ w.heap.size) (hh : J.half < 2) (hu : J.used ≤ sizeJ D) :
    Calls Try.prog 156 #[.pointer (some ⟨j, 0, none⟩)] w fun e w' => e = .returned (.int .i64 (wipeJ D J).2) ∧ ∃ I', Stp base w w' (wipeJ D J).1 J j d I K I' K := by
  unfold wipeJ
  have hlen := hF.len
  have hsz := sizeJ_le (D := D) (by omega)
  have hnx : nextJ D J = 2 + J.half * sizeJ D + J.used := rfl
  obtain ⟨m, hm⟩ : ∃ m, J.half * sizeJ D = m := ⟨_, rfl⟩
  have hmle : m ≤ 511 := by
    rcases (by omega : J.half = 0 ∨ J.half = 1) with e | e <;> rw [e] at hm <;> omega
  have em : (J.half : Int) * (sizeJ D : Int) = (m : Int) := by rw [← hm]; simp
  rw [hm] at hnx
  obtain ⟨s, hs⟩ : ∃ s, sizeJ D = s := ⟨_, rfl⟩
  rw [hs] at hsz hu em ⊢
  have HSZ := fun (D' : Dk) (e : D'.stay.length = n) => hid (show sizeJ D' = s by rw [← hs]; unfold sizeJ; rw [e, hlen])
  have q4 : w.cell? ⟨j, 4, none⟩ = some (.int .i64 J.used) := by
    obtain ⟨_, _, _, _, _, _, _, _, _, q4, _⟩ := h.jn.cells
    exact q4
  generalize hnxx : nextJ D J = nx at *
  clear hnxx hm hs
  go_enter Try.func156, Try.ntmps156
  go_wp2_with fail
  clear q4
  go_loopw [3] (fun i wr => ∃ (k : Nat) (I1 : Nat → Prop), k ≤ s - J.used ∧ i = .int .i64 ((J.used + k : Nat) : Int) ∧ (wipeS D nx k).2 = 0 ∧ Stp base w wr (wipeS D nx k).1 J j d I K I1 K) (fun i _ => s - (intOf i).toNat)
  case atStart => exact ⟨0, I, Nat.zero_le _, rfl, rfl, Stp.refl h⟩
  case round =>
    obtain ⟨k, I1, hkm, rfl, h0, s1⟩ := hrel
    have hF1 := hF.wipe nx k
    have hl1 := hF1.len
    have hz1 := HSZ _ hl1
    by_cases hk : k < s - J.used
    · have HR : Hid (wipeS D nx (k + 1) = (wrD (wipeS D nx k).1 ((nx + k : Nat) : Int) zero64, wrE (wipeS D nx k).1 ((nx + k : Nat) : Int) zero64)) := hid (by
        show (if (wipeS D nx k).2 ≠ 0 then wipeS D nx k else _) = _
        rw [if_neg (by omega)])
      have HS := fun h => hid (wipeS_stuck D nx (k + 1) (s - J.used - (k + 1)) h)
      rw [show k + 1 + (s - J.used - (k + 1)) = s - J.used by omega] at HS
      obtain ⟨Aa, ca, hjl, _, _, q0, q1, q2, _⟩ := s1.jd.jn.cells
      have hfew := hF1.few
      have hjd := s1.jd
      have hbw := Nat.le_trans hbase s1.size
      obtain ⟨ix, ei⟩ : ∃ ix : Int, 2 + (m : Int) + ((J.used : Int) + (k : Int)) = ix := ⟨_, rfl⟩
      have ei2 : ((nx + k : Nat) : Int) = ix := by omega
      rw [ei2] at HR
      clear ei2
      generalize wipeS D nx k = R at *
      have hjI : ¬ (False ∨ I1 j) := by
        rintro (e | e)
        · exact e
        · exact hjd.dis j e hjd.jn.mem
      have z0 := fun (z : WK (fun y => False ∨ I1 y) wr) => (wat_cell (p := ⟨j, 0, none⟩) hjl hjI z).trans q0
      have z2 := fun (z : WK (fun y => False ∨ I1 y) wr) => (wat_cell (p := ⟨j, 2, none⟩) hjl hjI z).trans q2
      clear q0 q1 q2
      go_wp2_with fail
      refine (size_any' base wr R.1 J j d I1 K hjd.dk hjd.jn (by omega) (by omega)).mono ?_
      rintro e w2 ⟨rfl, rfl⟩
      rw [hz1.out]
      go_wp2_with fail
      have hsz2 := s1.size
      refine wp_region_loud (fun y => False ∨ I1 y) [(9, factL [100] (fun v => v = .int .i64 (s : Int)) (fun _ => DskF base R.1 d)), (14, rowL [] base 5 1 64 (B8 zero64)), (15, factL [9, 14] (fun v => v = .int .i64 (wrE R.1 ix zero64)) (fun _ => DskF base (wrD R.1 ix zero64) d))] (addL 100 (DskF base R.1 d) (fun _ => Fact.none)) (by kernel_rfl) (by kernel_rfl)
        (.cons (factL_ok ⟨_, rfl⟩ (fun _ => good_dsk _ _ _)) (.cons (rowL_ok _ _ _ _ _ _) (.cons (factL_ok ⟨_, rfl⟩ (fun _ => good_dsk _ _ _)) .nil))) (good_add _ (good_dsk _ _ _) good_nothing)
        (sat_add 100 sat_none (fun b _ h => h) (fun b hb => (hjd.dk.bd b hb).2) ⟨I1, fun b hb => hb, hjd.dk⟩) (WX.out ?_)
      repeat (first | (refine wx_quietU (by rfl) (by rfl) (by rfl) (fun K hK => ?_); go_big_quiet_op; refine hK _ ?_; clear hK K) | (refine wx_quietG (by rfl) (by rfl) (by rfl) (by rfl) (by rfl) (fun K hK => ?_); go_big_quiet_op; refine hK _ ?_; clear hK K) | (refine wx_skipG (by rfl) (by rfl) (by rfl) (fun K hK => ?_); go_simp; refine hK _ ?_; clear hK K) | (refine wx_skipN (by rfl) (by rfl) (by rfl) (fun K hK => ?_); go_simp; refine hK _ ?_; clear hK K))
      have hKS : ∀ y, K y → ¬ (False ∨ I1 y) := fun y hy e => by
        rcases e with e | e
        · exact e
        · exact hjd.dis y e hy
      refine wx_loudU (us := [100]) (by rfl) (by rfl) (fun S wS hC hS hU => runs_enter (f := 122) (by go_simp <;> rfl) ?_) (fun v hv K hK => ?_)
      · obtain ⟨I3, hI3, hD3⟩ := (hU 100 (by simp) : DskF base R.1 d S wS)
        refine (size_any' base wS R.1 J j d I3 K hD3 (hjd.jn.kept hC hKS) (by omega) (by omega)).mono ?_
        rintro e w9 ⟨rfl, rfl⟩
        exact ⟨.int .i64 (s : Int), by rw [hz1.out], rfl, Kept.refl _ _, I3, fun y hy => .inl (hI3 y hy), hD3⟩
      obtain rfl := hv; (go_simp; refine hK _ ?_; clear hK K)
      repeat (first | (refine wx_quietU (by rfl) (by rfl) (by rfl) (fun K hK => ?_); go_big_quiet_op; refine hK _ ?_; clear hK K) | (refine wx_quietG (by rfl) (by rfl) (by rfl) (by rfl) (by rfl) (fun K hK => ?_); go_big_quiet_op; refine hK _ ?_; clear hK K) | (refine wx_skipG (by rfl) (by rfl) (by rfl) (fun K hK => ?_); go_simp; refine hK _ ?_; clear hK K) | (refine wx_skipN (by rfl) (by rfl) (by rfl) (fun K hK => ?_); go_simp; refine hK _ ?_; clear hK K))
      refine wx_loudU (us := []) (by rfl) (by rfl) (fun S wS hC hS hU => ?_) (fun v hv K hK => ?_)
      · obtain ⟨w1, hm, hown, hb1⟩ := mk64 wS
        exact runs_value (by go_simp <;> rfl) ⟨⟨_, _, rfl⟩, Kept.of_below hb1, own_fresh hown (Nat.le_trans hbw hC.size)⟩
      obtain ⟨A5, c5, rfl⟩ := hv; (go_simp; refine hK _ ?_; clear hK K)
      repeat (first | (refine wx_quietU (by rfl) (by rfl) (by rfl) (fun K hK => ?_); go_big_quiet_op; refine hK _ ?_; clear hK K) | (refine wx_quietG (by rfl) (by rfl) (by rfl) (by rfl) (by rfl) (fun K hK => ?_); go_big_quiet_op; refine hK _ ?_; clear hK K) | (refine wx_skipG (by rfl) (by rfl) (by rfl) (fun K hK => ?_); go_simp; refine hK _ ?_; clear hK K) | (refine wx_skipN (by rfl) (by rfl) (by rfl) (fun K hK => ?_); go_simp; refine hK _ ?_; clear hK K))
      refine wx_loudU (us := [9, 14]) (by rfl) (by rfl) (fun S wS hC hS hU => runs_enter (f := 17) (by go_simp <;> rfl) ?_) (fun v hv K hK => ?_)
      · obtain ⟨I3, hI3, hD3⟩ := (hU 9 (by simp) : DskF base R.1 d S wS)
        have ho : OwnF base 5 1 64 (B8 zero64) (.slice A5 64 c5) S wS := hU 14 (by simp)
        obtain ⟨g5, rfl, _, _⟩ := own_some ho.2 (by omega)
        refine (dsk_write base wS R.1 d I3 _ g5 0 64 c5 zero64 hD3 (Nat.le_trans hbw hC.size) (own_sl ho.2) (.inl rfl) (by omega) (dsk_ne_row hD3 ho.2)).mono ?_
        rintro e w9 ⟨rfl, I4, hD4, ht4⟩
        refine ⟨_, rfl, rfl, ht4.1.wider hI3, I4, fun y hy => ?_, hD4⟩
        rcases ht4.2 y hy with h1 | h1
        · exact .inl (hI3 y h1)
        · exact .inr ⟨h1, (hD4.bd y hy).2⟩
      obtain rfl := hv; (go_simp; refine hK _ ?_; clear hK K)
      repeat (first | (refine wx_quietU (by rfl) (by rfl) (by rfl) (fun K hK => ?_); go_big_quiet_op; refine hK _ ?_; clear hK K) | (refine wx_quietG (by rfl) (by rfl) (by rfl) (by rfl) (by rfl) (fun K hK => ?_); go_big_quiet_op; refine hK _ ?_; clear hK K) | (refine wx_skipG (by rfl) (by rfl) (by rfl) (fun K hK => ?_); go_simp; refine hK _ ?_; clear hK K) | (refine wx_skipN (by rfl) (by rfl) (by rfl) (fun K hK => ?_); go_simp; refine hK _ ?_; clear hK K))
      refine wx_nil fun w21 hsat => ?_
      obtain ⟨S, hS, hfin⟩ := sat_get hsat 15
      obtain ⟨I5, hI5, hD5⟩ := (hfin : DskF base (wrD R.1 ix zero64) d S w21)
      have s2 : Stp base w2 w21 (wrD R.1 ix zero64) J j d I1 K I5 K := by
        refine hjd.turn hD5 ⟨hsat.1.wider (fun y hy => hy.elim False.elim id), fun y hy => ?_⟩
        rcases (hS y (hI5 y hy)).1 with e | e
        · exact .inl (e.elim False.elim id)
        · exact .inr e
      have s3 := s1.trans s2
      clear hsat hD5 s2 s1 hI5 hS z0 z2 hKS
      by_cases hz : wrE R.1 ix zero64 = 0
      · rw [hz]
        go_wp2_with fail
        go_light
        refine ⟨⟨k + 1, I5, by omega, by go_num, by rw [HR.out]; exact hz, by rw [HR.out]; exact s3⟩, by simp [intOf]; omega⟩
      · have hz2 : (wrE R.1 ix zero64 != 0) = true := by simpa using hz
        have hst := (HS (by rw [HR.out]; exact hz)).out
        rw [HR.out] at hst
        have HST := hid hst
        clear hst HS HR
        go_wp2_with fail
        go_ret
        rw [HST.out]
        exact ⟨rfl, I5, s3⟩
    · obtain rfl : k = s - J.used := by omega
      go_wp2_with fail
      refine (size_any' base wr _ J j d I1 K s1.jd.dk s1.jd.jn (by omega) (by omega)).mono ?_
      rintro e w2 ⟨rfl, rfl⟩
      rw [hz1.out]
      go_wp2_with fail
      go_ret
      rw [h0]
      exact ⟨rfl, I1, s1⟩
end Go.Proofs.Ytfhlidlmipleaaa
namespace Go.Proofs.Ytfhlidlmipleaaa
set_option linter.unusedVariables false
set_option linter.unusedSimpArgs false
open Go Go.RowKit LM

def sumT : List (List UInt8) → Nat
  | [] => 0
  | l :: t => takesN l.length + sumT t
theorem sumT_app (a b : List (List UInt8)) : sumT (a ++ b) = sumT a + sumT b := by
  induction a with
  | nil => simp [sumT]
  | cons l t ih => simp [sumT, ih]; omega
theorem sumT_len (a : List (List UInt8)) : a.length ≤ sumT a := by
  induction a with
  | nil => simp [sumT]
  | cons l t ih => have : 1 ≤ takesN l.length := by unfold takesN; omega
                   simp [sumT]; omega
def frJ (J : Jn) (l : List UInt8) : List UInt8 := frameJ J.gen J.all.length l
def layL (D : Dk) (J : Jn) : List (List UInt8) → Dk × Jn × Int
  | [] => (D, J, 0)
  | l :: t =>
    if (restS D (nextJ D J) (frJ J l) (takesN l.length - 1)).2 ≠ 0 then ((restS D (nextJ D J) (frJ J l) (takesN l.length - 1)).1, J, (restS D (nextJ D J) (frJ J l) (takesN l.length - 1)).2)
    else if wrE (restS D (nextJ D J) (frJ J l) (takesN l.length - 1)).1 (nextJ D J) ((frJ J l).take 64) ≠ 0 then (wrD (restS D (nextJ D J) (frJ J l) (takesN l.length - 1)).1 (nextJ D J) ((frJ J l).take 64), J, wrE (restS D (nextJ D J) (frJ J l) (takesN l.length - 1)).1 (nextJ D J) ((frJ J l).take 64))
    else layL (wrD (restS D (nextJ D J) (frJ J l) (takesN l.length - 1)).1 (nextJ D J) ((frJ J l).take 64)) (addJ J l) t
def layS (D : Dk) (J : Jn) (ls : List (List UInt8)) : Dk × Jn × Int :=
  if (layL D J ls).2.2 ≠ 0 then layL D J ls else ((wipeJ (layL D J ls).1 (layL D J ls).2.1).1, (layL D J ls).2.1, (wipeJ (layL D J ls).1 (layL D J ls).2.1).2)
theorem JOk.add {J : Jn} (h : JOk J) {l : List UInt8} (h1 : 1 ≤ l.length) (h8 : l.length ≤ 8192) (hu : J.used + takesN l.length ≤ 1024) (hf : J.all.length < 1024) : JOk (addJ J l) := by
  refine ⟨h.half, h.gen, hu, by simp [addJ]; omega, fun x hx => ?_⟩
  have e2 : (addJ J l).all = J.all ++ [l] := rfl
  rw [e2] at hx
  rcases List.mem_append.1 hx with hx | hx
  · exact h.ent x hx
  · simp at hx; subst hx; exact ⟨h1, h8⟩
set_option maxRecDepth 100000 in
set_option maxHeartbeats 6400000 in
theorem lay_any (base n : Nat) (w : World) (D : Dk) (J : Jn) (j d : Nat) (I K : Nat → Prop) (h : Jd base w D J j d I K) (hF : FitJ D n) (hn : 4 ≤ n ∧ n ≤ 1000) (hbase : base ≤ w.heap.size) (hO : JOk J)
    (A : Option Addr) (na c : Nat) (vs : List Value) (ls : List (List UInt8)) (F : Nat → Prop) (hE : Ents w A na c vs ls F) (hA : 0 < na → ∀ ad, A = some ad → ¬ (I ad.block ∨ K ad.block)) (hFI : ∀ b, F b → ¬ (I b ∨ K b)) (hls : ∀ l ∈ ls, 1 ≤ l.length ∧ l.length ≤ 8192) (hfit : J.used + sumT ls ≤ sizeJ D) (hcnt : J.all.length ≤ J.used) :
    Calls Try.prog 120 #[.pointer (some ⟨j, 0, none⟩), .slice A na c] w fun e w' => e = .returned (.int .i64 (layS D J ls).2.2) ∧ ∃ I' K', Stp base w w' (layS D J ls).1 (layS D J ls).2.1 j d I K I' K' := by
  obtain rfl := hE.len
  have hlen := hF.len
  have hszl := sizeJ_le (D := D) (by omega)
  obtain ⟨hnc1, hnc2⟩ : ls.length ≤ c ∧ c ≤ 9223372036854775807 := by
    obtain ⟨A', n', c', he, _, e1, e2, _⟩ := hE.row
    injection he with h4 h5 h6
    subst h4; subst h5; subst h6
    exact ⟨e1, by simpa [maxLen] using e2⟩
  have hlsl := sumT_len ls
  go_enter Try.func120, Try.ntmps120
  go_wp2_with fail
  go_loopw [12] (fun i wr => ∃ (k : Nat) (D1 : Dk) (J1 : Jn) (I1 K1 : Nat → Prop), k ≤ ls.length ∧ i = .int .i64 k ∧ layL D1 J1 (ls.drop k) = layL D J ls ∧ Stp base w wr D1 J1 j d I K I1 K1 ∧ FitJ D1 n ∧ JOk J1 ∧ J1.used + sumT (ls.drop k) ≤ sizeJ D ∧ J1.all.length ≤ J1.used) (fun i _ => ls.length - (intOf i).toNat)
  case atStart => exact ⟨0, D, J, I, K, Nat.zero_le _, rfl, rfl, Stp.refl h, hF, hO, by simpa using hfit, hcnt⟩
  case round =>
    obtain ⟨k, D1, J1, I1, K1, hk, rfl, hlay, s1, hF1, hO1, hfit1, hcnt1⟩ := hrel
    have hl1 := hF1.len
    have hz1 : sizeJ D1 = sizeJ D := by unfold sizeJ; rw [hl1, hlen]
    by_cases hkn : k < ls.length
    · obtain ⟨b, off, A', n', c', rfl, hb, hcell0, hs0, hF'⟩ := hE.at k hkn
      have hcell := (World.cell?_of_block (a := ⟨b, off + k, none⟩) (s1.kp.block b hb (hA (by omega) _ rfl))).trans hcell0
      have hs := sl_keptM hs0 s1.kp (fun h0 ad had => hFI _ (hF' h0 ad had))
      have hb := Nat.lt_of_lt_of_le hb s1.size
      clear hcell0
      have hdr : ls.drop k = ls.getD k [] :: ls.drop (k + 1) := by
        rw [List.drop_eq_getElem_cons (by omega), List.getD_eq_getElem?_getD, List.getElem?_eq_getElem (by omega)]
        rfl
      have hmem : ls.getD k [] ∈ ls := by
        rw [List.getD_eq_getElem?_getD, List.getElem?_eq_getElem (by omega)]
        exact List.getElem_mem _
      rw [hdr] at hlay hfit1
      have hlb := hls _ hmem
      have hml := hs.len.1
      generalize ls.getD k [] = l at *
      subst hml
      have htk : 1 ≤ takesN l.length ∧ takesN l.length ≤ 130 := by unfold takesN; omega
      obtain ⟨g0, off0, rfl, hg0, _⟩ := hs0.byte (k := 0) (by omega)
      have hg0n := hFI _ (hF' (by omega) _ rfl)
      simp only [sumT] at hfit1
      have HL : Hid (layL D J ls = if (restS D1 (nextJ D1 J1) (frJ J1 l) (takesN l.length - 1)).2 ≠ 0 then ((restS D1 (nextJ D1 J1) (frJ J1 l) (takesN l.length - 1)).1, J1, (restS D1 (nextJ D1 J1) (frJ J1 l) (takesN l.length - 1)).2)
          else if wrE (restS D1 (nextJ D1 J1) (frJ J1 l) (takesN l.length - 1)).1 (nextJ D1 J1) ((frJ J1 l).take 64) ≠ 0 then (wrD (restS D1 (nextJ D1 J1) (frJ J1 l) (takesN l.length - 1)).1 (nextJ D1 J1) ((frJ J1 l).take 64), J1, wrE (restS D1 (nextJ D1 J1) (frJ J1 l) (takesN l.length - 1)).1 (nextJ D1 J1) ((frJ J1 l).take 64))
          else layL (wrD (restS D1 (nextJ D1 J1) (frJ J1 l) (takesN l.length - 1)).1 (nextJ D1 J1) ((frJ J1 l).take 64)) (addJ J1 l) (ls.drop (k + 1))) := hid hlay.symm
      have HS : Hid (layS D J ls = if (layL D J ls).2.2 ≠ 0 then layL D J ls else ((wipeJ (layL D J ls).1 (layL D J ls).2.1).1, (layL D J ls).2.1, (wipeJ (layL D J ls).1 (layL D J ls).2.1).2)) := hid rfl
      have hbw := Nat.le_trans hbase s1.size
      have hjd := s1.jd
      have hgen := hO1.gen
      have hfew := hO1.few
      have hhalf := hO1.half
      have hus := hO1.used
      clear hlay hdr hmem hF'
      go_wp2_with fail
      refine (frame_any base wr J1 j d K1 hjd.jn (by omega) (by omega) _ l.length c' l hs (by omega)).mono ?_
      rintro e w3 ⟨Af, cf, rfl, hownf, hb3⟩
      obtain ⟨g, rfl, hg1, hg2⟩ := own_some hownf (by omega)
      have hfs := own_sl hownf
      have hcf := hfs.len.2.1
      have s3 := s1.trans (Stp.ofBelow hjd hb3)
      have hgn : ¬ (I1 g ∨ K1 g) := fun e => by have := (hjd.lt g e).2; omega
      have hfs' : Sl w3 1 (.slice (some ⟨g, 0, none⟩) (64 * takesN l.length) cf) (B8 (frJ J1 l)) := by rw [Nat.mul_comm]; exact hfs
      have hbw3 := Nat.le_trans hbase s3.size
      have hsz3 := hb3.size
      clear hownf hb3 hjd s1
      go_wp2_with fail
      rw [show takesN l.length * 64 = 64 * takesN l.length from Nat.mul_comm _ _]
      refine (rest_any base n w3 D1 J1 j d I1 K1 s3.jd hF1 (by omega) hbw3 hhalf (by omega) g 0 cf (takesN l.length) _ hfs' hgn (by omega)).mono ?_
      rintro e w4 ⟨rfl, I4, s4⟩
      have s5 := s3.trans s4
      have hsz4 := s4.size
      have hg4 : ¬ (I4 g ∨ K1 g) := s4.nb hg2 hgn
      have hfs4 := sl_kept hfs s4.kp (fun ad had => by injection had with had; subst had; exact hgn)
      have hF4 := hF1.rest (nextJ D1 J1) (frJ J1 l) (takesN l.length - 1)
      have hnx4 : nextJ (restS D1 (nextJ D1 J1) (frJ J1 l) (takesN l.length - 1)).1 J1 = nextJ D1 J1 := nextJ_len (hF4.len.trans hl1.symm) J1
      have hnl := nextJ_le (D := D1) (J := J1) (by omega) hhalf
      generalize restS D1 (nextJ D1 J1) (frJ J1 l) (takesN l.length - 1) = R at *
      clear hfs hfs' s3 s4
      by_cases h0 : R.2 = 0
      · have HL2 : Hid (layL D J ls = if wrE R.1 (nextJ D1 J1) ((frJ J1 l).take 64) ≠ 0 then (wrD R.1 (nextJ D1 J1) ((frJ J1 l).take 64), J1, wrE R.1 (nextJ D1 J1) ((frJ J1 l).take 64))
            else layL (wrD R.1 (nextJ D1 J1) ((frJ J1 l).take 64)) (addJ J1 l) (ls.drop (k + 1))) := hid (by rw [HL.out, if_neg (by simpa using h0)])
        rw [h0]
        clear HL h0
        obtain ⟨Aa, ca, hjl4, _, _, q0, _⟩ := s5.jd.jn.cells
        have hfew4 := hF4.few
        have hl4 := hF4.len
        have hjd := s5.jd
        have hbw := Nat.le_trans hbase s5.size
        have hcf64 : 64 ≤ cf := by omega
        have hf64 : Sl w4 1 (.slice (some ⟨g, 0, none⟩) 64 cf) (B8 ((frJ J1 l).take 64)) := hfs4.take 64 (by omega)
        have hjI : ¬ (False ∨ I4 j) := by
          rintro (e | e)
          · exact e
          · exact hjd.dis j e hjd.jn.mem
        have hgI : ¬ (False ∨ I4 g) := by
          rintro (e | e)
          · exact e
          · exact hg4 (.inl e)
        have z0 := fun (z : WK (fun y => False ∨ I4 y) w4) => (wat_cell (p := ⟨j, 0, none⟩) hjl4 hjI z).trans q0
        clear q0 hfs4
        go_wp2_with fail
        refine wp_region_loud (fun y => False ∨ I4 y) [(5, factL [100] (fun v => v = .int .i64 (nextJ D1 J1)) (fun _ => DskF base R.1 d)), (8, factL [5] (fun v => v = .int .i64 (wrE R.1 (nextJ D1 J1) ((frJ J1 l).take 64))) (fun _ => DskF base (wrD R.1 (nextJ D1 J1) ((frJ J1 l).take 64)) d))] (addL 100 (DskF base R.1 d) (fun _ => Fact.none)) (by kernel_rfl) (by kernel_rfl)
          (.cons (factL_ok ⟨_, rfl⟩ (fun _ => good_dsk _ _ _)) (.cons (factL_ok ⟨_, rfl⟩ (fun _ => good_dsk _ _ _)) .nil)) (good_add _ (good_dsk _ _ _) good_nothing)
          (sat_add 100 sat_none (fun b _ h => h) (fun b hb => (hjd.dk.bd b hb).2) ⟨I4, fun b hb => hb, hjd.dk⟩) (WX.out ?_)
        repeat (first | (refine wx_quietU (by rfl) (by rfl) (by rfl) (fun K hK => ?_); go_big_quiet_op; refine hK _ ?_; clear hK K) | (refine wx_quietG (by rfl) (by rfl) (by rfl) (by rfl) (by rfl) (fun K hK => ?_); go_big_quiet_op; refine hK _ ?_; clear hK K) | (refine wx_skipG (by rfl) (by rfl) (by rfl) (fun K hK => ?_); go_simp; refine hK _ ?_; clear hK K) | (refine wx_skipN (by rfl) (by rfl) (by rfl) (fun K hK => ?_); go_simp; refine hK _ ?_; clear hK K))
        have hKS : ∀ y, K1 y → ¬ (False ∨ I4 y) := fun y hy e => by
          rcases e with e | e
          · exact e
          · exact hjd.dis y e hy
        refine wx_loudU (us := [100]) (by rfl) (by rfl) (fun S wS hC hS hU => runs_enter (f := 117) (by go_simp <;> rfl) ?_) (fun v hv K hK => ?_)
        · obtain ⟨I3, hI3, hD3⟩ := (hU 100 (by simp) : DskF base R.1 d S wS)
          refine (next_any base wS R.1 J1 j d I3 K1 hD3 (hjd.jn.kept hC hKS) (by omega) (by omega) hhalf (by omega)).mono ?_
          rintro e w9 ⟨rfl, hb9⟩
          exact ⟨.int .i64 (nextJ D1 J1), by rw [hnx4], rfl, Kept.of_below hb9, I3, fun y hy => .inl (hI3 y hy), hD3.below hb9⟩
        obtain rfl := hv; (go_simp; refine hK _ ?_; clear hK K)
        repeat (first | (refine wx_quietU (by rfl) (by rfl) (by rfl) (fun K hK => ?_); go_big_quiet_op; refine hK _ ?_; clear hK K) | (refine wx_quietG (by rfl) (by rfl) (by rfl) (by rfl) (by rfl) (fun K hK => ?_); go_big_quiet_op; refine hK _ ?_; clear hK K) | (refine wx_skipG (by rfl) (by rfl) (by rfl) (fun K hK => ?_); go_simp; refine hK _ ?_; clear hK K) | (refine wx_skipN (by rfl) (by rfl) (by rfl) (fun K hK => ?_); go_simp; refine hK _ ?_; clear hK K))
        refine wx_loudU (us := [5]) (by rfl) (by rfl) (fun S wS hC hS hU => runs_enter (f := 17) (by go_simp <;> rfl) ?_) (fun v hv K hK => ?_)
        · obtain ⟨I3, hI3, hD3⟩ := (hU 5 (by simp) : DskF base R.1 d S wS)
          have hsl := sl_kept hf64 hC (fun ad had => by injection had with had; subst had; exact hgI)
          refine (dsk_write base wS R.1 d I3 _ g _ 64 _ ((frJ J1 l).take 64) hD3 (Nat.le_trans hbw hC.size) hsl (.inl rfl) (by omega) (fun hx => by
            rcases (hS g (hI3 g hx)).1 with e | e
            · exact hgI e
            · omega)).mono ?_
          rintro e w9 ⟨rfl, I5, hD5, ht5⟩
          refine ⟨_, rfl, rfl, ht5.1.wider hI3, I5, fun y hy => ?_, hD5⟩
          rcases ht5.2 y hy with h1 | h1
          · exact .inl (hI3 y h1)
          · exact .inr ⟨h1, (hD5.bd y hy).2⟩
        obtain rfl := hv; (go_simp; refine hK _ ?_; clear hK K)
        repeat (first | (refine wx_quietU (by rfl) (by rfl) (by rfl) (fun K hK => ?_); go_big_quiet_op; refine hK _ ?_; clear hK K) | (refine wx_quietG (by rfl) (by rfl) (by rfl) (by rfl) (by rfl) (fun K hK => ?_); go_big_quiet_op; refine hK _ ?_; clear hK K) | (refine wx_skipG (by rfl) (by rfl) (by rfl) (fun K hK => ?_); go_simp; refine hK _ ?_; clear hK K) | (refine wx_skipN (by rfl) (by rfl) (by rfl) (fun K hK => ?_); go_simp; refine hK _ ?_; clear hK K))
        refine wx_nil fun w21 hsat => ?_
        obtain ⟨S, hS, hfin⟩ := sat_get hsat 8
        obtain ⟨I5, hI5, hD5⟩ := (hfin : DskF base (wrD R.1 (nextJ D1 J1) ((frJ J1 l).take 64)) d S w21)
        have s2 : Stp base w4 w21 (wrD R.1 (nextJ D1 J1) ((frJ J1 l).take 64)) J1 j d I4 K1 I5 K1 := by
          refine hjd.turn hD5 ⟨hsat.1.wider (fun y hy => hy.elim False.elim id), fun y hy => ?_⟩
          rcases (hS y (hI5 y hy)).1 with e | e
          · exact .inl (e.elim False.elim id)
          · exact .inr e
        have s6 := s5.trans s2
        have hF5 := hF4.write (nextJ D1 J1) ((frJ J1 l).take 64)
        clear hsat hD5 s2 s5 hI5 hS z0 hf64 hKS hjd
        by_cases hz : wrE R.1 (nextJ D1 J1) ((frJ J1 l).take 64) = 0
        · have HL3 : Hid (layL D J ls = layL (wrD R.1 (nextJ D1 J1) ((frJ J1 l).take 64)) (addJ J1 l) (ls.drop (k + 1))) := hid (by rw [HL2.out, if_neg (by simpa using hz)])
          rw [hz]
          have hl21 := sl_kept hs0 s6.kp (fun ad had => by injection had with had; subst had; exact hg0n)
          have hb21 := Nat.le_trans hbase s6.size
          have hOa := hO1.add (l := l) hlb.1 hlb.2 (by omega) (by omega)
          clear HL2 hz hs
          go_wp2_with fail
          refine (clone_any g0 off0 l.length c' l w21 hl21 (by omega)).mono ?_
          rintro e w22 ⟨A8, c8, rfl, hown8, hb8⟩
          obtain ⟨g8, rfl, hg8, hg8'⟩ := own_some hown8 (by omega)
          have s7 := s6.trans (Stp.ofBelow s6.jd hb8)
          have hn8 : ¬ (I5 g8 ∨ K1 g8) := fun e => by have := (s6.jd.lt g8 e).2; omega
          have hsl8 := own_sl hown8
          clear hown8 hl21
          go_wp2_with fail
          refine (add_any base w22 _ J1 j d I5 K1 s7.jd (Nat.le_trans hbase s7.size) (by omega) (by omega) g8 0 l.length c8 l hsl8 (by omega) ⟨by omega, hg8'⟩ hn8).mono ?_
          rintro e w23 ⟨rfl, K6, hjd6, hk6, hs6⟩
          have s8 : Stp base w w23 (wrD R.1 (nextJ D1 J1) ((frJ J1 l).take 64)) (addJ J1 l) j d I K I5 K6 := by
            refine ⟨hjd6, s7.kp.step hk6 (fun y hy => s7.sub y (.inr hy)), fun y hy => ?_⟩
            rcases hy with hy | hy
            · exact s7.sub y (.inl hy)
            · rcases hs6 y hy with e | e | e
              · exact s7.sub y (.inr e)
              · exact .inr (by have := s6.size; omega)
              · exact .inr (Nat.le_trans s7.size e)
          clear hjd6 hk6 hs6 s7 s6 hb8
          go_wp2_with fail
          go_light
          refine ⟨⟨k + 1, _, addJ J1 l, I5, K6, by omega, by go_num, HL3.out.symm, s8, hF5, hOa, by simp only [addJ]; omega, by simp only [addJ, List.length_append, List.length_singleton]; omega⟩, by simp [intOf]; omega⟩
        · have hL := HL2.out
          rw [if_pos hz] at hL
          have HST : Hid (layS D J ls = (wrD R.1 (nextJ D1 J1) ((frJ J1 l).take 64), J1, wrE R.1 (nextJ D1 J1) ((frJ J1 l).take 64))) := hid (HS.out.trans (by rw [hL]; exact if_pos hz))
          have hz2 : (wrE R.1 (nextJ D1 J1) ((frJ J1 l).take 64) != 0) = true := by simpa using hz
          clear HL2 hL hs HS hz
          go_wp2_with fail
          go_ret
          rw [HST.out]
          exact ⟨rfl, I5, K1, s6⟩
      · have hL := HL.out
        rw [if_pos h0] at hL
        have HST : Hid (layS D J ls = (R.1, J1, R.2)) := hid (HS.out.trans (by rw [hL]; exact if_pos h0))
        have hz2 : (R.2 != 0) = true := by simpa using h0
        clear HL hL hs HS h0
        go_wp2_with fail
        go_ret
        rw [HST.out]
        exact ⟨rfl, I4, K1, s5⟩
    · obtain rfl : k = ls.length := by omega
      rw [List.drop_length] at hlay
      have hL : layL D J ls = (D1, J1, 0) := hlay.symm
      have hL2 : layS D J ls = ((wipeJ D1 J1).1, J1, (wipeJ D1 J1).2) := by unfold layS; rw [hL]; simp
      have HL := hid hL2
      have hbw := Nat.le_trans hbase s1.size
      have hus1 : J1.used ≤ sizeJ D1 := by rw [hz1]; omega
      clear hlay hL hL2
      go_wp2_with fail
      refine (wipe_any base n wr D1 J1 j d I1 K1 s1.jd hF1 hn hbw hO1.half hus1).mono ?_
      rintro e w2 ⟨rfl, I2, s2⟩
      have s3 := s1.trans s2
      clear s1 s2
      go_wp2_with fail
      go_ret
      rw [HL.out]
      exact ⟨rfl, I2, K1, s3⟩
end Go.Proofs.Ytfhlidlmipleaaa
namespace Go.Proofs.Ytfhlidlmipleaaa
set_option linter.unusedVariables false
set_option linter.unusedSimpArgs false
open Go Go.RowKit LM

theorem noteJ_gen (J : Jn) (e : Int) : (noteJ J e).gen = J.gen := by unfold noteJ; split <;> rfl
theorem noteJ_half (J : Jn) (e : Int) : (noteJ J e).half = J.half := by unfold noteJ; split <;> rfl
def newJ (J : Jn) : Jn := ⟨J.gen + 1, 1 - J.half, [], 0, false⟩
def compS (D : Dk) (J : Jn) (ls : List (List UInt8)) : Dk × Jn × Int :=
  if mayJ D J ls 0 ≠ 0 then (D, J, mayJ D J ls 0)
  else if (layS D (newJ J) ls).2.2 ≠ 0 then ((layS D (newJ J) ls).1, noteJ J (layS D (newJ J) ls).2.2, (layS D (newJ J) ls).2.2)
  else if flE (layS D (newJ J) ls).1 ≠ 0 then (flD (layS D (newJ J) ls).1, noteJ J (flE (layS D (newJ J) ls).1), flE (layS D (newJ J) ls).1)
  else if sureE (flD (layS D (newJ J) ls).1) (((J.gen + 1) % 2 : Nat) : Int) (slotJ (J.gen + 1) (1 - J.half)) ≠ 0 then (sureD (flD (layS D (newJ J) ls).1) (((J.gen + 1) % 2 : Nat) : Int) (slotJ (J.gen + 1) (1 - J.half)), noteJ J (sureE (flD (layS D (newJ J) ls).1) (((J.gen + 1) % 2 : Nat) : Int) (slotJ (J.gen + 1) (1 - J.half))), sureE (flD (layS D (newJ J) ls).1) (((J.gen + 1) % 2 : Nat) : Int) (slotJ (J.gen + 1) (1 - J.half)))
  else (sureD (flD (layS D (newJ J) ls).1) (((J.gen + 1) % 2 : Nat) : Int) (slotJ (J.gen + 1) (1 - J.half)), (layS D (newJ J) ls).2.1, 0)
theorem layL_same (ls : List (List UInt8)) : ∀ (D : Dk) (J : Jn), (layL D J ls).2.1.gen = J.gen ∧ (layL D J ls).2.1.half = J.half ∧ (layL D J ls).2.1.gone = J.gone := by
  induction ls with
  | nil => intro D J; exact ⟨rfl, rfl, rfl⟩
  | cons l t ih =>
    intro D J
    unfold layL
    split
    · exact ⟨rfl, rfl, rfl⟩
    · split
      · exact ⟨rfl, rfl, rfl⟩
      · exact ih _ (addJ J l)
theorem layS_same (ls : List (List UInt8)) (D : Dk) (J : Jn) : (layS D J ls).2.1.gen = J.gen ∧ (layS D J ls).2.1.half = J.half ∧ (layS D J ls).2.1.gone = J.gone := by
  unfold layS
  split
  · exact layL_same ls D J
  · exact layL_same ls D J
theorem FitJ.layL {n : Nat} (ls : List (List UInt8)) : ∀ {D : Dk} (_ : FitJ D n) (J : Jn), FitJ (layL D J ls).1 n := by
  induction ls with
  | nil => intro D h J; exact h
  | cons l t ih =>
    intro D h J
    unfold Go.Proofs.Ytfhlidlmipleaaa.layL
    split
    · exact h.rest _ _ _
    · split
      · exact (h.rest _ _ _).write _ _
      · exact ih ((h.rest _ _ _).write _ _) _
theorem FitJ.lay {D : Dk} {n : Nat} (h : FitJ D n) (J : Jn) (ls : List (List UInt8)) : FitJ (layS D J ls).1 n := by
  unfold layS
  split
  · exact h.layL ls J
  · exact (h.layL ls J).wipe _ _
theorem FitJ.comp {D : Dk} {n : Nat} (h : FitJ D n) (J : Jn) (ls : List (List UInt8)) : FitJ (compS D J ls).1 n := by
  unfold compS
  split
  · exact h
  · split
    · exact h.lay _ _
    · split
      · exact (h.lay _ _).flush
      · split
        · exact (h.lay _ _).flush.sure _ _
        · exact (h.lay _ _).flush.sure _ _
theorem mayL_yes (sz : Nat) : ∀ (ls : List (List UInt8)) (u : Nat), mayL sz ls u = 0 → (∀ l ∈ ls, 1 ≤ l.length ∧ l.length ≤ 8192) ∧ u + sumT ls ≤ sz := by
  intro ls
  induction ls with
  | nil =>
    intro u h
    unfold mayL at h
    split at h
    · cases h
    · exact ⟨by simp, by simp [sumT]; omega⟩
  | cons l t ih =>
    intro u h
    unfold mayL at h
    split at h
    · cases h
    · obtain ⟨h1, h2⟩ := ih _ h
      refine ⟨fun x hx => ?_, by simp [sumT]; omega⟩
      rcases List.mem_cons.1 hx with rfl | hx
      · omega
      · exact h1 x hx
theorem mayJ_yes {D : Dk} {J : Jn} {ls : List (List UInt8)} {u : Nat} (h : mayJ D J ls u = 0) : J.gone = false ∧ (∀ l ∈ ls, 1 ≤ l.length ∧ l.length ≤ 8192) ∧ u + sumT ls ≤ sizeJ D := by
  unfold mayJ at h
  split at h
  · cases h
  · rename_i hg
    exact ⟨by simpa using hg, mayL_yes _ _ _ h⟩
end Go.Proofs.Ytfhlidlmipleaaa
namespace Go.Proofs.Ytfhlidlmipleaaa
set_option linter.unusedVariables false
set_option linter.unusedSimpArgs false
open Go Go.RowKit LM

/-- what a row holds lies in what there is -/
theorem Ents.lt {w : World} {A : Option Addr} {n c : Nat} {vs : List Value} {ls : List (List UInt8)} {F : Nat → Prop} (h : Ents w A n c vs ls F) : Ents w A n c vs ls (fun b => F b ∧ b < w.heap.size) ∧ (0 < n → ∀ ad, A = some ad → ad.block < w.heap.size) := by
  refine ⟨⟨h.row, h.len, fun k hk => ?_⟩, fun h0 ad had => ?_⟩
  · obtain ⟨A', n', c', h1, h2, h3⟩ := h.ent k hk
    refine ⟨A', n', c', h1, h2, fun h0 ad had => ⟨h3 h0 ad had, ?_⟩⟩
    obtain ⟨A2, n2, c2, he, _, _, _, hr⟩ := h2
    injection he with e1 e2 e3
    subst e1; subst e2; subst e3
    obtain ⟨b, off, rfl, hb, _⟩ := hr h0
    injection had with had
    subst had
    exact hb
  · obtain ⟨b, off, A', n', c', rfl, hb, _⟩ := h.at 0 h0
    injection had with had
    subst had
    exact hb
/-- another journal on the same disk -/
theorem Stp.side {base : Nat} {w w' : World} {D D' : Dk} {J N' : Jn} {j j2 d : Nat} {I I' K K2 K3 : Nat → Prop} (s : Stp base w w' D' N' j2 d I K2 I' K3) (h : Jd base w D J j d I K) (hd : ∀ b, K b → K2 b → False) : Jd base w' D' J j d I' K ∧ ∀ b, K b → K3 b → False := by
  have hdd : ∀ b, K b → I' b ∨ K3 b → False := fun b hb hi => by
    rcases s.sub b hi with (e | e) | e
    · exact h.dis b e hb
    · exact hd b hb e
    · have := (h.jn.bd b hb).2; omega
  exact ⟨⟨s.jd.dk, h.jn.kept s.kp (fun b hb e => by
    rcases e with e | e
    · exact h.dis b e hb
    · exact hd b hb e), fun b hi hb => hdd b hb (.inl hi)⟩, fun b hb hk => hdd b hb (.inr hk)⟩
theorem Stp.sided {base : Nat} {w w2 w' : World} {D' : Dk} {J N' : Jn} {j j2 d : Nat} {I I' K K2 K3 : Nat → Prop} (hb : Below w.heap.size w w2) (hK2 : ∀ b, K2 b → w.heap.size ≤ b) (s : Stp base w2 w' D' N' j2 d I K2 I' K3) (h' : Jd base w' D' J j d I' K) : Stp base w w' D' J j d I K I' K := by
  refine ⟨h', (Kept.of_below hb).step s.kp (fun b hb => ?_), fun b hb2 => ?_⟩
  · rcases hb with e | e
    · exact .inl (.inl e)
    · exact .inr (hK2 b e)
  · rcases hb2 with e | e
    · rcases s.sub b (.inl e) with (e | e) | e
      · exact .inl (.inl e)
      · exact .inr (hK2 b e)
      · exact .inr (by have := hb.size; omega)
    · exact .inl (.inr e)
theorem jd_new {base : Nat} {w w2 : World} {D : Dk} {J : Jn} {j d g g1 h1 : Nat} {I K : Nat → Prop} (h : Jd base w D J j d I K) (hbase : base ≤ w.heap.size) (hb : Below w.heap.size w w2) (hg : w.heap.size ≤ g) (hblk : w2.heap[g]? = some (.cells #[.pointer (some ⟨d, 0, none⟩), .int .u64 (g1 : Int), .int .i64 (h1 : Int), .slice none 0 0, .int .i64 0, .bool false] 201 (0, 0))) :
    Jd base w2 D ⟨g1, h1, [], 0, false⟩ g d I (fun b => b = g) :=
  ⟨h.dk.below hb, ⟨none, 0, [], fun _ => False, ⟨hblk, World.ownsRow_nil _ _ _ _, fun k hk => absurd hk (by simp), fun _ h => h.elim, by omega, by simp [Value.ownBlock], fun h => h, fun _ _ h => h⟩, fun b => by simp [Value.ownBlock]⟩, fun b hb e => by have := (h.dk.bd b hb).2; omega⟩
/-- six cells stored -/
theorem six_set {w : World} {g : Nat} {T : TypeId} {cs : Array Value} (hb : w.heap[g]? = some (.cells cs T (0, 0))) (hs : cs.size = 6) (v0 v1 v2 v3 v4 v5 : Value) :
    ((((((w.setCell ⟨g, 0, none⟩ v0).setCell ⟨g, 1, none⟩ v1).setCell ⟨g, 2, none⟩ v2).setCell ⟨g, 3, none⟩ v3).setCell ⟨g, 4, none⟩ v4).setCell ⟨g, 5, none⟩ v5).heap[g]? = some (.cells #[v0, v1, v2, v3, v4, v5] T (0, 0)) ∧
    Kept (fun b => b = g) w ((((((w.setCell ⟨g, 0, none⟩ v0).setCell ⟨g, 1, none⟩ v1).setCell ⟨g, 2, none⟩ v2).setCell ⟨g, 3, none⟩ v3).setCell ⟨g, 4, none⟩ v4).setCell ⟨g, 5, none⟩ v5) := by
  refine ⟨?_, ((((((Kept.refl (fun b => b = g) w).setCell (p := ⟨g, 0, none⟩) (.inl rfl) v0).setCell (p := ⟨g, 1, none⟩) (.inl rfl) v1).setCell (p := ⟨g, 2, none⟩) (.inl rfl) v2).setCell (p := ⟨g, 3, none⟩) (.inl rfl) v3).setCell (p := ⟨g, 4, none⟩) (.inl rfl) v4).setCell (p := ⟨g, 5, none⟩) (.inl rfl) v5⟩
  rw [blk_set (blk_set (blk_set (blk_set (blk_set (blk_set hb 0 v0) 1 v1) 2 v2) 3 v3) 4 v4) 5 v5]
  have e : (((((cs.setIfInBounds 0 v0).setIfInBounds 1 v1).setIfInBounds 2 v2).setIfInBounds 3 v3).setIfInBounds 4 v4).setIfInBounds 5 v5 = #[v0, v1, v2, v3, v4, v5] := by
    obtain ⟨l⟩ := cs
    have hl : l.length = 6 := hs
    rcases l with _ | ⟨a0, _ | ⟨a1, _ | ⟨a2, _ | ⟨a3, _ | ⟨a4, _ | ⟨a5, _ | ⟨a6, l⟩⟩⟩⟩⟩⟩⟩ <;> simp at hl
    simp
  rw [e]
/-- a journal's block taken over by another journal -/
theorem jd_move {base : Nat} {w w' : World} {D : Dk} {J N : Jn} {j g d : Nat} {I K K3 : Nat → Prop} {A2 : Option Addr} {c2 : Nat} {vs2 : List Value} {E2 : Nat → Prop} (h : Jd base w D J j d I K) (hN : Jd base w D N g d I K3) (hM : JnAt base w N g d A2 c2 vs2 E2)
    (hKM : ∀ b, K3 b ↔ (b = g ∨ Value.ownBlock (.slice A2 N.all.length c2) = some b ∨ E2 b)) (hd : ∀ b, K b → K3 b → False) (hk : Kept (fun b => b = j) w w') (hblk : w'.heap[j]? = some (.cells (jnC N d A2 c2) 201 (0, 0))) :
    ∃ K', Jd base w' D N j d I K' ∧ ∀ b, K' b → b = j ∨ K3 b := by
  have hm := h.jn.mem
  refine ⟨fun b => b = j ∨ Value.ownBlock (.slice A2 N.all.length c2) = some b ∨ E2 b, ⟨h.dk.kept hk (fun b hb e => h.dis b hb (e ▸ hm)), ⟨A2, c2, vs2, E2, ⟨hblk, ?_, fun k hk2 => ?_, fun b hb => ⟨(hM.ebd b hb).1, Nat.lt_of_lt_of_le (hM.ebd b hb).2 hk.size⟩, (h.jn.bd j hm).1, ?_, ?_, hM.re⟩, fun b => Iff.rfl⟩, fun b hi hb => ?_⟩, fun b hb => ?_⟩
  · exact ownsRow_kept hM.row hk (fun b hb e => hd j hm ((hKM j).2 (.inr (.inl (e ▸ hb)))))
  · obtain ⟨b, off, n, c, h2, h3, h4⟩ := hM.ent k hk2
    exact ⟨b, off, n, c, h2, sl_kept h3 hk (fun ad had e => by injection had with had; subst had; simp only at e; exact hd j hm ((hKM j).2 (.inr (.inr (e ▸ h4))))), h4⟩
  · exact fun e => hd j hm ((hKM j).2 (.inr (.inl e)))
  · exact fun e => hd j hm ((hKM j).2 (.inr (.inr e)))
  · rcases hb with e | e
    · exact h.dis b hi (e ▸ hm)
    · exact hN.dis b hi ((hKM b).2 (.inr e))
  · rcases hb with e | e
    · exact .inl e
    · exact .inr ((hKM b).2 (.inr e))
set_option maxRecDepth 100000 in
set_option maxHeartbeats 6400000 in
theorem compact_no (base n : Nat) (w : World) (D : Dk) (J : Jn) (j d : Nat) (I K : Nat → Prop) (h : Jd base w D J j d I K) (hF : FitJ D n) (hn : 4 ≤ n ∧ n ≤ 1000) (A : Option Addr) (na c : Nat) (vs : List Value) (ls : List (List UInt8)) (F : Nat → Prop) (hE : Ents w A na c vs ls F) (hna : na ≤ 1048576) (hm : mayJ D J ls 0 ≠ 0) :
    Calls Try.prog 63 #[.pointer (some ⟨j, 0, none⟩), .slice A na c] w fun e w' => e = .returned (.int .i64 (mayJ D J ls 0)) ∧ w' = w := by
  have hlen := hF.len
  have hm2 : (mayJ D J ls 0 != 0) = true := by simpa using hm
  go_enter Try.func63, Try.ntmps63
  go_wp2_with fail
  refine (mayj_any base w D J j d I K h (by omega) (by omega) A na c vs ls F hE hna 0 (by omega)).mono ?_
  rintro e w2 ⟨rfl, rfl⟩
  clear hm
  go_wp2_with fail
  go_ret
  exact ⟨rfl, rfl⟩
set_option maxRecDepth 100000 in
set_option maxHeartbeats 6400000 in
theorem compact_yes (base n : Nat) (w : World) (D : Dk) (J : Jn) (j d : Nat) (I K : Nat → Prop) (h : Jd base w D J j d I K) (hF : FitJ D n) (hn : 4 ≤ n ∧ n ≤ 1000) (hbase : base ≤ w.heap.size) (hO : JOk J) (hg9 : J.gen < 9223372036854775806)
    (A : Option Addr) (na c : Nat) (vs : List Value) (ls : List (List UInt8)) (F : Nat → Prop) (hE : Ents w A na c vs ls F) (hna : na ≤ 1048576) (hA : 0 < na → ∀ ad, A = some ad → ¬ (I ad.block ∨ K ad.block)) (hFI : ∀ b, F b → ¬ (I b ∨ K b)) (hm : mayJ D J ls 0 = 0) :
    Calls Try.prog 63 #[.pointer (some ⟨j, 0, none⟩), .slice A na c] w fun e w' => e = .returned (.int .i64 (compS D J ls).2.2) ∧ ∃ I' K', Stp base w w' (compS D J ls).1 (compS D J ls).2.1 j d I K I' K' := by
  obtain ⟨Aa, ca, hjl, hca1, hca2, q0, q1, q2, q3, q4, q5⟩ := h.jn.cells
  have hlen := hF.len
  obtain ⟨hgo, hls, hfit⟩ := mayJ_yes hm
  have HC : Hid (compS D J ls = if (layS D (newJ J) ls).2.2 ≠ 0 then ((layS D (newJ J) ls).1, noteJ J (layS D (newJ J) ls).2.2, (layS D (newJ J) ls).2.2)
      else if flE (layS D (newJ J) ls).1 ≠ 0 then (flD (layS D (newJ J) ls).1, noteJ J (flE (layS D (newJ J) ls).1), flE (layS D (newJ J) ls).1)
      else if sureE (flD (layS D (newJ J) ls).1) (((J.gen + 1) % 2 : Nat) : Int) (slotJ (J.gen + 1) (1 - J.half)) ≠ 0 then (sureD (flD (layS D (newJ J) ls).1) (((J.gen + 1) % 2 : Nat) : Int) (slotJ (J.gen + 1) (1 - J.half)), noteJ J (sureE (flD (layS D (newJ J) ls).1) (((J.gen + 1) % 2 : Nat) : Int) (slotJ (J.gen + 1) (1 - J.half))), sureE (flD (layS D (newJ J) ls).1) (((J.gen + 1) % 2 : Nat) : Int) (slotJ (J.gen + 1) (1 - J.half)))
      else (sureD (flD (layS D (newJ J) ls).1) (((J.gen + 1) % 2 : Nat) : Int) (slotJ (J.gen + 1) (1 - J.half)), (layS D (newJ J) ls).2.1, 0)) := hid (by unfold compS; rw [if_neg (by omega)])
  have hhalf := hO.half
  have hgen := hO.gen
  obtain ⟨g1, eg1⟩ : ∃ g1, J.gen + 1 = g1 := ⟨_, rfl⟩
  obtain ⟨h1, eh1⟩ : ∃ h1, 1 - J.half = h1 := ⟨_, rfl⟩
  have eg : (J.gen : Int) + 1 = (g1 : Int) := by omega
  have eh : 1 - (J.half : Int) = (h1 : Int) := by omega
  obtain ⟨ow, how⟩ : ∃ ow, g1 % 2 = ow := ⟨_, rfl⟩
  have eo : (g1 : Int) % 2 = (ow : Int) := by omega
  have hN : newJ J = ⟨g1, h1, [], 0, false⟩ := by unfold newJ; rw [eg1, eh1]
  rw [eg1, eh1, how, hN] at HC
  have HN := hid hN
  have hh1 : h1 < 2 := by omega
  have hg1 : g1 < 9223372036854775807 := by omega
  have how2 : ow < 2 := by omega
  clear hN eg1 eh1 how
  have hOn : JOk ⟨g1, h1, [], 0, false⟩ := ⟨hh1, hg1, by simp, by simp, by simp⟩
  obtain ⟨hE1, hrl⟩ := hE.lt
  have z0 := fun (z : WK (fun _ => False) w) => (wat_cell (p := ⟨j, 0, none⟩) hjl (fun e => e) z).trans q0
  have z1 := fun (z : WK (fun _ => False) w) => (wat_cell (p := ⟨j, 1, none⟩) hjl (fun e => e) z).trans q1
  have z2 := fun (z : WK (fun _ => False) w) => (wat_cell (p := ⟨j, 2, none⟩) hjl (fun e => e) z).trans q2
  clear q0 q1 q2 q3 q4 q5
  go_enter Try.func63, Try.ntmps63
  go_wp2_with fail
  refine (mayj_any base w D J j d I K h (by omega) (by omega) A na c vs ls F hE hna 0 (by omega)).mono ?_
  rintro e w1 ⟨rfl, rfl⟩
  rw [hm]
  clear hm
  go_wp2_with fail
  refine wp_region_loud (fun _ => False) [(15, newL 201 #[.pointer (some ⟨d, 0, none⟩), .int .u64 (g1 : Int), .int .i64 (h1 : Int), .slice none 0 0, .int .i64 0, .bool false])] (fun _ => Fact.none) (by kernel_rfl) (by kernel_rfl) (.cons (newL_ok _ _) .nil) good_nothing sat_none (WX.out ?_)
  repeat (first | (refine wx_quietU (by rfl) (by rfl) (by rfl) (fun K hK => ?_); go_big_quiet_op; refine hK _ ?_; clear hK K) | (refine wx_quietG (by rfl) (by rfl) (by rfl) (by rfl) (by rfl) (fun K hK => ?_); go_big_quiet_op; refine hK _ ?_; clear hK K) | (refine wx_skipG (by rfl) (by rfl) (by rfl) (fun K hK => ?_); go_simp; refine hK _ ?_; clear hK K) | (refine wx_skipN (by rfl) (by rfl) (by rfl) (fun K hK => ?_); go_simp; refine hK _ ?_; clear hK K))
  refine wx_loudU (us := []) (by rfl) (by rfl) (fun S wS hC hS hU => ?_) (fun v hv K hK => ?_)
  · exact runs_value (by go_simp <;> rfl) (newB_x rfl)
  obtain ⟨g, rfl⟩ := hv; (go_simp; refine hK _ ?_; clear hK K)
  repeat (first | (refine wx_quietU (by rfl) (by rfl) (by rfl) (fun K hK => ?_); go_big_quiet_op; refine hK _ ?_; clear hK K) | (refine wx_quietG (by rfl) (by rfl) (by rfl) (by rfl) (by rfl) (fun K hK => ?_); go_big_quiet_op; refine hK _ ?_; clear hK K) | (refine wx_skipG (by rfl) (by rfl) (by rfl) (fun K hK => ?_); go_simp; refine hK _ ?_; clear hK K) | (refine wx_skipN (by rfl) (by rfl) (by rfl) (fun K hK => ?_); go_simp; refine hK _ ?_; clear hK K))
  refine wx_nil fun w2 hsat => ?_
  obtain ⟨S, hS, hfin⟩ := sat_get hsat 15
  obtain ⟨g', e1, hSg, hblk⟩ := (hfin : NewB 201 #[.pointer (some ⟨d, 0, none⟩), .int .u64 (g1 : Int), .int .i64 (h1 : Int), .slice none 0 0, .int .i64 0, .bool false] (.pointer (some ⟨g, 0, none⟩)) S w2)
  obtain rfl : g = g' := by simpa using e1
  have hb2 := sat_below hsat
  have hgw : w1.heap.size ≤ g := (hS g hSg).1.elim False.elim id
  have hsz2 := hb2.size
  have hjd2 := jd_new h hbase hb2 hgw hblk
  have hE2 := hE1.below hb2
  have hjd := h.below hb2
  have hF2 := hF.lay (newJ J) ls
  rw [HN.out] at hF2
  have hNs := layS_same ls D ⟨g1, h1, [], 0, false⟩
  clear hsat hS hSg hblk e1 z0 z1 z2
  go_wp2_with fail
  refine (lay_any base n w2 D ⟨g1, h1, [], 0, false⟩ g d I (fun b => b = g) hjd2 hF hn (by omega) hOn A na c vs ls _ hE2 (fun h0 ad had e => by
    rcases e with e | e
    · exact hA h0 ad had (.inl e)
    · have := hrl h0 ad had; omega) (fun b hb e => by
    rcases e with e | e
    · exact hFI b hb.1 (.inl e)
    · have := hb.2; omega) hls (by simpa using hfit) (by simp)).mono ?_
  rintro e w3 ⟨rfl, I3, K3, s3⟩
  obtain ⟨hjd3, hd3⟩ := s3.side hjd (fun b hb e => by have := (h.jn.bd b hb).2; omega)
  have hjl3 := (hjd3.lt j (.inr hjd3.jn.mem)).2
  have hw3 := Nat.le_trans (Nat.le_trans hbase hsz2) s3.size
  generalize layS D ⟨g1, h1, [], 0, false⟩ ls = R at *
  clear hE hE1 hE2 hjd2 hF
  by_cases h0 : R.2.2 = 0
  · rw [h0]
    obtain ⟨_, _, _, _, _, q0, _⟩ := hjd3.jn.cells
    go_wp2_with fail
    refine (dsk_flush base w3 R.1 d I3 s3.jd.dk hw3 hF2.ok).mono ?_
    rintro e w4 ⟨rfl, I4, hd4, ht4⟩
    have s4 := s3.trans (s3.jd.turn hd4 ht4)
    obtain ⟨hjd4, hd4'⟩ := s4.side hjd (fun b hb e => by have := (h.jn.bd b hb).2; omega)
    have hF4 := hF2.flush
    have hln4 := hF4.len
    have hw4 := Nat.le_trans (Nat.le_trans hbase hsz2) s4.size
    clear q0 hd4 ht4 s3 hjd3 hd3 hF2
    by_cases h1z : flE R.1 = 0
    · rw [h1z]
      go_wp2_with fail
      have hjn := s4.jd
      obtain ⟨_, _, hgl, _, _, _, hnc1, hnc2, _⟩ := hjn.jn.cells
      rw [hNs.1] at hnc1
      rw [hNs.2.1] at hnc2
      have hjn0 := hjn.below ((Below.refl _ _).drew)
      have hw4d : base ≤ w4.drew.heap.size := hw4
      have EOW : Hid (IntKind.i64.wrap ((g1 : Int).tmod 2) = (ow : Int)) := hid (by
        rw [Int.tmod_eq_emod_of_nonneg (by omega), eo]
        simp only [IntKind.wrap_i64, wrap64]
        omega)
      have tok1 : True := trivial
      have tok2 : True := trivial
      go_region_held3 (fun w' => w'.cell? ⟨g, 1, none⟩ = some (.int .u64 (g1 : Int)) ∧ w'.cell? ⟨g, 2, none⟩ = some (.int .i64 (h1 : Int))) (first | exact ⟨y1, y2⟩ | exact ⟨x1, x2⟩ | exact ⟨hnc1, hnc2⟩ | go_keep)
        (first
          | (have _t := tok1
             go_at_call 112
             clear tok1 _t
             refine (slot_any g1 h1 _ (by omega) (by omega)).mono ?_
             rintro e w5 ⟨A5, c5, rfl, hown5, hb5⟩
             obtain ⟨g5, rfl, hg5, hg5'⟩ := own_some hown5 (by omega)
             have x1 : w5.cell? ⟨g, 1, none⟩ = some (.int .u64 (g1 : Int)) := (hb5.cell (p := ⟨g, 1, none⟩) (by exact hgl)).trans hnc1
             have x2 : w5.cell? ⟨g, 2, none⟩ = some (.int .i64 (h1 : Int)) := (hb5.cell (p := ⟨g, 2, none⟩) (by exact hgl)).trans hnc2)
          | (have _t := tok2
             go_at_call 111
             clear tok2 _t
             rw [EOW.out]
             refine (sure_any base n _ (flD R.1) R.2.1 g d I4 K3 (hjn0.below hb5) hF4 hn.2 (Nat.le_trans hw4d hb5.size) (ow : Int) g5 0 c5 _ (own_sl hown5) (dsk_ne_row (hjn0.below hb5).dk hown5)).mono ?_
             rintro e w6 ⟨rfl, I5, s9⟩
             have y1 : w6.cell? ⟨g, 1, none⟩ = some (.int .u64 (g1 : Int)) := by
               obtain ⟨_, _, _, _, _, _, y1, _⟩ := s9.jd.jn.cells
               rw [noteJ_gen, hNs.1] at y1
               exact y1
             have y2 : w6.cell? ⟨g, 2, none⟩ = some (.int .i64 (h1 : Int)) := by
               obtain ⟨_, _, _, _, _, _, _, y2, _⟩ := s9.jd.jn.cells
               rw [noteJ_half, hNs.2.1] at y2
               exact y2))
      have s5 := (s4.trans (Stp.ofBelow s4.jd (((Below.refl _ _).drew).trans hb5))).trans s9
      obtain ⟨hjd5, hd5⟩ := s5.side hjd (fun b hb e => by have := (h.jn.bd b hb).2; omega)
      clear hb5 hown5 s9 s4 hjn hjd4 hd4' hjn0 hnc1 hnc2 x1 x2 y1 y2 EOW
      by_cases h2z : sureE (flD R.1) ow (slotJ g1 h1) = 0
      · have HCF : Hid (compS D J ls = (sureD (flD R.1) ow (slotJ g1 h1), R.2.1, 0)) := hid (by rw [HC.out, if_neg (by simpa using h0), if_neg (by simpa using h1z), if_neg (by simpa using h2z)])
        rw [h2z] at s5 ⊢
        have hnj : noteJ R.2.1 0 = R.2.1 := rfl
        rw [hnj] at s5
        have s6 := s5.sided hb2 (fun b hb => by omega) hjd5
        clear HC h0 h1z h2z hnj
        generalize sureD (flD R.1) ow (slotJ g1 h1) = D5 at *
        generalize R.2.1 = N at *
        have hjn5 := hjd5.jn
        obtain ⟨Aa, ca, vs, E, hJ, hKK⟩ := hjn5
        have hjn6 := s5.jd.jn
        obtain ⟨A2, c2, vs2, E2, hM, hKM⟩ := hjn6
        obtain ⟨cj, fj⟩ := blk_cells hJ.blk
        obtain ⟨cn, fn⟩ := blk_cells hM.blk
        have x0 := cn 0; have x1 := cn 1; have x2 := cn 2; have x3 := cn 3; have x4 := cn 4; have x5 := cn 5
        have y0 := cj 0; have y1 := cj 1; have y2 := cj 2; have y3 := cj 3; have y4 := cj 4; have y5 := cj 5
        simp at x0 x1 x2 x3 x4 x5 y0 y1 y2 y3 y4 y5
        clear cj cn fn
        have hng := hNs.1
        have hnh := hNs.2.1
        have hno := hNs.2.2
        obtain ⟨hsx, hkx⟩ := six_set hJ.blk rfl (.pointer (some ⟨d, 0, none⟩)) (.int .u64 (g1 : Int)) (.int .i64 (h1 : Int)) (.slice A2 N.all.length c2) (.int .i64 N.used) (.bool false)
        obtain ⟨K9, hjd9, hK9⟩ := jd_move hjd5 s5.jd hM hKM hd5 hkx (by rw [hsx]; unfold jnC; rw [hng, hnh, hno])
        have hst9 : Stp base w1 _ D5 N j d I K I5 K9 := ⟨hjd9, s6.kp.step hkx (fun b hb => .inl (.inr (hb ▸ h.jn.mem))), fun b hb => by
          rcases hb with e | e
          · exact s6.sub b (.inl e)
          · rcases hK9 b e with e | e
            · exact .inl (.inr (e ▸ h.jn.mem))
            · rcases s5.sub b (.inr e) with (e | e) | e
              · exact .inl (.inl e)
              · exact .inr (by omega)
              · exact .inr (by omega)⟩
        clear hjd9 hkx hsx hK9 hng hnh hno hJ hM
        go_wp2_with fail
        go_ret
        rw [HCF.out]
        exact ⟨rfl, I5, K9, hst9⟩
      · have HCF : Hid (compS D J ls = (sureD (flD R.1) ow (slotJ g1 h1), noteJ J (sureE (flD R.1) ow (slotJ g1 h1)), sureE (flD R.1) ow (slotJ g1 h1))) := hid (by rw [HC.out, if_neg (by simpa using h0), if_neg (by simpa using h1z), if_pos h2z])
        have hz2 : (sureE (flD R.1) ow (slotJ g1 h1) != 0) = true := by simpa using h2z
        clear HC h0 h1z h2z
        go_wp2_with fail
        refine (noted_any base w6 (sureD (flD R.1) ow (slotJ g1 h1)) J j d I5 K hjd5 (sureE (flD R.1) ow (slotJ g1 h1))).mono ?_
        rintro e w7 ⟨rfl, s7⟩
        have s8 := (s5.sided hb2 (fun b hb => by omega) hjd5).trans s7
        clear s7 s5
        go_wp2_with fail
        go_ret
        rw [HCF.out]
        exact ⟨rfl, I5, K, s8⟩
    · have HCF : Hid (compS D J ls = (flD R.1, noteJ J (flE R.1), flE R.1)) := hid (by rw [HC.out, if_neg (by simpa using h0), if_pos h1z])
      have hz2 : (flE R.1 != 0) = true := by simpa using h1z
      have hz3 : (flE R.1 == 0) = false := by simpa using h1z
      clear HC h0 h1z
      go_wp2_with fail
      refine (noted_any base w4 (flD R.1) J j d I4 K hjd4 (flE R.1)).mono ?_
      rintro e w7 ⟨rfl, s7⟩
      have s8 := (s4.sided hb2 (fun b hb => by omega) hjd4).trans s7
      clear s7 s4
      go_wp2_with fail
      go_ret
      rw [HCF.out]
      exact ⟨rfl, I4, K, s8⟩
  · have HCF : Hid (compS D J ls = (R.1, noteJ J R.2.2, R.2.2)) := hid (by rw [HC.out, if_pos h0])
    have hz2 : (R.2.2 != 0) = true := by simpa using h0
    have hz3 : (R.2.2 == 0) = false := by simpa using h0
    clear HC h0
    go_wp2_with fail
    refine (noted_any base w3 R.1 J j d I3 K hjd3 R.2.2).mono ?_
    rintro e w7 ⟨rfl, s7⟩
    have s8 := (s3.sided hb2 (fun b hb => by omega) hjd3).trans s7
    clear s7 s3
    go_wp2_with fail
    go_ret
    rw [HCF.out]
    exact ⟨rfl, I3, K, s8⟩
end Go.Proofs.Ytfhlidlmipleaaa
namespace Go.Proofs.Ytfhlidlmipleaaa
set_option linter.unusedVariables false
set_option linter.unusedSimpArgs false
open Go Go.RowKit LM

/-- what stays at a place -/
def stD (D : Dk) (s : Nat) : List UInt8 := D.stay.getD s zero64
/-- a disk all of whose waiting sectors are in its order, and all sectors of 64 bytes -/
structure FitK (D : Dk) (n : Nat) : Prop where
  fit : FitJ D n
  cov : ∀ x, (lookW D.wait x).isSome = true → x ∈ D.order
  sec : ∀ s ∈ D.stay, s.length = 64
  secw : ∀ x v, lookW D.wait x = some v → v.length = 64
theorem FitK.len {D : Dk} {n : Nat} (h : FitK D n) : D.stay.length = n := h.fit.len
theorem FitK.st64 {D : Dk} {n : Nat} (h : FitK D n) (s : Nat) : (stD D s).length = 64 := by
  unfold stD
  rw [List.getD_eq_getElem?_getD]
  cases hs : D.stay[s]? with
  | none => rfl
  | some v => exact h.sec v (List.mem_of_getElem? hs)
theorem FitK.rd64 {D : Dk} {n : Nat} (h : FitK D n) (s : Nat) : (readB D s).length = 64 := by
  unfold readB
  cases hs : lookW D.wait (s : Int) with
  | none => exact h.st64 s
  | some v => exact h.secw _ v hs
theorem wr_ok {D : Dk} {i : Int} {l : List UInt8} (h : wrE D i l = 0) : D.off = false ∧ 0 ≤ i ∧ i < D.stay.length ∧ l.length = 64 ∧ (stepD D).2 = 0 ∧ wrD D i l = laidD (stepD D).1 i l := by
  unfold wrE at h
  by_cases hm : mayE D i ≠ 0
  · rw [if_pos hm] at h; exact absurd h hm
  rw [if_neg hm] at h
  by_cases hl : l.length ≠ 64
  · rw [if_pos hl] at h; cases h
  rw [if_neg hl] at h
  obtain ⟨a, b, c⟩ := may0 (by omega : mayE D i = 0)
  refine ⟨a, b, c, by omega, h, ?_⟩
  unfold wrD
  rw [if_neg hm, if_neg hl, if_pos h]
theorem fl_ok {D : Dk} (h : flE D = 0) : D.off = false ∧ (stepD D).2 = 0 ∧ flD D = flushD (stepD D).1 := by
  unfold flE at h
  split at h
  · cases h
  · rename_i ho
    refine ⟨by simpa using ho, h, ?_⟩
    unfold flD
    rw [if_neg ho, if_pos h]
theorem step_off {D : Dk} (h : (stepD D).2 = 0) : (stepD D).1.off = D.off ∧ D.armed ≠ 0 ∧ (0 < D.armed → (stepD D).1.armed = D.armed - 1) ∧ (D.armed < 0 → (stepD D).1.armed = D.armed) := by
  unfold stepD at h ⊢
  by_cases h0 : D.armed = 0
  · rw [if_pos h0] at h; cases h
  · rw [if_neg h0]
    by_cases h1 : 0 < D.armed
    · rw [if_pos h1]; exact ⟨rfl, h0, fun _ => rfl, fun e => by omega⟩
    · rw [if_neg h1]; exact ⟨rfl, h0, fun e => absurd e h1, fun _ => rfl⟩
theorem laidD_read (D : Dk) (i s : Nat) (l : List UInt8) : readB (laidD D (i : Int) l) s = if s = i then l else readB D s := by
  unfold readB
  have e1 : (laidD D (i : Int) l).wait = putW D.wait i l := by unfold laidD; split <;> rfl
  have e2 := (laidD_same D (i : Int) l).2.2
  rw [e1, lookW_put, e2]
  by_cases h : s = i
  · subst h; rw [if_pos rfl, if_pos rfl]; rfl
  · rw [if_neg (by omega), if_neg h]
theorem wr_read {D : Dk} {i : Nat} {l : List UInt8} (h : wrE D (i : Int) l = 0) (s : Nat) : readB (wrD D (i : Int) l) s = if s = i then l else readB D s := by
  obtain ⟨_, _, _, _, _, e⟩ := wr_ok h
  rw [e, laidD_read]
  obtain ⟨a, b, c⟩ := stepD_same D
  have : readB (stepD D).1 s = readB D s := by unfold readB; rw [a, b]
  rw [this]
theorem wr_off {D : Dk} {i : Int} {l : List UInt8} (h : wrE D i l = 0) : (wrD D i l).off = false ∧ D.armed ≠ 0 ∧ (0 < D.armed → (wrD D i l).armed = D.armed - 1) ∧ (D.armed < 0 → (wrD D i l).armed = D.armed) ∧ (wrD D i l).stay = D.stay := by
  obtain ⟨a, _, _, _, hs, e⟩ := wr_ok h
  obtain ⟨x, y, z, u⟩ := step_off hs
  obtain ⟨p, q, r⟩ := laidD_same (stepD D).1 i l
  rw [e]
  exact ⟨p.trans (x.trans a), y, fun h => q.trans (z h), fun h => q.trans (u h), r.trans (stepD_same D).1⟩
theorem FitK.step {D : Dk} {n : Nat} (h : FitK D n) : FitK (stepD D).1 n := by
  obtain ⟨a, b, c⟩ := stepD_same D
  exact ⟨h.fit.step, by rw [b, c]; exact h.cov, by rw [a]; exact h.sec, by rw [b]; exact h.secw⟩
theorem FitK.write {D : Dk} {n : Nat} (h : FitK D n) (i : Int) (l : List UInt8) : FitK (wrD D i l) n := by
  have hf := h.fit.write i l
  unfold wrD at hf ⊢
  by_cases h1 : mayE D i ≠ 0
  · rw [if_pos h1]; exact h
  rw [if_neg h1] at hf ⊢
  by_cases h2 : l.length ≠ 64
  · rw [if_pos h2]; exact h
  rw [if_neg h2] at hf ⊢
  by_cases h3 : (stepD D).2 = 0
  · rw [if_pos h3] at hf ⊢
    have hs := h.step
    generalize (stepD D).1 = E at *
    have e1 : (laidD E i l).wait = putW E.wait i l := by unfold laidD; split <;> rfl
    refine ⟨hf, fun x hx => ?_, by rw [(laidD_same E i l).2.2]; exact hs.sec, fun x v hx => ?_⟩
    · rw [e1, lookW_put] at hx
      unfold laidD
      by_cases hxi : i = x
      · subst hxi
        simp only []
        split
        · rename_i hy; exact hs.cov _ hy
        · simp
      · rw [if_neg hxi] at hx
        have := hs.cov x hx
        simp only []
        split
        · exact this
        · exact List.mem_append_left _ this
    · rw [e1, lookW_put] at hx
      split at hx
      · injection hx with hx; subst hx; omega
      · exact hs.secw x v hx
  · rw [if_neg h3]
    exact h.step
theorem keep_st (D : Dk) (x : Int) (s : Nat) (hx : 0 ≤ x ∧ x < D.stay.length) : stD (keepD D x) s = if (s : Int) = x then (lookW D.wait x).getD zero64 else stD D s := by
  unfold stD keepD
  simp only [List.getD_eq_getElem?_getD]
  by_cases h : (s : Int) = x
  · rw [if_pos h]
    have e : s = x.toNat := by omega
    rw [e, List.getElem?_set_self (by omega), Option.getD_some]
  · rw [if_neg h, List.getElem?_set_ne (by omega)]
theorem crashTo_wait' (D : Dk) (kl : List Bool) (k : Nat) : (crashTo D kl k).wait = D.wait := by
  induction k with
  | zero => rfl
  | succ k ih => unfold crashTo; split <;> simp [keepD, ih]
theorem crashTo_st {D : Dk} {n : Nat} (h : FitK D n) (kl : List Bool) (s : Nat) : ∀ k, k ≤ D.order.length → (stD (crashTo D kl k) s = stD D s ∨ ∃ v, lookW D.wait (s : Int) = some v ∧ stD (crashTo D kl k) s = v) := by
  intro k
  induction k with
  | zero => intro _; exact .inl rfl
  | succ k ih =>
    intro hk
    have h0 := ih (by omega)
    unfold crashTo
    split
    · have hm : D.order.getD k 0 ∈ D.order := by
        rw [List.getD_eq_getElem?_getD, List.getElem?_eq_getElem (by omega)]
        exact List.getElem_mem _
      have hr := h.fit.ok _ hm
      have hh := h.fit.has _ hm
      rw [keep_st _ _ _ (by rw [crashTo_stay]; exact hr), crashTo_wait']
      split
      · rename_i e
        rw [← e] at hh
        obtain ⟨v, hv⟩ := Option.isSome_iff_exists.1 hh
        refine .inr ⟨v, hv, ?_⟩
        rw [← e, hv]
        rfl
      · exact h0
    · exact h0
theorem crash_st {D : Dk} {n : Nat} (h : FitK D n) (kl : List Bool) (s : Nat) : stD (crashD D kl) s = stD D s ∨ ∃ v, lookW D.wait (s : Int) = some v ∧ stD (crashD D kl) s = v := crashTo_st h kl s _ (Nat.le_refl _)
theorem crashTo_all {D : Dk} {n : Nat} (h : FitK D n) (s : Nat) : ∀ k, k ≤ D.order.length → stD (crashTo D (List.replicate D.order.length true) k) s = if (s : Int) ∈ D.order.take k then (lookW D.wait (s : Int)).getD zero64 else stD D s := by
  intro k
  induction k with
  | zero => intro _; simp [crashTo]
  | succ k ih =>
    intro hk
    have h0 := ih (by omega)
    have hkv : (List.replicate D.order.length true).getD k false = true := by
      rw [List.getD_eq_getElem?_getD, List.getElem?_replicate, if_pos (by omega)]; rfl
    have hg : D.order.getD k 0 = D.order[k] := by rw [List.getD_eq_getElem?_getD, List.getElem?_eq_getElem (by omega)]; rfl
    have hm : D.order.getD k 0 ∈ D.order := by rw [hg]; exact List.getElem_mem _
    have hr := h.fit.ok _ hm
    unfold crashTo
    rw [if_pos hkv, keep_st _ _ _ (by rw [crashTo_stay]; exact hr), crashTo_wait', h0, List.take_succ_eq_append_getElem (by omega), ← hg]
    by_cases e : (s : Int) = D.order.getD k 0
    · rw [if_pos e, if_pos (List.mem_append_right _ (by rw [e]; exact List.mem_singleton.2 rfl)), e]
    · rw [if_neg e]
      by_cases e2 : (s : Int) ∈ D.order.take k
      · rw [if_pos e2, if_pos (List.mem_append_left _ e2)]
      · rw [if_neg e2, if_neg]
        intro hc
        rcases List.mem_append.1 hc with hc | hc
        · exact e2 hc
        · exact e (List.mem_singleton.1 hc)
theorem FitK.calm {D D' : Dk} {n : Nat} (h : FitK D n) (h1 : D'.wait = []) (h2 : D'.order = []) (h3 : D'.stay.length = n) (h4 : ∀ s, stD D' s = stD D s ∨ ∃ v, lookW D.wait (s : Int) = some v ∧ stD D' s = v) : FitK D' n := by
  refine ⟨⟨h3, by rw [h2]; simp, by rw [h2]; simp, by rw [h2]; simp⟩, by rw [h1]; simp [lookW], fun s hs => ?_, by rw [h1]; simp [lookW]⟩
  obtain ⟨k, hk, e⟩ := List.getElem_of_mem hs
  have e2 : stD D' k = s := by unfold stD; rw [List.getD_eq_getElem?_getD, List.getElem?_eq_getElem hk, Option.getD_some, e]
  rcases h4 k with h5 | ⟨v, h5, h6⟩
  · rw [← e2, h5]; exact h.st64 k
  · rw [← e2, h6]; exact h.secw _ _ h5
theorem flush_st {D : Dk} {n : Nat} (h : FitK D n) (s : Nat) : stD (flushD D) s = readB D s := by
  have h0 := crashTo_all h s D.order.length (Nat.le_refl _)
  rw [List.take_length] at h0
  refine Eq.trans h0 ?_
  unfold readB
  by_cases hs : (s : Int) ∈ D.order
  · rw [if_pos hs]
    obtain ⟨v, hv⟩ := Option.isSome_iff_exists.1 (h.fit.has _ hs)
    rw [hv]; rfl
  · rw [if_neg hs]
    cases hv : lookW D.wait (s : Int) with
    | none => rfl
    | some v => exact absurd (h.cov _ (by rw [hv]; rfl)) hs
theorem FitK.flushD' {D : Dk} {n : Nat} (h : FitK D n) : FitK (flushD D) n := by
  refine h.calm rfl rfl ?_ (fun s => crashTo_st h _ s _ (Nat.le_refl _))
  show (crashTo _ _ _).stay.length = n
  rw [crashTo_stay]; exact h.len
theorem FitK.flush {D : Dk} {n : Nat} (h : FitK D n) : FitK (flD D) n := by
  unfold flD
  split
  · exact h
  · split
    · exact h.step.flushD'
    · exact h.step
theorem FitK.crash {D : Dk} {n : Nat} (h : FitK D n) (kl : List Bool) : FitK (crashD D kl) n := by
  refine h.calm rfl rfl ?_ (fun s => crash_st h kl s)
  show (crashTo _ _ _).stay.length = n
  rw [crashTo_stay]; exact h.len
theorem fl_read {D : Dk} {n : Nat} (h : FitK D n) (he : flE D = 0) (s : Nat) : stD (flD D) s = readB D s := by
  obtain ⟨_, _, e⟩ := fl_ok he
  rw [e, flush_st h.step s]
  obtain ⟨a, b, c⟩ := stepD_same D
  unfold readB; rw [a, b]
theorem fl_off {D : Dk} (he : flE D = 0) : (flD D).off = false ∧ (flD D).wait = [] ∧ (flD D).order = [] ∧ D.armed ≠ 0 ∧ (0 < D.armed → (flD D).armed = D.armed - 1) ∧ (D.armed < 0 → (flD D).armed = D.armed) := by
  obtain ⟨a, hs, e⟩ := fl_ok he
  obtain ⟨x, y, z, u⟩ := step_off hs
  obtain ⟨p, q⟩ := crashTo_off (stepD D).1 (List.replicate (stepD D).1.order.length true) (stepD D).1.order.length
  rw [e]
  exact ⟨p.trans (x.trans a), rfl, rfl, y, fun h => q.trans (z h), fun h => q.trans (u h)⟩
theorem calm_read {D : Dk} (h : D.wait = []) (s : Nat) : readB D s = stD D s := by
  unfold readB
  rw [h]
  rfl
/-- every sector that stays, or that waits, is as A says -/
structure PhD (A : Nat → List UInt8 → Prop) (D : Dk) (n : Nat) : Prop where
  fit : FitK D n
  st : ∀ s, A s (stD D s)
  wt : ∀ (s : Nat) v, lookW D.wait (s : Int) = some v → A s v
section
variable {A : Nat → List UInt8 → Prop} {D : Dk} {n : Nat}
theorem PhD.step (h : PhD A D n) : PhD A (stepD D).1 n := by
  obtain ⟨a, b, c⟩ := stepD_same D
  exact ⟨h.fit.step, by unfold stD; rw [a]; exact h.st, by rw [b]; exact h.wt⟩
theorem PhD.write (h : PhD A D n) {i : Nat} {l : List UInt8} (hA : A i l) : PhD A (wrD D (i : Int) l) n := by
  refine ⟨h.fit.write _ _, ?_, ?_⟩
  · intro s
    have : stD (wrD D (i : Int) l) s = stD D s := by
      unfold stD wrD
      split
      · rfl
      · split
        · rfl
        · split
          · rw [(laidD_same _ _ _).2.2, (stepD_same D).1]
          · rw [(stepD_same D).1]
    rw [this]; exact h.st s
  · intro s v hv
    unfold wrD at hv
    split at hv
    · exact h.wt s v hv
    · split at hv
      · exact h.wt s v hv
      · split at hv
        · have e1 : (laidD (stepD D).1 (i : Int) l).wait = putW D.wait i l := by
            rw [← (stepD_same D).2.1]; unfold laidD; split <;> rfl
          rw [e1, lookW_put] at hv
          split at hv
          · rename_i e
            injection hv with hv
            have : i = s := by omega
            subst this; subst hv; exact hA
          · exact h.wt s v hv
        · rw [(stepD_same D).2.1] at hv; exact h.wt s v hv
theorem PhD.calm {D' : Dk} (h : PhD A D n) (hf : FitK D' n) (h1 : D'.wait = []) (h4 : ∀ s, stD D' s = stD D s ∨ ∃ v, lookW D.wait (s : Int) = some v ∧ stD D' s = v) : PhD A D' n := by
  refine ⟨hf, fun s => ?_, by rw [h1]; simp [lookW]⟩
  rcases h4 s with e | ⟨v, e, e2⟩
  · rw [e]; exact h.st s
  · rw [e2]; exact h.wt s v e
theorem PhD.flush (h : PhD A D n) : PhD A (flD D) n := by
  unfold flD
  split
  · exact h
  · split
    · exact h.step.calm h.step.fit.flushD' rfl (fun s => crashTo_st h.step.fit _ s _ (Nat.le_refl _))
    · exact h.step
theorem PhD.crash (h : PhD A D n) (kl : List Bool) : PhD A (crashD D kl) n := h.calm (h.fit.crash kl) rfl (fun s => crash_st h.fit kl s)
theorem PhD.weak {B : Nat → List UInt8 → Prop} (h : PhD A D n) (hB : ∀ s v, A s v → B s v) : PhD B D n := ⟨h.fit, fun s => hB _ _ (h.st s), fun s v e => hB _ _ (h.wt s v e)⟩
theorem PhD.sure (h : PhD A D n) {i : Nat} {l : List UInt8} (hA : A i l) : PhD A (sureD D (i : Int) l) n := by
  unfold sureD
  split
  · exact (h.write hA).flush
  · exact h.write hA
theorem PhD.start (h : FitK D n) (hw : D.wait = []) : PhD (fun s v => v = stD D s) D n := ⟨h, fun _ => rfl, by rw [hw]; simp [lookW]⟩
end
/-- an error of a write that may be is that power went -/
theorem wr_stop {D : Dk} {i : Int} {l : List UInt8} (h : wrE D i l ≠ 0) (h0 : 0 ≤ i) (h1 : i < D.stay.length) (hl : l.length = 64) : wrE D i l = 2 := by
  unfold wrE at h ⊢
  by_cases ho : D.off = true
  · have hm := mayE_off (i := i) ho
    rw [if_pos (by rw [hm]; omega), hm]
  · have hm := mayE_on (by simpa using ho) h0 h1
    rw [if_neg (by omega), if_neg (by omega)] at h ⊢
    unfold stepD at h ⊢
    split
    · rfl
    · rename_i h2
      rw [if_neg h2] at h
      split at h <;> exact absurd rfl h
theorem fl_stop {D : Dk} (h : flE D ≠ 0) : flE D = 2 := by
  unfold flE at h ⊢
  split
  · rfl
  · rename_i ho
    rw [if_neg ho] at h
    unfold stepD at h ⊢
    split
    · rfl
    · rename_i h2
      rw [if_neg h2] at h
      split at h <;> exact absurd rfl h
theorem sure_stop {D : Dk} {i : Int} {l : List UInt8} (h : sureE D i l ≠ 0) (h0 : 0 ≤ i) (h1 : i < D.stay.length) (hl : l.length = 64) : sureE D i l = 2 := by
  unfold sureE at h ⊢
  split
  · rename_i e
    rw [if_pos e] at h
    exact fl_stop h
  · rename_i e
    rw [if_neg e] at h
    exact wr_stop h h0 h1 hl
theorem sure_ok {D : Dk} {i : Int} {l : List UInt8} (h : sureE D i l = 0) : wrE D i l = 0 ∧ flE (wrD D i l) = 0 ∧ sureD D i l = flD (wrD D i l) := by
  unfold sureE at h
  by_cases e : wrE D i l = 0
  · rw [if_pos e] at h
    exact ⟨e, h, by unfold sureD; rw [if_pos e]⟩
  · rw [if_neg e] at h; exact absurd h e
end Go.Proofs.Ytfhlidlmipleaaa
namespace Go.Proofs.Ytfhlidlmipleaaa
set_option linter.unusedVariables false
set_option linter.unusedSimpArgs false
open Go Go.RowKit LM

theorem getD_appL {α : Type} {a b : List α} {k : Nat} {d : α} (h : k < a.length) : (a ++ b).getD k d = a.getD k d := by
  rw [List.getD_eq_getElem?_getD, List.getD_eq_getElem?_getD, List.getElem?_append_left h]
theorem getD_appR {α : Type} {a b : List α} {k : Nat} {d : α} (h : a.length ≤ k) : (a ++ b).getD k d = b.getD (k - a.length) d := by
  rw [List.getD_eq_getElem?_getD, List.getD_eq_getElem?_getD, List.getElem?_append_right h]
/-- so many sectors, side by side -/
def fullR (R : Nat → List UInt8) (nx : Nat) : Nat → List UInt8
  | 0 => []
  | k + 1 => fullR R nx k ++ R (nx + k)
theorem fullJ_R (D : Dk) (nx k : Nat) : fullJ D nx k = fullR (readB D) nx k := by
  induction k with
  | zero => rfl
  | succ k ih => unfold fullJ fullR; rw [ih]
theorem fullR_congr {R R' : Nat → List UInt8} {nx k : Nat} (h : ∀ s, nx ≤ s → s < nx + k → R' s = R s) : fullR R' nx k = fullR R nx k := by
  induction k with
  | zero => rfl
  | succ k ih =>
    unfold fullR
    rw [ih (fun s h1 h2 => h s h1 (by omega)), h (nx + k) (by omega) (by omega)]
theorem fullR_len {R : Nat → List UInt8} (hR : ∀ s, (R s).length = 64) (nx k : Nat) : (fullR R nx k).length = 64 * k := by
  induction k with
  | zero => rfl
  | succ k ih => unfold fullR; rw [List.length_append, ih, hR]; omega
theorem fullR_head {R : Nat → List UInt8} (hR : ∀ s, (R s).length = 64) (nx k : Nat) (hk : 1 ≤ k) : (fullR R nx k).take 64 = R nx := by
  induction k with
  | zero => omega
  | succ k ih =>
    rcases Nat.eq_zero_or_pos k with e | e
    · subst e
      show ([] ++ R (nx + 0)).take 64 = _
      rw [List.nil_append, List.take_of_length_le (by rw [hR]; omega)]
      rfl
    · unfold fullR
      rw [List.take_append_of_le_length (by rw [fullR_len hR]; omega)]
      exact ih e
theorem chunk_full {R : Nat → List UInt8} {f : List UInt8} {nx m : Nat} (hf : f.length = 64 * m) (h : ∀ s, nx ≤ s → s < nx + m → R s = chunk f (s - nx)) : ∀ k, k ≤ m → fullR R nx k = f.take (64 * k) := by
  intro k
  induction k with
  | zero => intro _; rfl
  | succ k ih =>
    intro hk
    unfold fullR
    rw [ih (by omega), h (nx + k) (by omega) (by omega), show nx + k - nx = k by omega]
    unfold chunk
    rw [show 64 * (k + 1) = 64 * k + 64 by omega, List.take_add]
theorem chunk_full' {R : Nat → List UInt8} {f : List UInt8} {nx m : Nat} (hf : f.length = 64 * m) (h : ∀ s, nx ≤ s → s < nx + m → R s = chunk f (s - nx)) : fullR R nx m = f := by
  rw [chunk_full hf h m (Nat.le_refl _), List.take_of_length_le (by omega)]
/-- no frame begins so -/
def Dead (v : List UInt8) : Prop := ∀ g : Nat, 1 ≤ g → g < 72057594037927936 → v.take 9 ≠ 70 :: be 8 g
theorem dead_zero : Dead zero64 := by
  intro g _ _ h
  have : zero64.take 9 = 0 :: List.replicate 8 0 := rfl
  rw [this] at h
  injection h with h
  exact absurd h (by decide)
def basJ (sz : Nat) (J : Jn) : Nat := 2 + J.half * sz
/-- its entries' frames lie side by side -/
structure Frm (R : Nat → List UInt8) (sz : Nat) (J : Jn) : Prop where
  ok : JOk J
  gn : J.gone = false
  us : J.used = sumT J.all
  room : J.used ≤ sz
  frm : ∀ k, k < J.all.length → fullR R (basJ sz J + sumT (J.all.take k)) (takesN (J.all.getD k []).length) = frameJ J.gen k (J.all.getD k [])
theorem sumT_take_le (l : List (List UInt8)) (k : Nat) : sumT (l.take k) ≤ sumT l := by
  have h := sumT_app (l.take k) (l.drop k)
  rw [List.take_append_drop] at h
  omega
theorem sumT_take_succ (l : List (List UInt8)) (k : Nat) (hk : k < l.length) : sumT (l.take (k + 1)) = sumT (l.take k) + takesN (l.getD k []).length := by
  rw [List.take_succ_eq_append_getElem hk, sumT_app, List.getD_eq_getElem?_getD, List.getElem?_eq_getElem hk]
  simp [sumT]
theorem Frm.congr {R R' : Nat → List UInt8} {sz : Nat} {J : Jn} (h : Frm R sz J) (hs : ∀ s, basJ sz J ≤ s → s < basJ sz J + J.used → R' s = R s) : Frm R' sz J := by
  refine ⟨h.ok, h.gn, h.us, h.room, fun k hk => ?_⟩
  rw [← h.frm k hk]
  refine fullR_congr fun s h1 h2 => hs s (by omega) ?_
  have h3 := sumT_take_succ J.all k hk
  have h4 := sumT_take_le J.all (k + 1)
  have h5 := h.us
  omega
theorem Frm.add {R R' : Nat → List UInt8} {sz : Nat} {J : Jn} (h : Frm R sz J) {l : List UInt8} (hs : ∀ s, basJ sz J ≤ s → s < basJ sz J + J.used → R' s = R s) (hl : 1 ≤ l.length ∧ l.length ≤ 8192) (hr : J.used + takesN l.length ≤ sz) (hsz : sz ≤ 511) (hf : fullR R' (basJ sz J + J.used) (takesN l.length) = frameJ J.gen J.all.length l) : Frm R' sz (addJ J l) := by
  have hc := h.congr hs
  have hlen := sumT_len J.all
  have hus := h.us
  have htk : 1 ≤ takesN l.length := by unfold takesN; omega
  have e1 : (addJ J l).used = J.used + takesN l.length := rfl
  have e2 : (addJ J l).all = J.all ++ [l] := rfl
  have e3 : (addJ J l).gen = J.gen := rfl
  have e4 : basJ sz (addJ J l) = basJ sz J := rfl
  refine ⟨h.ok.add hl.1 hl.2 (by omega) (by omega), h.gn, by rw [e1, e2, sumT_app, hus]; simp [sumT], by omega, fun k hk => ?_⟩
  rw [e2, List.length_append, List.length_singleton] at hk
  rw [e2, e3, e4]
  by_cases hk2 : k < J.all.length
  · rw [List.take_append_of_le_length (by omega), getD_appL hk2]
    exact hc.frm k hk2
  · obtain rfl : k = J.all.length := by omega
    have e5 : (J.all ++ [l]).getD J.all.length [] = l := by simp
    rw [List.take_left, e5, ← hus]
    exact hf
/-- a journal that counts on a disk where nothing waits -/
structure Inv (D : Dk) (J : Jn) (n : Nat) : Prop where
  fit : FitK D n
  on : D.off = false
  wt : D.wait = []
  od : D.order = []
  g1 : 1 ≤ J.gen ∧ J.gen < 1099511627776
  frm : Frm (stD D) ((n - 2) / 2) J
  slot : stD D (J.gen % 2) = slotJ J.gen J.half
  oth : getN (((stD D (1 - J.gen % 2)).drop 4).take 8) < J.gen
  tail : ∀ s, J.used ≤ s → s < (n - 2) / 2 → Dead (stD D (basJ ((n - 2) / 2) J + s))
theorem getN_app (a b : List UInt8) : getN (a ++ b) = b.foldl (fun m c => (m * 256 + c.toNat) % 18446744073709551616) (getN a) := by unfold getN; rw [List.foldl_append]
theorem be_more (k x : Nat) : be (k + 1) x = be k (x / 256) ++ [UInt8.ofNat (x % 256)] := by
  apply List.ext_getElem?
  intro j
  by_cases hj : j < k + 1
  · rw [be_get _ _ _ hj]
    by_cases hk : j < k
    · rw [List.getElem?_append_left (by rw [be_length]; exact hk), be_get _ _ _ hk]
      congr 2
      rw [Nat.div_div_eq_div_mul]
      congr 2
      rw [show k + 1 - 1 - j = (k - 1 - j) + 1 by omega, Nat.mul_add, Nat.pow_add, Nat.mul_comm]
    · obtain rfl : j = k := by omega
      rw [List.getElem?_append_right (by rw [be_length]; omega), be_length]
      simp
  · rw [List.getElem?_eq_none (by rw [be_length]; omega), List.getElem?_eq_none (by simp [be_length]; omega)]
theorem getN_be (k : Nat) : ∀ x, x < 18446744073709551616 → x < 256 ^ k → getN (be k x) = x := by
  induction k with
  | zero => intro x _ h; simp at h; subst h; rfl
  | succ k ih =>
    intro x h1 h2
    rw [be_more, getN_app, ih (x / 256) (by omega) (Nat.div_lt_of_lt_mul (by rw [Nat.pow_succ] at h2; omega))]
    show (x / 256 * 256 + (UInt8.ofNat (x % 256)).toNat) % 18446744073709551616 = x
    have : (UInt8.ofNat (x % 256)).toNat = x % 256 := by simp
    rw [this]
    omega
theorem slotJ_gen (g h : Nat) (hg : g < 18446744073709551616) : getN (((slotJ g h).drop 4).take 8) = g := by
  have e : ((slotJ g h).drop 4).take 8 = be 8 g := by
    unfold slotJ slotB
    rw [List.append_assoc, List.append_assoc, List.append_assoc, List.drop_left' (by rfl), List.take_left' (be_length _ _)]
  rw [e, getN_be 8 g hg (by omega)]
theorem slotJ_half (g h : Nat) (hh : h < 2) : byt (slotJ g h) 12 = h := by
  unfold slotJ slotB byt
  rw [List.append_assoc, List.append_assoc, getD_appR (by simp [be_length])]
  simp [be_length]
  omega
theorem Inv.read {D : Dk} {J : Jn} {n : Nat} (h : Inv D J n) (s : Nat) : readB D s = stD D s := calm_read h.wt s
theorem Inv.size {D : Dk} {J : Jn} {n : Nat} (h : Inv D J n) : sizeJ D = (n - 2) / 2 := by unfold sizeJ; rw [h.fit.len]
theorem Inv.cur {D : Dk} {J : Jn} {n : Nat} (h : Inv D J n) (hn : 4 ≤ n) : curN D 2 = (J.gen, J.half) := by
  have hg := h.g1
  have hh := h.frm.ok.half
  have hrd : ∀ i : Nat, i < 2 → readE D (i : Int) = stD D i := fun i hi => by rw [readE_on h.on (by rw [h.fit.len]; omega), h.read]
  have step1 : ∀ gh : Nat × Nat, gh.1 < J.gen → curStep D (J.gen % 2) gh = (J.gen, J.half) := fun gh hgh => by
    unfold curStep
    rw [hrd _ (by omega), h.slot, slotJ_gen _ _ (by omega), slotJ_half _ _ hh]
    rw [if_pos ⟨hh, hgh, rfl, rfl⟩]
  have step2 : ∀ gh : Nat × Nat, (curStep D (1 - J.gen % 2) gh = gh) ∨ (curStep D (1 - J.gen % 2) gh).1 < J.gen := fun gh => by
    unfold curStep
    rw [hrd _ (by omega)]
    split
    · exact .inr h.oth
    · exact .inl rfl
  have step3 : curStep D (1 - J.gen % 2) (J.gen, J.half) = (J.gen, J.half) := by
    unfold curStep
    rw [hrd _ (by omega), if_neg]
    intro hc
    have := h.oth
    omega
  show curStep D 1 (curStep D 0 (0, 0)) = _
  rcases (by omega : J.gen % 2 = 0 ∨ J.gen % 2 = 1) with e | e
  · rw [e] at step1 step3
    rw [step1 (0, 0) (by omega)]
    exact step3
  · rw [e] at step1 step2
    refine step1 _ ?_
    rcases step2 (0, 0) with e2 | e2
    · rw [show (1 - 1 : Nat) = 0 from rfl] at e2; rw [e2]; omega
    · exact e2
/-- behind so many entries -/
def upJ (J : Jn) (k : Nat) : Jn := ⟨J.gen, J.half, J.all.take k, sumT (J.all.take k), false⟩
theorem frame_head (gen idx : Nat) (l : List UInt8) : (frameJ gen idx l).take 64 = (70 :: be 8 gen) ++ ((be 4 idx ++ be 2 l.length ++ be 4 (sumJ gen idx l) ++ l ++ List.replicate (takesN l.length * 64 - (19 + l.length)) 0).take 55) := by
  unfold frameJ headJ
  have e : ([70] ++ be 8 gen ++ be 4 idx ++ be 2 l.length ++ be 4 (sumJ gen idx l) ++ l ++ List.replicate (takesN l.length * 64 - (19 + l.length)) (0 : UInt8)) = (70 :: be 8 gen) ++ (be 4 idx ++ be 2 l.length ++ be 4 (sumJ gen idx l) ++ l ++ List.replicate (takesN l.length * 64 - (19 + l.length)) 0) := by simp [List.append_assoc]
  rw [e, List.take_append]
  have hl : (70 :: be 8 gen).length = 9 := by simp [be_length]
  rw [hl, List.take_of_length_le (by rw [hl]; omega)]
theorem frame_nine (gen idx : Nat) (l : List UInt8) : (frameJ gen idx l).take 9 = 70 :: be 8 gen := by
  have h : ((frameJ gen idx l).take 64).take 9 = 70 :: be 8 gen := by
    rw [frame_head, List.take_left' (by simp [be_length])]
  rw [List.take_take] at h
  exact h
theorem frame_len2 (gen idx : Nat) (l : List UInt8) : (((frameJ gen idx l).take 64).drop 13).take 2 = be 2 l.length := by
  rw [frame_head]
  have e : (70 :: be 8 gen) ++ ((be 4 idx ++ be 2 l.length ++ be 4 (sumJ gen idx l) ++ l ++ List.replicate (takesN l.length * 64 - (19 + l.length)) 0).take 55) = ((70 :: be 8 gen) ++ be 4 idx) ++ (be 2 l.length ++ ((be 4 (sumJ gen idx l) ++ l ++ List.replicate (takesN l.length * 64 - (19 + l.length)) 0).take 49)) := by
    rw [List.append_assoc (be 4 idx ++ be 2 l.length ++ be 4 (sumJ gen idx l)), List.append_assoc (be 4 idx ++ be 2 l.length), List.append_assoc (be 4 idx), List.take_append, List.take_of_length_le (by rw [be_length]; omega), be_length, List.take_append, List.take_of_length_le (by rw [be_length]; omega), be_length]
    simp [List.append_assoc]
  rw [e, List.drop_left' (by simp [be_length]), List.take_left' (be_length _ _)]
theorem frame_ent (gen idx : Nat) (l : List UInt8) : ((frameJ gen idx l).drop 19).take l.length = l := by
  unfold frameJ
  rw [List.append_assoc, List.append_assoc, ← List.append_assoc (headJ gen idx l.length), List.drop_left' (by simp [headJ_len, be_length]), List.take_left' rfl]
theorem Inv.readN_some {D : Dk} {J : Jn} {n : Nat} (h : Inv D J n) (k : Nat) (hk : k < J.all.length) : readN D (upJ J k) = some (J.all.getD k []) := by
  have hf := h.frm.frm k hk
  have hR := h.fit.st64
  have hm : J.all.getD k [] ∈ J.all := by
    rw [List.getD_eq_getElem?_getD, List.getElem?_eq_getElem hk]
    exact List.getElem_mem _
  have hl := h.frm.ok.ent _ hm
  have htk : 1 ≤ takesN (J.all.getD k []).length := by unfold takesN; omega
  have hs := sumT_take_succ J.all k hk
  have hs2 := sumT_take_le J.all (k + 1)
  have hus := h.frm.us
  have hro := h.frm.room
  have hnx : nextJ D (upJ J k) = basJ ((n - 2) / 2) J + sumT (J.all.take k) := by unfold nextJ basJ; rw [h.size]; rfl
  have hrd : readB D = stD D := funext h.read
  have hfj : fullJ D (nextJ D (upJ J k)) (takesN (J.all.getD k []).length) = frameJ J.gen k (J.all.getD k []) := by rw [fullJ_R, hrd, hnx]; exact hf
  have hhd : readB D (nextJ D (upJ J k)) = (frameJ J.gen k (J.all.getD k [])).take 64 := by rw [← hfj, fullJ_R, hrd, fullR_head hR _ _ htk]
  have hln : lenJ D (upJ J k) = (J.all.getD k []).length := by
    unfold lenJ
    rw [hhd, frame_len2, getN_be 2 _ (by omega) (by omega)]
  have hent : entJ D (upJ J k) = J.all.getD k [] := by
    unfold entJ
    rw [hln, hfj, frame_ent]
  have e1 : (upJ J k).used = sumT (J.all.take k) := rfl
  have e2 : (upJ J k).gen = J.gen := rfl
  have e3 : (upJ J k).all.length = k := by show (J.all.take k).length = k; rw [List.length_take]; omega
  unfold readN
  rw [h.size, hln, e1, e2, e3, hent, if_neg (by omega), if_neg (by omega), if_pos hfj]
theorem Inv.readN_none {D : Dk} {J : Jn} {n : Nat} (h : Inv D J n) : readN D (upJ J J.all.length) = none := by
  have hR := h.fit.st64
  have hrd : readB D = stD D := funext h.read
  have hus := h.frm.us
  have e1 : (upJ J J.all.length).used = J.used := by show sumT (J.all.take J.all.length) = J.used; rw [List.take_length, ← hus]
  have hnx : nextJ D (upJ J J.all.length) = basJ ((n - 2) / 2) J + J.used := by
    have : nextJ D (upJ J J.all.length) = 2 + J.half * sizeJ D + (upJ J J.all.length).used := rfl
    rw [this, e1, h.size]; rfl
  unfold readN
  rw [h.size, e1]
  by_cases h0 : (n - 2) / 2 - J.used = 0
  · rw [if_pos h0]
  rw [if_neg h0]
  by_cases h1 : lenJ D (upJ J J.all.length) = 0 ∨ 8192 < lenJ D (upJ J J.all.length) ∨ (n - 2) / 2 - J.used < takesN (lenJ D (upJ J J.all.length))
  · rw [if_pos h1]
  rw [if_neg h1, if_neg]
  intro hc
  have htk : 1 ≤ takesN (lenJ D (upJ J J.all.length)) := by unfold takesN; omega
  have hd := h.tail J.used (Nat.le_refl _) (by omega) J.gen h.g1.1 (by have := h.g1.2; omega)
  apply hd
  rw [← hnx]
  have h2 : (fullJ D (nextJ D (upJ J J.all.length)) (takesN (lenJ D (upJ J J.all.length)))).take 64 = stD D (nextJ D (upJ J J.all.length)) := by rw [fullJ_R, hrd, fullR_head hR _ _ htk]
  rw [← h2, hc, List.take_take]
  exact frame_nine _ _ _
theorem Inv.open {D : Dk} {J : Jn} {n : Nat} (h : Inv D J n) (hn : 4 ≤ n) : openJ D = J := by
  have hus := h.frm.us
  have hro := h.frm.room
  have hln := sumT_len J.all
  have key : ∀ m k, k + m = J.all.length → ∀ f, m < f → openL D f (upJ J k) = upJ J J.all.length := by
    intro m
    induction m with
    | zero =>
      intro k hk f hf
      obtain ⟨f, rfl⟩ : ∃ f', f = f' + 1 := ⟨f - 1, by omega⟩
      obtain rfl : k = J.all.length := by omega
      unfold openL
      rw [h.readN_none]
    | succ m ih =>
      intro k hk f hf
      obtain ⟨f, rfl⟩ : ∃ f', f = f' + 1 := ⟨f - 1, by omega⟩
      unfold openL
      rw [h.readN_some k (by omega)]
      have e : addJ (upJ J k) (J.all.getD k []) = upJ J (k + 1) := by
        unfold addJ upJ
        simp only [Jn.mk.injEq, true_and, and_true]
        refine ⟨?_, (sumT_take_succ J.all k (by omega)).symm⟩
        rw [List.take_succ_eq_append_getElem (by omega), List.getD_eq_getElem?_getD, List.getElem?_eq_getElem (by omega)]
        rfl
      show openL D f (addJ (upJ J k) (J.all.getD k [])) = _
      rw [e]
      exact ih (k + 1) (by omega) f (by omega)
  have hst : startJ D = upJ J 0 := by
    unfold startJ upJ
    rw [h.cur hn]
    rfl
  have hend : upJ J J.all.length = J := by
    have hgn := h.frm.gn
    unfold upJ
    rw [List.take_length, ← hus]
    cases J
    simp_all
  unfold openJ
  rw [hst, key J.all.length 0 (by omega) _ (by rw [h.size]; omega), hend]
theorem Inv.same {D D' : Dk} {J : Jn} {n : Nat} (h : Inv D J n) (hf : FitK D' n) (ho : D'.off = false) (hw : D'.wait = []) (hod : D'.order = []) (h01 : ∀ s, s < 2 → stD D' s = stD D s)
    (hs : ∀ s, basJ ((n - 2) / 2) J ≤ s → s < basJ ((n - 2) / 2) J + J.used → stD D' s = stD D s) (ht : ∀ s, J.used ≤ s → s < (n - 2) / 2 → Dead (stD D' (basJ ((n - 2) / 2) J + s))) : Inv D' J n :=
  ⟨hf, ho, hw, hod, h.g1, h.frm.congr hs, by rw [h01 _ (by omega)]; exact h.slot, by rw [h01 _ (by omega)]; exact h.oth, ht⟩
theorem Inv.add {D D' : Dk} {J : Jn} {n : Nat} (h : Inv D J n) (hn : n ≤ 1000) (hf : FitK D' n) (ho : D'.off = false) (hw : D'.wait = []) (hod : D'.order = []) (h01 : ∀ s, s < 2 → stD D' s = stD D s)
    (hs : ∀ s, basJ ((n - 2) / 2) J ≤ s → s < basJ ((n - 2) / 2) J + J.used → stD D' s = stD D s) {l : List UInt8} (hl : 1 ≤ l.length ∧ l.length ≤ 8192) (hr : J.used + takesN l.length ≤ (n - 2) / 2)
    (hfl : fullR (stD D') (basJ ((n - 2) / 2) J + J.used) (takesN l.length) = frameJ J.gen J.all.length l) (ht : ∀ s, J.used + takesN l.length ≤ s → s < (n - 2) / 2 → Dead (stD D' (basJ ((n - 2) / 2) J + s))) : Inv D' (addJ J l) n :=
  ⟨hf, ho, hw, hod, h.g1, h.frm.add hs hl hr (by omega) hfl, by show stD D' (J.gen % 2) = slotJ J.gen J.half; rw [h01 _ (by omega)]; exact h.slot, by show getN (((stD D' (1 - J.gen % 2)).drop 4).take 8) < J.gen; rw [h01 _ (by omega)]; exact h.oth, ht⟩
end Go.Proofs.Ytfhlidlmipleaaa
namespace Go.Proofs.Ytfhlidlmipleaaa
set_option linter.unusedVariables false
set_option linter.unusedSimpArgs false
open Go Go.RowKit LM

/-- so many steps of an armed disk -/
def Cnt (D D' : Dk) (k : Nat) : Prop := 0 ≤ D.armed → D'.armed + k = D.armed ∧ 0 ≤ D'.armed
theorem Cnt.refl (D : Dk) : Cnt D D 0 := fun h => ⟨by omega, h⟩
theorem Cnt.trans {D D1 D2 : Dk} {j k : Nat} (h : Cnt D D1 j) (h2 : Cnt D1 D2 k) : Cnt D D2 (j + k) := fun h0 => by
  obtain ⟨a, b⟩ := h h0
  obtain ⟨c, d⟩ := h2 b
  exact ⟨by omega, d⟩
theorem wr_cnt {D : Dk} {i : Int} {l : List UInt8} (h : wrE D i l = 0) : Cnt D (wrD D i l) 1 := fun h0 => by
  obtain ⟨_, a, b, _⟩ := wr_off h
  have := b (by omega)
  omega
theorem rest_ok {D : Dk} {nx k : Nat} {f : List UInt8} (h : (restS D nx f (k + 1)).2 = 0) : (restS D nx f k).2 = 0 ∧ wrE (restS D nx f k).1 ((nx + (k + 1) : Nat) : Int) (chunk f (k + 1)) = 0 ∧ (restS D nx f (k + 1)).1 = wrD (restS D nx f k).1 ((nx + (k + 1) : Nat) : Int) (chunk f (k + 1)) := by
  have e : restS D nx f (k + 1) = if (restS D nx f k).2 ≠ 0 then restS D nx f k else (wrD (restS D nx f k).1 ((nx + (k + 1) : Nat) : Int) (chunk f (k + 1)), wrE (restS D nx f k).1 ((nx + (k + 1) : Nat) : Int) (chunk f (k + 1))) := rfl
  by_cases h0 : (restS D nx f k).2 ≠ 0
  · rw [if_pos h0] at e
    rw [e] at h
    exact absurd h h0
  · rw [if_neg h0] at e
    rw [e] at h ⊢
    exact ⟨by omega, h, rfl⟩
theorem rest_read {D : Dk} {nx : Nat} {f : List UInt8} : ∀ k, (restS D nx f k).2 = 0 → (∀ s, readB (restS D nx f k).1 s = if nx < s ∧ s < nx + (k + 1) then chunk f (s - nx) else readB D s) ∧ (restS D nx f k).1.stay = D.stay ∧ Cnt D (restS D nx f k).1 k := by
  intro k
  induction k with
  | zero =>
    intro _
    exact ⟨fun s => by rw [if_neg (by omega)]; rfl, rfl, Cnt.refl D⟩
  | succ k ih =>
    intro h
    obtain ⟨h0, hw, e⟩ := rest_ok h
    obtain ⟨a, b, c⟩ := ih h0
    rw [e]
    refine ⟨fun s => ?_, (wr_off hw).2.2.2.2.trans b, c.trans (wr_cnt hw)⟩
    rw [wr_read hw, a]
    by_cases hs : s = nx + (k + 1)
    · subst hs
      rw [if_pos rfl, if_pos (by omega)]
      congr 1
      omega
    · rw [if_neg hs]
      by_cases h1 : nx < s ∧ s < nx + (k + 1)
      · rw [if_pos h1, if_pos (by omega)]
      · rw [if_neg h1, if_neg (by omega)]
theorem FitK.rest {D : Dk} {n : Nat} (h : FitK D n) (nx : Nat) (f : List UInt8) (k : Nat) : FitK (restS D nx f k).1 n := by
  induction k with
  | zero => exact h
  | succ k ih =>
    unfold restS
    split
    · exact ih
    · exact ih.write _ _
theorem PhD.rest {A : Nat → List UInt8 → Prop} {D : Dk} {n : Nat} (h : PhD A D n) (nx : Nat) (f : List UInt8) (k : Nat) (hA : ∀ j, 1 ≤ j → j ≤ k → A (nx + j) (chunk f j)) : PhD A (restS D nx f k).1 n := by
  induction k with
  | zero => exact h
  | succ k ih =>
    have h1 := ih (fun j h1 h2 => hA j h1 (by omega))
    unfold restS
    split
    · exact h1
    · exact h1.write (hA (k + 1) (by omega) (by omega))
theorem rest_stop {D : Dk} {n : Nat} (hF : FitK D n) {nx m : Nat} {f : List UInt8} (hf : f.length = 64 * m) (hr : nx + m ≤ n) : ∀ k, k < m → (restS D nx f k).2 ≠ 0 → (restS D nx f k).2 = 2 := by
  intro k
  induction k with
  | zero => intro _ h; exact absurd rfl h
  | succ k ih =>
    intro hk h
    have e : restS D nx f (k + 1) = if (restS D nx f k).2 ≠ 0 then restS D nx f k else (wrD (restS D nx f k).1 ((nx + (k + 1) : Nat) : Int) (chunk f (k + 1)), wrE (restS D nx f k).1 ((nx + (k + 1) : Nat) : Int) (chunk f (k + 1))) := rfl
    by_cases h0 : (restS D nx f k).2 ≠ 0
    · rw [if_pos h0] at e
      rw [e]
      exact ih (by omega) h0
    · rw [if_neg h0] at e
      rw [e] at h ⊢
      exact wr_stop h (by omega) (by rw [(hF.rest nx f k).len]; omega) (chunk_len hf hk)
theorem sure_read {D : Dk} {n i : Nat} {l : List UInt8} (hF : FitK D n) (h : sureE D (i : Int) l = 0) : (∀ s, stD (sureD D (i : Int) l) s = if s = i then l else readB D s) ∧ (sureD D (i : Int) l).off = false ∧ (sureD D (i : Int) l).wait = [] ∧ (sureD D (i : Int) l).order = [] ∧ FitK (sureD D (i : Int) l) n := by
  obtain ⟨a, b, c⟩ := sure_ok h
  rw [c]
  obtain ⟨x, y, z, _⟩ := fl_off b
  exact ⟨fun s => by rw [fl_read (hF.write _ _) b, wr_read a], x, y, z, (hF.write _ _).flush⟩
theorem crash_calm (D : Dk) (kl : List Bool) : (crashD D kl).off = false ∧ (crashD D kl).wait = [] ∧ (crashD D kl).order = [] ∧ (crashD D kl).armed = -1 := ⟨rfl, rfl, rfl, rfl⟩
theorem Inv.placed {D D' : Dk} {J : Jn} {n : Nat} (h : Inv D J n) (hn : n ≤ 1000) (hf : FitK D' n) (ho : D'.off = false) (hw : D'.wait = []) (hod : D'.order = []) {l : List UInt8} (hl : 1 ≤ l.length ∧ l.length ≤ 8192) (hr : J.used + takesN l.length ≤ (n - 2) / 2)
    (hst : ∀ s, stD D' s = if basJ ((n - 2) / 2) J + J.used ≤ s ∧ s < basJ ((n - 2) / 2) J + J.used + takesN l.length then chunk (frameJ J.gen J.all.length l) (s - (basJ ((n - 2) / 2) J + J.used)) else stD D s) : Inv D' (addJ J l) n := by
  have hb : 2 ≤ basJ ((n - 2) / 2) J := by unfold basJ; omega
  refine h.add hn hf ho hw hod (fun s hs => by rw [hst, if_neg (by omega)]) (fun s h1 h2 => by rw [hst, if_neg (by omega)]) hl hr ?_ (fun s h1 h2 => ?_)
  · refine chunk_full' (frameJ_len' _ _ _) (fun s h1 h2 => ?_)
    rw [hst, if_pos ⟨h1, h2⟩]
  · rw [hst, if_neg (by omega)]
    exact h.tail s (by omega) h2
theorem app_law {D : Dk} {J : Jn} {n : Nat} (h : Inv D J n) (hn : 4 ≤ n ∧ n ≤ 1000) (l : List UInt8) (hm : mayJ D J [l] J.used = 0) (hR : ∀ k, 1 ≤ k → k < takesN l.length → Dead (chunk (frameJ J.gen J.all.length l) k)) :
    ((appS D J l).2 = (addJ J l, 0) ∧ Inv (appS D J l).1 (addJ J l) n) ∨ ((appS D J l).2.2 = 2 ∧ FitK (appS D J l).1 n ∧ ∀ kl, Inv (crashD (appS D J l).1 kl) J n ∨ Inv (crashD (appS D J l).1 kl) (addJ J l) n) := by
  obtain ⟨hg, hl1, hl8, hr⟩ := mayJ_one hm
  rw [h.size] at hr
  have hnx : nextJ D J = basJ ((n - 2) / 2) J + J.used := by unfold nextJ basJ; rw [h.size]
  have hb : 2 ≤ basJ ((n - 2) / 2) J ∧ basJ ((n - 2) / 2) J + (n - 2) / 2 ≤ n := by
    unfold basJ
    have := h.frm.ok.half
    rcases (by omega : J.half = 0 ∨ J.half = 1) with e | e <;> rw [e] <;> omega
  have hfl := frameJ_len' J.gen J.all.length l
  have htk : 1 ≤ takesN l.length := by unfold takesN; omega
  have hap : appS D J l = if (apR D J l).2 ≠ 0 then ((apR D J l).1, noteJ J (apR D J l).2, (apR D J l).2)
      else if sureE (apR D J l).1 (nextJ D J) ((frameJ J.gen J.all.length l).take 64) ≠ 0 then (sureD (apR D J l).1 (nextJ D J) ((frameJ J.gen J.all.length l).take 64), noteJ J (sureE (apR D J l).1 (nextJ D J) ((frameJ J.gen J.all.length l).take 64)), sureE (apR D J l).1 (nextJ D J) ((frameJ J.gen J.all.length l).take 64))
      else (sureD (apR D J l).1 (nextJ D J) ((frameJ J.gen J.all.length l).take 64), addJ J l, 0) := by
    unfold appS
    rw [if_neg (by omega)]
  have hpl := fun (D' : Dk) a b c d e => h.placed (D' := D') hn.2 a b c d (l := l) ⟨hl1, hl8⟩ hr e
  unfold apR at hap
  rw [hnx] at hap
  generalize hx : basJ ((n - 2) / 2) J + J.used = nx at *
  generalize hfe : frameJ J.gen J.all.length l = f at *
  generalize takesN l.length = m at *
  have hph0 := PhD.start h.fit h.wt
  -- phase 1
  have hA1 : PhD (fun s v => v = stD D s ∨ (nx < s ∧ s < nx + m ∧ Dead v)) (restS D nx f (m - 1)).1 n :=
    (hph0.weak (fun s v e => .inl e)).rest nx f (m - 1) (fun j h1 h2 => .inr ⟨by omega, by omega, hR j h1 (by omega)⟩)
  have hC1 : ∀ D', PhD (fun s v => v = stD D s ∨ (nx < s ∧ s < nx + m ∧ Dead v)) D' n → ∀ kl, Inv (crashD D' kl) J n := fun D' hD' kl => by
    have hc := (hD'.crash kl).st
    refine h.same (hD'.fit.crash kl) rfl rfl rfl (fun s hs => ?_) (fun s h1 h2 => ?_) (fun s h1 h2 => ?_)
    · rcases hc s with e | ⟨e, _⟩
      · exact e
      · omega
    · rcases hc s with e | ⟨e, _⟩
      · exact e
      · omega
    · rcases hc (basJ ((n - 2) / 2) J + s) with e | ⟨_, _, e⟩
      · rw [e]; exact h.tail s h1 h2
      · exact e
  have hmid : (∃ D2, appS D J l = (if sureE D2 (nx : Int) (f.take 64) ≠ 0 then (sureD D2 (nx : Int) (f.take 64), noteJ J (sureE D2 (nx : Int) (f.take 64)), sureE D2 (nx : Int) (f.take 64)) else (sureD D2 (nx : Int) (f.take 64), addJ J l, 0)) ∧ FitK D2 n ∧ D2.wait = [] ∧ ∀ s, stD D2 s = if nx < s ∧ s < nx + m then chunk f (s - nx) else stD D s)
      ∨ ((appS D J l).2.2 = 2 ∧ PhD (fun s v => v = stD D s ∨ (nx < s ∧ s < nx + m ∧ Dead v)) (appS D J l).1 n) := by
    by_cases hm1 : 1 < m
    · rw [if_pos hm1] at hap
      by_cases h1 : (restS D nx f (m - 1)).2 = 0
      · rw [if_pos h1] at hap
        by_cases h2 : flE (restS D nx f (m - 1)).1 = 0
        · rw [if_neg (by simpa using h2)] at hap
          refine .inl ⟨_, hap, (h.fit.rest _ _ _).flush, (fl_off h2).2.1, fun s => ?_⟩
          rw [fl_read (h.fit.rest _ _ _) h2, (rest_read _ h1).1, h.read, show nx + (m - 1 + 1) = nx + m by omega]
        · rw [if_pos (by simpa using h2)] at hap
          refine .inr ?_
          rw [hap]
          exact ⟨fl_stop h2, hA1.flush⟩
      · rw [if_neg h1, if_pos h1] at hap
        refine .inr ?_
        rw [hap]
        exact ⟨rest_stop h.fit hfl (by omega) _ (by omega) h1, hA1⟩
    · rw [if_neg hm1, if_neg (by simp)] at hap
      exact .inl ⟨D, hap, h.fit, h.wt, fun s => by rw [if_neg (by omega)]⟩
  rcases hmid with ⟨D2, hap2, hF2, hw2, hst2⟩ | ⟨e1, hP⟩
  · have hf64 : (f.take 64).length = 64 := by rw [List.length_take]; omega
    have hc0 : chunk f 0 = f.take 64 := by unfold chunk; simp
    by_cases h3 : sureE D2 (nx : Int) (f.take 64) = 0
    · rw [if_neg (by simpa using h3)] at hap2
      obtain ⟨a, b, c, d, e⟩ := sure_read hF2 h3
      rw [hap2]
      refine .inl ⟨rfl, hpl _ e b c d (fun s => ?_)⟩
      rw [a, calm_read hw2, hst2]
      by_cases hs : s = nx
      · subst hs; rw [if_pos rfl, if_pos (by omega), Nat.sub_self, hc0]
      · rw [if_neg hs]
        by_cases h4 : nx < s ∧ s < nx + m
        · rw [if_pos h4, if_pos (by omega)]
        · rw [if_neg h4, if_neg (by omega)]
    · rw [if_pos h3] at hap2
      rw [hap2]
      have hP2 : PhD (fun s v => v = stD D2 s ∨ (s = nx ∧ v = f.take 64)) (sureD D2 (nx : Int) (f.take 64)) n := ((PhD.start hF2 hw2).weak (fun s v e => .inl e)).sure (.inr ⟨rfl, rfl⟩)
      refine .inr ⟨sure_stop h3 (by omega) (by rw [hF2.len]; omega) hf64, hP2.fit, fun kl => ?_⟩
      have hc := (hP2.crash kl).st
      have hF3 := hP2.fit.crash kl
      by_cases hnew : stD (crashD (sureD D2 (nx : Int) (f.take 64)) kl) nx = f.take 64
      · refine .inr (hpl _ hF3 rfl rfl rfl (fun s => ?_))
        by_cases hs : s = nx
        · subst hs; rw [if_pos (by omega), Nat.sub_self, hc0, hnew]
        · rcases hc s with e | ⟨e, _⟩
          · rw [e, hst2]
            by_cases h4 : nx < s ∧ s < nx + m
            · rw [if_pos h4, if_pos (by omega)]
            · rw [if_neg h4, if_neg (by omega)]
          · exact absurd e hs
      · have hall : ∀ s, stD (crashD (sureD D2 (nx : Int) (f.take 64)) kl) s = stD D2 s := fun s => by
          rcases hc s with e | ⟨e, e2⟩
          · exact e
          · subst e; exact absurd e2 hnew
        refine .inl (h.same hF3 rfl rfl rfl (fun s hs => ?_) (fun s h1 h2 => ?_) (fun s h1 h2 => ?_))
        · rw [hall, hst2, if_neg (by omega)]
        · rw [hall, hst2, if_neg (by omega)]
        · rw [hall, hst2]
          split
          · exact hR _ (by omega) (by omega)
          · exact h.tail s h1 h2
  · exact .inr ⟨e1, hP.fit, fun kl => .inl (hC1 _ hP kl)⟩
end Go.Proofs.Ytfhlidlmipleaaa
namespace Go.Proofs.Ytfhlidlmipleaaa
set_option linter.unusedVariables false
set_option linter.unusedSimpArgs false
open Go Go.RowKit LM

theorem wipe_ok {D : Dk} {b0 k : Nat} (h : (wipeS D b0 (k + 1)).2 = 0) : (wipeS D b0 k).2 = 0 ∧ wrE (wipeS D b0 k).1 ((b0 + k : Nat) : Int) zero64 = 0 ∧ (wipeS D b0 (k + 1)).1 = wrD (wipeS D b0 k).1 ((b0 + k : Nat) : Int) zero64 := by
  have e : wipeS D b0 (k + 1) = if (wipeS D b0 k).2 ≠ 0 then wipeS D b0 k else (wrD (wipeS D b0 k).1 ((b0 + k : Nat) : Int) zero64, wrE (wipeS D b0 k).1 ((b0 + k : Nat) : Int) zero64) := rfl
  by_cases h0 : (wipeS D b0 k).2 ≠ 0
  · rw [if_pos h0] at e
    rw [e] at h
    exact absurd h h0
  · rw [if_neg h0] at e
    rw [e] at h ⊢
    exact ⟨by omega, h, rfl⟩
theorem wipe_read {D : Dk} {b0 : Nat} : ∀ k, (wipeS D b0 k).2 = 0 → (∀ s, readB (wipeS D b0 k).1 s = if b0 ≤ s ∧ s < b0 + k then zero64 else readB D s) ∧ (wipeS D b0 k).1.stay = D.stay ∧ Cnt D (wipeS D b0 k).1 k := by
  intro k
  induction k with
  | zero =>
    intro _
    exact ⟨fun s => by rw [if_neg (by omega)]; rfl, rfl, Cnt.refl D⟩
  | succ k ih =>
    intro h
    obtain ⟨h0, hw, e⟩ := wipe_ok h
    obtain ⟨a, b, c⟩ := ih h0
    rw [e]
    refine ⟨fun s => ?_, (wr_off hw).2.2.2.2.trans b, c.trans (wr_cnt hw)⟩
    rw [wr_read hw, a]
    by_cases hs : s = b0 + k
    · subst hs
      rw [if_pos rfl, if_pos (by omega)]
    · rw [if_neg hs]
      by_cases h1 : b0 ≤ s ∧ s < b0 + k
      · rw [if_pos h1, if_pos (by omega)]
      · rw [if_neg h1, if_neg (by omega)]
theorem FitK.wipe {D : Dk} {n : Nat} (h : FitK D n) (b0 k : Nat) : FitK (wipeS D b0 k).1 n := by
  induction k with
  | zero => exact h
  | succ k ih =>
    unfold wipeS
    split
    · exact ih
    · exact ih.write _ _
theorem PhD.wipe {A : Nat → List UInt8 → Prop} {D : Dk} {n : Nat} (h : PhD A D n) (b0 k : Nat) (hA : ∀ j, j < k → A (b0 + j) zero64) : PhD A (wipeS D b0 k).1 n := by
  induction k with
  | zero => exact h
  | succ k ih =>
    have h1 := ih (fun j h1 => hA j (by omega))
    unfold wipeS
    split
    · exact h1
    · exact h1.write (hA k (by omega))
theorem wipe_stop {D : Dk} {n : Nat} (hF : FitK D n) {b0 : Nat} : ∀ k, b0 + k ≤ n → (wipeS D b0 k).2 ≠ 0 → (wipeS D b0 k).2 = 2 := by
  intro k
  induction k with
  | zero => intro _ h; exact absurd rfl h
  | succ k ih =>
    intro hk h
    have e : wipeS D b0 (k + 1) = if (wipeS D b0 k).2 ≠ 0 then wipeS D b0 k else (wrD (wipeS D b0 k).1 ((b0 + k : Nat) : Int) zero64, wrE (wipeS D b0 k).1 ((b0 + k : Nat) : Int) zero64) := rfl
    by_cases h0 : (wipeS D b0 k).2 ≠ 0
    · rw [if_pos h0] at e
      rw [e]
      exact ih (by omega) h0
    · rw [if_neg h0] at e
      rw [e] at h ⊢
      exact wr_stop h (by omega) (by rw [(hF.wipe b0 k).len]; omega) (by rfl)
theorem FitK.layL {n : Nat} (ls : List (List UInt8)) : ∀ {D : Dk} (_ : FitK D n) (J : Jn), FitK (layL D J ls).1 n := by
  induction ls with
  | nil => intro D h J; exact h
  | cons l t ih =>
    intro D h J
    unfold Go.Proofs.Ytfhlidlmipleaaa.layL
    split
    · exact h.rest _ _ _
    · split
      · exact (h.rest _ _ _).write _ _
      · exact ih ((h.rest _ _ _).write _ _) _
theorem nextJ_bas {D : Dk} {n : Nat} (h : FitK D n) (J : Jn) : nextJ D J = basJ ((n - 2) / 2) J + J.used := by unfold nextJ basJ sizeJ; rw [h.len]
theorem PhD.layL {A : Nat → List UInt8 → Prop} {n : Nat} (ls : List (List UInt8)) : ∀ {D : Dk} (_ : PhD A D n) (J : Jn), (∀ s v, basJ ((n - 2) / 2) J + J.used ≤ s → s < basJ ((n - 2) / 2) J + J.used + sumT ls → A s v) → PhD A (layL D J ls).1 n := by
  induction ls with
  | nil => intro D h J _; exact h
  | cons l t ih =>
    intro D h J hA
    have hn := nextJ_bas h.fit J
    have htk : 1 ≤ takesN l.length := by unfold takesN; omega
    have h1 := h.rest (nextJ D J) (frJ J l) (takesN l.length - 1) (fun j h1 h2 => hA _ _ (by omega) (by simp only [sumT]; omega))
    have h2 := h1.write (i := nextJ D J) (l := (frJ J l).take 64) (hA _ _ (by omega) (by simp only [sumT]; omega))
    unfold Go.Proofs.Ytfhlidlmipleaaa.layL
    split
    · exact h1
    · split
      · exact h2
      · refine ih h2 (addJ J l) (fun s v h3 h4 => hA s v ?_ ?_)
        · have e4 : basJ ((n - 2) / 2) (addJ J l) = basJ ((n - 2) / 2) J := rfl
          have e5 : (addJ J l).used = J.used + takesN l.length := rfl
          omega
        · have e4 : basJ ((n - 2) / 2) (addJ J l) = basJ ((n - 2) / 2) J := rfl
          have e5 : (addJ J l).used = J.used + takesN l.length := rfl
          simp only [sumT]; omega
theorem layL_stop {n : Nat} (ls : List (List UInt8)) : ∀ {D : Dk} (_ : FitK D n) (J : Jn), basJ ((n - 2) / 2) J + J.used + sumT ls ≤ n → (layL D J ls).2.2 ≠ 0 → (layL D J ls).2.2 = 2 := by
  induction ls with
  | nil => intro D _ J _ h; exact absurd rfl h
  | cons l t ih =>
    intro D hF J hr h
    have hn := nextJ_bas hF J
    have htk : 1 ≤ takesN l.length := by unfold takesN; omega
    have hfl : (frJ J l).length = 64 * takesN l.length := frameJ_len' _ _ _
    simp only [sumT] at hr
    unfold Go.Proofs.Ytfhlidlmipleaaa.layL at h ⊢
    by_cases h1 : (restS D (nextJ D J) (frJ J l) (takesN l.length - 1)).2 ≠ 0
    · rw [if_pos h1]
      exact rest_stop hF hfl (by omega) _ (by omega) h1
    rw [if_neg h1] at h ⊢
    have hF1 := hF.rest (nextJ D J) (frJ J l) (takesN l.length - 1)
    by_cases h2 : wrE (restS D (nextJ D J) (frJ J l) (takesN l.length - 1)).1 (nextJ D J) ((frJ J l).take 64) ≠ 0
    · rw [if_pos h2]
      exact wr_stop h2 (by omega) (by rw [hF1.len]; omega) (by rw [List.length_take]; omega)
    rw [if_neg h2] at h ⊢
    refine ih (hF1.write _ _) (addJ J l) ?_ h
    have e4 : basJ ((n - 2) / 2) (addJ J l) = basJ ((n - 2) / 2) J := rfl
    have e5 : (addJ J l).used = J.used + takesN l.length := rfl
    omega
theorem layL_law {n : Nat} (hn : n ≤ 1000) (ls : List (List UInt8)) : ∀ {D : Dk} (_ : FitK D n) (J : Jn), Frm (readB D) ((n - 2) / 2) J → (∀ l ∈ ls, 1 ≤ l.length ∧ l.length ≤ 8192) → J.used + sumT ls ≤ (n - 2) / 2 → (layL D J ls).2.2 = 0 →
    Frm (readB (layL D J ls).1) ((n - 2) / 2) (layL D J ls).2.1 ∧ (layL D J ls).2.1 = { J with all := J.all ++ ls, used := J.used + sumT ls } ∧ Cnt D (layL D J ls).1 (sumT ls) ∧ (layL D J ls).1.stay = D.stay ∧
    ∀ s, s < basJ ((n - 2) / 2) J + J.used ∨ basJ ((n - 2) / 2) J + J.used + sumT ls ≤ s → readB (layL D J ls).1 s = readB D s := by
  induction ls with
  | nil =>
    intro D hF J hf _ _ _
    refine ⟨hf, ?_, Cnt.refl D, rfl, fun _ _ => rfl⟩
    show J = _
    cases J; simp [sumT]
  | cons l t ih =>
    intro D hF J hf hls hr h
    have hn0 := nextJ_bas hF J
    have htk : 1 ≤ takesN l.length := by unfold takesN; omega
    have hfl : (frJ J l).length = 64 * takesN l.length := frameJ_len' _ _ _
    have hll := hls l (List.mem_cons_self ..)
    simp only [sumT] at hr ⊢
    have e4 : basJ ((n - 2) / 2) (addJ J l) = basJ ((n - 2) / 2) J := rfl
    have e5 : (addJ J l).used = J.used + takesN l.length := rfl
    have hc0 : chunk (frJ J l) 0 = (frJ J l).take 64 := by unfold chunk; simp
    have el : layL D J (l :: t) = if (restS D (nextJ D J) (frJ J l) (takesN l.length - 1)).2 ≠ 0 then ((restS D (nextJ D J) (frJ J l) (takesN l.length - 1)).1, J, (restS D (nextJ D J) (frJ J l) (takesN l.length - 1)).2)
      else if wrE (restS D (nextJ D J) (frJ J l) (takesN l.length - 1)).1 (nextJ D J) ((frJ J l).take 64) ≠ 0 then (wrD (restS D (nextJ D J) (frJ J l) (takesN l.length - 1)).1 (nextJ D J) ((frJ J l).take 64), J, wrE (restS D (nextJ D J) (frJ J l) (takesN l.length - 1)).1 (nextJ D J) ((frJ J l).take 64))
      else layL (wrD (restS D (nextJ D J) (frJ J l) (takesN l.length - 1)).1 (nextJ D J) ((frJ J l).take 64)) (addJ J l) t := rfl
    by_cases h1 : (restS D (nextJ D J) (frJ J l) (takesN l.length - 1)).2 ≠ 0
    · rw [if_pos h1] at el
      rw [el] at h
      exact absurd h h1
    rw [if_neg h1] at el
    by_cases h2 : wrE (restS D (nextJ D J) (frJ J l) (takesN l.length - 1)).1 (nextJ D J) ((frJ J l).take 64) ≠ 0
    · rw [if_pos h2] at el
      rw [el] at h
      exact absurd h h2
    rw [if_neg h2] at el
    rw [el] at h ⊢
    have h1 := Decidable.not_not.1 h1
    have h2 := Decidable.not_not.1 h2
    obtain ⟨a, b, c⟩ := rest_read _ h1
    have hrd : ∀ s, readB (wrD (restS D (nextJ D J) (frJ J l) (takesN l.length - 1)).1 (nextJ D J) ((frJ J l).take 64)) s = if basJ ((n - 2) / 2) J + J.used ≤ s ∧ s < basJ ((n - 2) / 2) J + J.used + takesN l.length then chunk (frJ J l) (s - (basJ ((n - 2) / 2) J + J.used)) else readB D s := fun s => by
      rw [wr_read h2, a, hn0]
      by_cases hs : s = basJ ((n - 2) / 2) J + J.used
      · subst hs; rw [if_pos rfl, if_pos (by omega), Nat.sub_self, hc0]
      · rw [if_neg hs]
        by_cases h3 : basJ ((n - 2) / 2) J + J.used < s ∧ s < basJ ((n - 2) / 2) J + J.used + (takesN l.length - 1 + 1)
        · rw [if_pos h3, if_pos (by omega)]
        · rw [if_neg h3, if_neg (by omega)]
    have hF2 := (hF.rest (nextJ D J) (frJ J l) (takesN l.length - 1)).write (nextJ D J) ((frJ J l).take 64)
    have hf2 := hf.add (R' := readB (wrD (restS D (nextJ D J) (frJ J l) (takesN l.length - 1)).1 (nextJ D J) ((frJ J l).take 64))) (l := l) (fun s h1 h2 => by rw [hrd, if_neg (by omega)]) hll (by omega) (by omega)
      (chunk_full' hfl (fun s h1 h2 => (hrd s).trans (if_pos ⟨h1, h2⟩)))
    obtain ⟨p, q, r, u, v⟩ := ih hF2 (addJ J l) hf2 (fun x hx => hls x (List.mem_cons_of_mem _ hx)) (by omega) h
    refine ⟨p, ?_, ?_, ?_, fun s hs => ?_⟩
    · rw [q]
      simp [addJ, Nat.add_assoc]
    · have hc := (c.trans (wr_cnt h2)).trans r
      rw [show takesN l.length - 1 + 1 + sumT t = takesN l.length + sumT t by omega] at hc
      exact hc
    · rw [u, (wr_off h2).2.2.2.2, b]
    · rw [v s (by omega), hrd, if_neg (by omega)]
theorem wipeJ_bas {D : Dk} {n : Nat} (h : FitK D n) (J : Jn) : wipeJ D J = wipeS D (basJ ((n - 2) / 2) J + J.used) ((n - 2) / 2 - J.used) := by
  unfold wipeJ
  rw [nextJ_bas h, show sizeJ D = (n - 2) / 2 by unfold sizeJ; rw [h.len]]
theorem FitK.layS {D : Dk} {n : Nat} (h : FitK D n) (J : Jn) (ls : List (List UInt8)) : FitK (layS D J ls).1 n := by
  unfold Go.Proofs.Ytfhlidlmipleaaa.layS
  split
  · exact h.layL ls J
  · exact (h.layL ls J).wipe _ _
theorem layL_used {n : Nat} (ls : List (List UInt8)) : ∀ {D : Dk} (J : Jn), J.used ≤ (layL D J ls).2.1.used ∧ (layL D J ls).2.1.half = J.half := by
  induction ls with
  | nil => intro D J; exact ⟨Nat.le_refl _, rfl⟩
  | cons l t ih =>
    intro D J
    unfold layL
    split
    · exact ⟨Nat.le_refl _, rfl⟩
    · split
      · exact ⟨Nat.le_refl _, rfl⟩
      · obtain ⟨a, b⟩ := @ih (wrD (restS D (nextJ D J) (frJ J l) (takesN l.length - 1)).1 (nextJ D J) ((frJ J l).take 64)) (addJ J l)
        exact ⟨Nat.le_trans (Nat.le_add_right _ _) a, b⟩
theorem PhD.layS {A : Nat → List UInt8 → Prop} {n : Nat} {D : Dk} (h : PhD A D n) (J : Jn) (ls : List (List UInt8)) (hr : J.used + sumT ls ≤ (n - 2) / 2) (hA : ∀ s v, basJ ((n - 2) / 2) J ≤ s → s < basJ ((n - 2) / 2) J + (n - 2) / 2 → A s v) : PhD A (layS D J ls).1 n := by
  have h1 := h.layL ls J (fun s v h1 h2 => hA s v (by omega) (by omega))
  unfold Go.Proofs.Ytfhlidlmipleaaa.layS
  split
  · exact h1
  · rw [wipeJ_bas h1.fit]
    obtain ⟨a, b⟩ := @layL_used n ls D J
    have e : basJ ((n - 2) / 2) (Go.Proofs.Ytfhlidlmipleaaa.layL D J ls).2.1 = basJ ((n - 2) / 2) J := by unfold basJ; rw [b]
    rw [e]
    exact h1.wipe _ _ (fun j hj => hA _ _ (by omega) (by omega))
theorem layS_stop {n : Nat} {D : Dk} (hF : FitK D n) (J : Jn) (ls : List (List UInt8)) (hb : basJ ((n - 2) / 2) J + (n - 2) / 2 ≤ n) (hr : J.used + sumT ls ≤ (n - 2) / 2) (hu : (layL D J ls).2.2 = 0 → (layL D J ls).2.1.used ≤ (n - 2) / 2) (h : (layS D J ls).2.2 ≠ 0) : (layS D J ls).2.2 = 2 := by
  unfold layS at h ⊢
  by_cases h1 : (layL D J ls).2.2 ≠ 0
  · rw [if_pos h1]
    exact layL_stop ls hF J (by omega) h1
  · rw [if_neg h1] at h ⊢
    have hw := wipeJ_bas (hF.layL ls J) (layL D J ls).2.1
    obtain ⟨a, b⟩ := @layL_used n ls D J
    have e : basJ ((n - 2) / 2) (layL D J ls).2.1 = basJ ((n - 2) / 2) J := by unfold basJ; rw [b]
    have := hu (by omega)
    simp only [] at h ⊢
    rw [hw] at h ⊢
    exact wipe_stop (hF.layL ls J) _ (by rw [e]; omega) h
theorem layS_law {n : Nat} (hn : n ≤ 1000) {D : Dk} (hF : FitK D n) (J : Jn) (ls : List (List UInt8)) (hf : Frm (readB D) ((n - 2) / 2) J) (hls : ∀ l ∈ ls, 1 ≤ l.length ∧ l.length ≤ 8192) (hr : J.used + sumT ls ≤ (n - 2) / 2) (h : (layS D J ls).2.2 = 0) :
    Frm (readB (layS D J ls).1) ((n - 2) / 2) { J with all := J.all ++ ls, used := J.used + sumT ls } ∧ (layS D J ls).2.1 = { J with all := J.all ++ ls, used := J.used + sumT ls } ∧ Cnt D (layS D J ls).1 ((n - 2) / 2 - J.used) ∧ (layS D J ls).1.stay = D.stay ∧
    (∀ s, s < basJ ((n - 2) / 2) J + J.used ∨ basJ ((n - 2) / 2) J + (n - 2) / 2 ≤ s → readB (layS D J ls).1 s = readB D s) ∧ ∀ s, J.used + sumT ls ≤ s → s < (n - 2) / 2 → readB (layS D J ls).1 (basJ ((n - 2) / 2) J + s) = zero64 := by
  have el : layS D J ls = if (layL D J ls).2.2 ≠ 0 then layL D J ls else ((wipeJ (layL D J ls).1 (layL D J ls).2.1).1, (layL D J ls).2.1, (wipeJ (layL D J ls).1 (layL D J ls).2.1).2) := rfl
  by_cases h1 : (layL D J ls).2.2 ≠ 0
  · rw [if_pos h1] at el
    rw [el] at h
    exact absurd h h1
  rw [if_neg h1] at el
  rw [el] at h ⊢
  obtain ⟨p, q, r, u, v⟩ := layL_law hn ls hF J hf hls hr (Decidable.not_not.1 h1)
  have hw := wipeJ_bas (hF.layL ls J) (layL D J ls).2.1
  rw [q] at hw h p ⊢
  simp only [] at hw h p ⊢
  have e4 : basJ ((n - 2) / 2) { J with all := J.all ++ ls, used := J.used + sumT ls } = basJ ((n - 2) / 2) J := rfl
  rw [hw] at h ⊢
  rw [e4] at h ⊢
  obtain ⟨a, b, c⟩ := wipe_read _ h
  refine ⟨p.congr (fun s h2 h3 => ?_), ?_, ?_, b.trans u, fun s hs => ?_, fun s h2 h3 => ?_⟩
  · rw [e4] at h2 h3
    simp only [] at h3
    rw [a, if_neg (by omega)]
  · trivial
  · have hc := r.trans c
    rw [show sumT ls + ((n - 2) / 2 - (J.used + sumT ls)) = (n - 2) / 2 - J.used by omega] at hc
    exact hc
  · rw [a, if_neg (by omega), v s (by omega)]
  · rw [a, if_pos (by omega)]
/-- the journal that Compact lays -/
def packJ (J : Jn) (ls : List (List UInt8)) : Jn := ⟨J.gen + 1, 1 - J.half, ls, sumT ls, false⟩
theorem slotJ_ne {g h g' h' : Nat} (hg : g < 18446744073709551616) (hg' : g' < 18446744073709551616) (hne : g ≠ g') : slotJ g h ≠ slotJ g' h' := by
  intro e
  have h1 := slotJ_gen g h hg
  rw [e, slotJ_gen g' h' hg'] at h1
  exact hne h1.symm
theorem comp_law {D : Dk} {J : Jn} {n : Nat} (h : Inv D J n) (hn : 4 ≤ n ∧ n ≤ 1000) (hg : J.gen < 1099511627775) (ls : List (List UInt8)) (hm : mayJ D J ls 0 = 0) :
    ((compS D J ls).2 = (packJ J ls, 0) ∧ Inv (compS D J ls).1 (packJ J ls) n ∧ (D.armed < 0 ∨ ((n - 2) / 2 : Nat) < D.armed)) ∨ ((compS D J ls).2.2 = 2 ∧ FitK (compS D J ls).1 n ∧ ((∀ kl, Inv (crashD (compS D J ls).1 kl) J n) ∨ ((D.armed < 0 ∨ ((n - 2) / 2 : Nat) < D.armed) ∧ ∀ kl, Inv (crashD (compS D J ls).1 kl) J n ∨ Inv (crashD (compS D J ls).1 kl) (packJ J ls) n))) := by
  obtain ⟨hgo, hls, hr⟩ := mayJ_yes hm
  rw [h.size] at hr
  have hhalf := h.frm.ok.half
  have hg1 := h.g1
  have hus := h.frm.room
  have e0 : newJ J = ⟨J.gen + 1, 1 - J.half, [], 0, false⟩ := rfl
  have eb : basJ ((n - 2) / 2) (newJ J) = 2 + (1 - J.half) * ((n - 2) / 2) := rfl
  have eb2 : basJ ((n - 2) / 2) J = 2 + J.half * ((n - 2) / 2) := rfl
  have hbb : (basJ ((n - 2) / 2) J = 2 ∧ basJ ((n - 2) / 2) (newJ J) = 2 + (n - 2) / 2) ∨ (basJ ((n - 2) / 2) J = 2 + (n - 2) / 2 ∧ basJ ((n - 2) / 2) (newJ J) = 2) := by
    rcases (by omega : J.half = 0 ∨ J.half = 1) with e | e <;> rw [eb, eb2, e]
    · left; simp
    · right; simp
  have hfN : Frm (readB D) ((n - 2) / 2) (newJ J) := by
    refine ⟨⟨by rw [e0]; simp only []; omega, by rw [e0]; simp only []; omega, by rw [e0]; simp, by rw [e0]; simp, by rw [e0]; simp⟩, rfl, rfl, Nat.zero_le _, fun k hk => by rw [e0] at hk; simp at hk⟩
  have hbn : basJ ((n - 2) / 2) (newJ J) + (n - 2) / 2 ≤ n := by omega
  -- phase 1
  have hA1 : PhD (fun s v => v = stD D s ∨ (basJ ((n - 2) / 2) (newJ J) ≤ s ∧ s < basJ ((n - 2) / 2) (newJ J) + (n - 2) / 2)) (layS D (newJ J) ls).1 n :=
    ((PhD.start h.fit h.wt).weak (fun s v e => .inl e)).layS (newJ J) ls (by rw [e0]; simpa using hr) (fun s v h1 h2 => .inr ⟨h1, h2⟩)
  have hC1 : ∀ D', PhD (fun s v => v = stD D s ∨ (basJ ((n - 2) / 2) (newJ J) ≤ s ∧ s < basJ ((n - 2) / 2) (newJ J) + (n - 2) / 2)) D' n → ∀ kl, Inv (crashD D' kl) J n := fun D' hD' kl => by
    have hc := (hD'.crash kl).st
    refine h.same (hD'.fit.crash kl) rfl rfl rfl (fun s hs => ?_) (fun s h1 h2 => ?_) (fun s h1 h2 => ?_)
    · rcases hc s with e | e
      · exact e
      · omega
    · rcases hc s with e | e
      · exact e
      · omega
    · rcases hc (basJ ((n - 2) / 2) J + s) with e | e
      · rw [e]; exact h.tail s h1 h2
      · omega
  have hcs : compS D J ls = if (layS D (newJ J) ls).2.2 ≠ 0 then ((layS D (newJ J) ls).1, noteJ J (layS D (newJ J) ls).2.2, (layS D (newJ J) ls).2.2)
      else if flE (layS D (newJ J) ls).1 ≠ 0 then (flD (layS D (newJ J) ls).1, noteJ J (flE (layS D (newJ J) ls).1), flE (layS D (newJ J) ls).1)
      else if sureE (flD (layS D (newJ J) ls).1) (((J.gen + 1) % 2 : Nat) : Int) (slotJ (J.gen + 1) (1 - J.half)) ≠ 0 then (sureD (flD (layS D (newJ J) ls).1) (((J.gen + 1) % 2 : Nat) : Int) (slotJ (J.gen + 1) (1 - J.half)), noteJ J (sureE (flD (layS D (newJ J) ls).1) (((J.gen + 1) % 2 : Nat) : Int) (slotJ (J.gen + 1) (1 - J.half))), sureE (flD (layS D (newJ J) ls).1) (((J.gen + 1) % 2 : Nat) : Int) (slotJ (J.gen + 1) (1 - J.half)))
      else (sureD (flD (layS D (newJ J) ls).1) (((J.gen + 1) % 2 : Nat) : Int) (slotJ (J.gen + 1) (1 - J.half)), (layS D (newJ J) ls).2.1, 0) := by unfold compS; rw [if_neg (by omega)]
  by_cases h1 : (layS D (newJ J) ls).2.2 ≠ 0
  · rw [if_pos h1] at hcs
    rw [hcs]
    refine .inr ⟨layS_stop h.fit (newJ J) ls hbn (by rw [e0]; simpa using hr) (fun h0 => ?_) h1, hA1.fit, .inl (hC1 _ hA1)⟩
    rw [(layL_law hn.2 ls h.fit (newJ J) hfN hls (by rw [e0]; simpa using hr) h0).2.1, e0]
    simpa using hr
  rw [if_neg h1] at hcs
  have h1 := Decidable.not_not.1 h1
  by_cases h2 : flE (layS D (newJ J) ls).1 ≠ 0
  · rw [if_pos h2] at hcs
    rw [hcs]
    exact .inr ⟨fl_stop h2, hA1.flush.fit, .inl (hC1 _ hA1.flush)⟩
  rw [if_neg h2] at hcs
  have h2 := Decidable.not_not.1 h2
  obtain ⟨hf2, hN, hcnt, hst, hout, hz⟩ := layS_law hn.2 h.fit (newJ J) ls hfN hls (by rw [e0]; simpa using hr) h1
  have hpk : ({ newJ J with all := (newJ J).all ++ ls, used := (newJ J).used + sumT ls } : Jn) = packJ J ls := by rw [e0]; simp [packJ]
  rw [hpk] at hf2 hN
  have harm : D.armed < 0 ∨ ((n - 2) / 2 : Nat) < D.armed := by
    rcases Int.lt_or_le D.armed 0 with h0 | h0
    · exact .inl h0
    · obtain ⟨a, b⟩ := hcnt h0
      have := (fl_off h2).2.2.2.1
      have hu0 : (newJ J).used = 0 := rfl
      rw [hu0] at a
      right; omega
  rw [hN] at hcs
  have hF2 := (h.fit.layS (newJ J) ls).flush
  have hw2 := (fl_off h2).2.1
  have hst2 : ∀ s, stD (flD (layS D (newJ J) ls).1) s = readB (layS D (newJ J) ls).1 s := fl_read (h.fit.layS (newJ J) ls) h2
  have hu0 : (newJ J).used = 0 := rfl
  have hout2 : ∀ s, s < basJ ((n - 2) / 2) (newJ J) ∨ basJ ((n - 2) / 2) (newJ J) + (n - 2) / 2 ≤ s → stD (flD (layS D (newJ J) ls).1) s = stD D s := fun s hs => by rw [hst2, hout s (by omega), h.read]
  have hf3 : Frm (stD (flD (layS D (newJ J) ls).1)) ((n - 2) / 2) (packJ J ls) := hf2.congr (fun s _ _ => hst2 s)
  have hz3 : ∀ s, sumT ls ≤ s → s < (n - 2) / 2 → stD (flD (layS D (newJ J) ls).1) (basJ ((n - 2) / 2) (newJ J) + s) = zero64 := fun s a b => by rw [hst2]; exact hz s (by rw [hu0]; omega) b
  generalize flD (layS D (newJ J) ls).1 = D2 at *
  generalize basJ ((n - 2) / 2) (newJ J) = bn at *
  have ebp : basJ ((n - 2) / 2) (packJ J ls) = bn := by
    have : basJ ((n - 2) / 2) (packJ J ls) = 2 + (1 - J.half) * ((n - 2) / 2) := rfl
    omega
  have hnew : ∀ D3, FitK D3 n → D3.off = false → D3.wait = [] → D3.order = [] → (∀ s, stD D3 s = if s = (J.gen + 1) % 2 then slotJ (J.gen + 1) (1 - J.half) else stD D2 s) → Inv D3 (packJ J ls) n := fun D3 a b c d e => by
    refine ⟨a, b, c, d, ⟨by show 1 ≤ J.gen + 1; omega, by show J.gen + 1 < _; omega⟩, hf3.congr (fun s h1 h2 => ?_), ?_, ?_, fun s h1 h2 => ?_⟩
    · rw [ebp] at h1
      rw [e, if_neg (by omega)]
    · show stD D3 ((J.gen + 1) % 2) = slotJ (J.gen + 1) (1 - J.half)
      rw [e, if_pos rfl]
    · show getN (((stD D3 (1 - (J.gen + 1) % 2)).drop 4).take 8) < J.gen + 1
      rw [e, if_neg (by omega), show 1 - (J.gen + 1) % 2 = J.gen % 2 by omega, hout2 _ (by omega), h.slot, slotJ_gen _ _ (by omega)]
      omega
    · rw [ebp, e, if_neg (by omega), hz3 s h1 h2]
      exact dead_zero
  by_cases h3 : sureE D2 (((J.gen + 1) % 2 : Nat) : Int) (slotJ (J.gen + 1) (1 - J.half)) ≠ 0
  · rw [if_pos h3] at hcs
    rw [hcs]
    have hP2 : PhD (fun s v => v = stD D2 s ∨ (s = (J.gen + 1) % 2 ∧ v = slotJ (J.gen + 1) (1 - J.half))) (sureD D2 (((J.gen + 1) % 2 : Nat) : Int) (slotJ (J.gen + 1) (1 - J.half))) n := ((PhD.start hF2 hw2).weak (fun s v e => .inl e)).sure (.inr ⟨rfl, rfl⟩)
    refine .inr ⟨sure_stop h3 (by omega) (by rw [hF2.len]; omega) (slotJ_len _ _), hP2.fit, .inr ⟨harm, fun kl => ?_⟩⟩
    have hc := (hP2.crash kl).st
    have hF3 := hP2.fit.crash kl
    by_cases hnw : stD (crashD (sureD D2 (((J.gen + 1) % 2 : Nat) : Int) (slotJ (J.gen + 1) (1 - J.half))) kl) ((J.gen + 1) % 2) = slotJ (J.gen + 1) (1 - J.half)
    · refine .inr (hnew _ hF3 rfl rfl rfl (fun s => ?_))
      by_cases hs : s = (J.gen + 1) % 2
      · subst hs; rw [if_pos rfl, hnw]
      · rw [if_neg hs]
        rcases hc s with e | ⟨e, _⟩
        · exact e
        · exact absurd e hs
    · have hall : ∀ s, stD (crashD (sureD D2 (((J.gen + 1) % 2 : Nat) : Int) (slotJ (J.gen + 1) (1 - J.half))) kl) s = stD D2 s := fun s => by
        rcases hc s with e | ⟨e, e2⟩
        · exact e
        · subst e; exact absurd e2 hnw
      refine .inl (h.same hF3 rfl rfl rfl (fun s hs => ?_) (fun s h1 h2 => ?_) (fun s h1 h2 => ?_))
      · rw [hall, hout2 _ (by omega)]
      · rw [hall, hout2 _ (by omega)]
      · rw [hall, hout2 _ (by omega)]
        exact h.tail s h1 h2
  · rw [if_neg h3] at hcs
    obtain ⟨a, b, c, d, e⟩ := sure_read hF2 (Decidable.not_not.1 h3)
    rw [hcs]
    exact .inl ⟨rfl, hnew _ e b c d (fun s => by rw [a, calm_read hw2]), harm⟩
/-- where power stays nothing fails -/
theorem Quiet.wipe {D : Dk} (h : Quiet D) (b0 : Nat) : ∀ k, b0 + k ≤ D.stay.length → (wipeS D b0 k).2 = 0 ∧ Quiet (wipeS D b0 k).1 ∧ (wipeS D b0 k).1.stay.length = D.stay.length := by
  intro k
  induction k with
  | zero => intro _; exact ⟨rfl, h, rfl⟩
  | succ k ih =>
    intro hk
    obtain ⟨a, b, c⟩ := ih (by omega)
    have e : wipeS D b0 (k + 1) = (wrD (wipeS D b0 k).1 ((b0 + k : Nat) : Int) zero64, wrE (wipeS D b0 k).1 ((b0 + k : Nat) : Int) zero64) := by
      show (if (wipeS D b0 k).2 ≠ 0 then wipeS D b0 k else _) = _
      rw [if_neg (by omega)]
    obtain ⟨x1, _, x3, x4⟩ := b.write (i := ((b0 + k : Nat) : Int)) (l := zero64) (by omega) (by rw [c]; omega) (by rfl)
    rw [e]
    exact ⟨x1, x3, x4.trans c⟩
theorem Quiet.layL (ls : List (List UInt8)) : ∀ {D : Dk} (_ : Quiet D) (J : Jn), nextJ D J + sumT ls ≤ D.stay.length → (layL D J ls).2.2 = 0 ∧ Quiet (layL D J ls).1 ∧ (layL D J ls).1.stay.length = D.stay.length ∧ (layL D J ls).2.1.half = J.half ∧ (layL D J ls).2.1.used = J.used + sumT ls := by
  induction ls with
  | nil => intro D h J _; exact ⟨rfl, h, rfl, rfl, rfl⟩
  | cons l t ih =>
    intro D h J hr
    have htk : 1 ≤ takesN l.length := by unfold takesN; omega
    have hfl : (frJ J l).length = 64 * takesN l.length := frameJ_len' _ _ _
    simp only [sumT] at hr ⊢
    obtain ⟨a, b, c⟩ := h.rest (nextJ D J) (takesN l.length) (frJ J l) hfl (by omega) (takesN l.length - 1) (by omega)
    obtain ⟨x1, _, x3, x4⟩ := b.write (i := ((nextJ D J : Nat) : Int)) (l := (frJ J l).take 64) (by omega) (by rw [c]; omega) (by rw [List.length_take]; omega)
    have e1 : nextJ (wrD (restS D (nextJ D J) (frJ J l) (takesN l.length - 1)).1 (nextJ D J) ((frJ J l).take 64)) (addJ J l) = nextJ D J + takesN l.length := by
      unfold nextJ sizeJ at *
      rw [x4, c]
      show 2 + J.half * _ + (J.used + _) = _
      omega
    obtain ⟨p, q, r, u, v⟩ := ih x3 (addJ J l) (by rw [e1, x4, c]; omega)
    unfold Go.Proofs.Ytfhlidlmipleaaa.layL
    rw [if_neg (by omega), if_neg (by omega)]
    refine ⟨p, q, by rw [r, x4, c], u, ?_⟩
    rw [v]
    show J.used + takesN l.length + sumT t = _
    omega
theorem Quiet.comp {D : Dk} (h : Quiet D) {J : Jn} (hh : J.half < 2) (h2 : 4 ≤ D.stay.length) {ls : List (List UInt8)} (hm : mayJ D J ls 0 = 0) : (compS D J ls).2.2 = 0 ∧ Quiet (compS D J ls).1 := by
  obtain ⟨hgo, hls, hr⟩ := mayJ_yes hm
  have hnx : nextJ D (newJ J) + sizeJ D ≤ D.stay.length := by
    have e : nextJ D (newJ J) = 2 + (1 - J.half) * sizeJ D + 0 := rfl
    have hs : 2 * sizeJ D ≤ D.stay.length - 2 := by unfold sizeJ; omega
    rcases (by omega : J.half = 0 ∨ J.half = 1) with e2 | e2 <;> rw [e, e2] <;> omega
  obtain ⟨p, q, r, u, v⟩ := Quiet.layL ls h (newJ J) (by omega)
  have hu0 : (newJ J).used = 0 := rfl
  have e1 : nextJ (Go.Proofs.Ytfhlidlmipleaaa.layL D (newJ J) ls).1 (Go.Proofs.Ytfhlidlmipleaaa.layL D (newJ J) ls).2.1 = nextJ D (newJ J) + sumT ls := by
    unfold nextJ sizeJ at *
    rw [r, u, v]
    omega
  have e2 : sizeJ (Go.Proofs.Ytfhlidlmipleaaa.layL D (newJ J) ls).1 = sizeJ D := by unfold sizeJ; rw [r]
  obtain ⟨a, b, c⟩ := q.wipe (nextJ (Go.Proofs.Ytfhlidlmipleaaa.layL D (newJ J) ls).1 (Go.Proofs.Ytfhlidlmipleaaa.layL D (newJ J) ls).2.1) (sizeJ (Go.Proofs.Ytfhlidlmipleaaa.layL D (newJ J) ls).1 - (Go.Proofs.Ytfhlidlmipleaaa.layL D (newJ J) ls).2.1.used) (by rw [e1, e2, v, r]; omega)
  have el : layS D (newJ J) ls = ((wipeJ (Go.Proofs.Ytfhlidlmipleaaa.layL D (newJ J) ls).1 (Go.Proofs.Ytfhlidlmipleaaa.layL D (newJ J) ls).2.1).1, (Go.Proofs.Ytfhlidlmipleaaa.layL D (newJ J) ls).2.1, (wipeJ (Go.Proofs.Ytfhlidlmipleaaa.layL D (newJ J) ls).1 (Go.Proofs.Ytfhlidlmipleaaa.layL D (newJ J) ls).2.1).2) := by unfold layS; rw [if_neg (by omega)]
  have h3 : (layS D (newJ J) ls).2.2 = 0 := by rw [el]; exact a
  have h4 : Quiet (layS D (newJ J) ls).1 := by rw [el]; exact b
  have h5 : (layS D (newJ J) ls).1.stay.length = D.stay.length := by rw [el]; exact c.trans r
  obtain ⟨x, _, y, z⟩ := h4.flush
  obtain ⟨s, _, s3, _⟩ := y.sure (i := (((J.gen + 1) % 2 : Nat) : Int)) (l := slotJ (J.gen + 1) (1 - J.half)) (by omega) (by rw [z, h5]; omega) (slotJ_len _ _)
  unfold compS
  rw [if_neg (by omega), if_neg (by omega), if_neg (by omega), if_neg (by omega)]
  exact ⟨rfl, s3⟩
end Go.Proofs.Ytfhlidlmipleaaa
namespace Go.Proofs.Ytfhlidlmipleaaa
set_option linter.unusedVariables false
set_option linter.unusedSimpArgs false
open Go Go.RowKit LM

theorem newD_st (n s : Nat) : stD (newD n) s = zero64 := by
  unfold stD newD
  simp only [List.getD_eq_getElem?_getD]
  rw [List.getElem?_replicate]
  split <;> rfl
theorem fitK_new (n : Nat) : FitK (newD n) n := ⟨fitJ_new n, fun x h => by simp [newD, lookW] at h, fun s h => by
  have := (List.mem_replicate.1 h).2
  subst this; rfl, fun x v h => by simp [newD, lookW] at h⟩
def jn0 : Jn := ⟨1, 0, [], 0, false⟩
theorem inv_begin (n : Nat) (h4 : 4 ≤ n) : Inv (beginD (newD n)) jn0 n := by
  have e : beginD (newD n) = sureD (wrD (newD n) ((0 : Nat) : Int) zero64) ((1 : Nat) : Int) (slotJ 1 0) := by
    unfold beginD
    rw [curN_new n (by omega)]
    rfl
  obtain ⟨a, b, c, d⟩ := (quiet_new n).write (i := ((0 : Nat) : Int)) (l := zero64) (by omega) (by rw [newD_len]; omega) (by rfl)
  obtain ⟨p, _⟩ := c.sure (i := ((1 : Nat) : Int)) (l := slotJ 1 0) (by omega) (by rw [d, newD_len]; omega) (slotJ_len _ _)
  obtain ⟨s1, s2, s3, s4, s5⟩ := sure_read ((fitK_new n).write _ _) p
  have hs : ∀ s, stD (beginD (newD n)) s = if s = 1 then slotJ 1 0 else zero64 := fun s => by
    rw [e, s1, wr_read a, readB_new]
    split
    · rfl
    · split <;> rfl
  rw [← e] at s2 s3 s4 s5
  refine ⟨s5, s2, s3, s4, ⟨by decide, by decide⟩, ⟨⟨by decide, by decide, by decide, by decide, by simp [jn0]⟩, rfl, rfl, Nat.zero_le _, fun k hk => by simp [jn0] at hk⟩, ?_, ?_, fun s h1 h2 => ?_⟩
  · rw [hs]; rfl
  · rw [hs, if_neg (by decide)]; decide
  · rw [hs, if_neg (by unfold basJ jn0; omega)]
    exact dead_zero
theorem Inv.turned {D D' : Dk} {J : Jn} {n : Nat} (h : Inv D J n) (h1 : D'.stay = D.stay) (h2 : D'.wait = D.wait) (h3 : D'.order = D.order) (h4 : D'.off = D.off) : Inv D' J n := by
  have hs : stD D' = stD D := by unfold stD; rw [h1]
  have hf := h.fit
  exact ⟨⟨⟨by rw [h1]; exact hf.fit.len, by rw [h3]; exact hf.fit.nod, by rw [h1, h3]; exact hf.fit.ok, by rw [h2, h3]; exact hf.fit.has⟩, by rw [h2, h3]; exact hf.cov, by rw [h1]; exact hf.sec, by rw [h2]; exact hf.secw⟩, h4.trans h.on, h2.trans h.wt, h3.trans h.od, h.g1, by rw [hs]; exact h.frm, by rw [hs]; exact h.slot, by rw [hs]; exact h.oth, by rw [hs]; exact h.tail⟩
theorem Inv.arm {D : Dk} {J : Jn} {n : Nat} (h : Inv D J n) (i : Int) : Inv (armD D i) J n ∧ (armD D i).armed = max i (-1) := by
  have e : armD D i = { D with armed := max i (-1) } := by
    unfold armD
    rw [if_neg (by rw [h.on]; exact Bool.false_ne_true)]
  rw [e]
  exact ⟨h.turned rfl rfl rfl rfl, rfl⟩
theorem crash_quiet (D : Dk) (kl : List Bool) : Quiet (crashD D kl) := ⟨rfl, rfl⟩
theorem Inv.may {D : Dk} {J : Jn} {n : Nat} (h : Inv D J n) (ls : List (List UInt8)) (u : Nat) : mayJ D J ls u = mayL ((n - 2) / 2) ls u := by
  unfold mayJ
  rw [if_neg (by rw [h.frm.gn]; exact Bool.false_ne_true), h.size]
theorem mayL_ok (sz : Nat) : ∀ (ls : List (List UInt8)) (u : Nat), (∀ l ∈ ls, 1 ≤ l.length ∧ l.length ≤ 8192) → u + sumT ls ≤ sz → mayL sz ls u = 0 := by
  intro ls
  induction ls with
  | nil =>
    intro u _ h
    unfold mayL
    simp only [sumT] at h
    rw [if_neg (by omega)]
  | cons l t ih =>
    intro u h1 h2
    unfold mayL
    simp only [sumT] at h2
    have := h1 l (List.mem_cons_self ..)
    rw [if_neg (by omega)]
    exact ih _ (fun x hx => h1 x (List.mem_cons_of_mem _ hx)) (by omega)
/-- what mayL tells -/
theorem mayL_full (sz : Nat) : ∀ (ls : List (List UInt8)) (u : Nat), (∀ l ∈ ls, 1 ≤ l.length ∧ l.length ≤ 8192) → sz < u + sumT ls → mayL sz ls u = 5 := by
  intro ls
  induction ls with
  | nil =>
    intro u _ h
    unfold mayL
    simp only [sumT] at h
    rw [if_pos (by omega)]
  | cons l t ih =>
    intro u h1 h2
    unfold mayL
    simp only [sumT] at h2
    have := h1 l (List.mem_cons_self ..)
    rw [if_neg (by omega)]
    exact ih _ (fun x hx => h1 x (List.mem_cons_of_mem _ hx)) (by omega)
theorem mayL_arg (sz : Nat) : ∀ (ls : List (List UInt8)) (u : Nat), ¬ (∀ l ∈ ls, 1 ≤ l.length ∧ l.length ≤ 8192) → mayL sz ls u = 1 := by
  intro ls
  induction ls with
  | nil => intro u h; exact absurd (by simp) h
  | cons l t ih =>
    intro u h
    unfold mayL
    by_cases hl : 1 ≤ l.length ∧ l.length ≤ 8192
    · rw [if_neg (by omega)]
      refine ih _ (fun ht => h (fun x hx => ?_))
      rcases List.mem_cons.1 hx with rfl | hx
      · exact hl
      · exact ht x hx
    · rw [if_pos (by omega)]
end Go.Proofs.Ytfhlidlmipleaaa
