/-
  Contract of the law's stays: true.
-/
import Derived.Test.YtfhlidlmipleaaaJnF
import Derived.Lib.SlBytesConst
namespace Go.Proofs.Ytfhlidlmipleaaa
set_option linter.unusedVariables false
set_option linter.unusedSimpArgs false
open Go Go.RowKit LM

theorem fitJ_new (n : Nat) : FitJ (newD n) n := ⟨newD_len n, by simp [newD], by simp [newD], by simp [newD]⟩
/-- disk.New, by its blocks -/
theorem newDsk (n : Nat) (w : World) (h1 : 1 ≤ n) (h2 : n ≤ 1024) :
    Calls Try.prog 22 #[.int .i64 n] w fun e w' => ∃ d I, e = .returned (.tuple #[.pointer (some ⟨d, 0, none⟩), .int .i64 0]) ∧ Dsk w.heap.size w' (newD n) d I ∧ Below w.heap.size w w' := by
  refine (newDisk_any n w h1 h2).mono ?_
  rintro e w' ⟨d, gs, cs, r, rfl, hd, _, hb⟩
  exact ⟨d, _, rfl, ⟨gs, cs, r, none, 0, hd, fun _ => Iff.rfl⟩, hb⟩
theorem sl_mark (w : World) (l : List UInt8) (e : TypeId) (cs : Array Value) (fr : Nat × Nat) (n g : Nat) (hg : g = w.heap.size) (hcs : cs = (B8 l).toArray) (hn : n = l.length) (hm : l.length ≤ 9223372036854775807) :
    Sl (w.alloc (.cells cs e fr)) 1 (.slice (some ⟨g, 0, none⟩) n n) (B8 l) := by
  subst hcs; subst hn; subst hg
  refine ⟨_, _, _, rfl, by simp [B8], Nat.le_refl _, by simpa [maxLen] using hm, fun hn => ⟨w.heap.size, 0, rfl, by simp, fun i hi => ?_⟩⟩
  rw [World.cell?_alloc_mark]
  simp
theorem st_mayok : JOk sj1 := ⟨by decide, by decide, by decide, by decide, by simp [sj1]⟩
set_option maxRecDepth 100000 in
set_option maxHeartbeats 6400000 in
theorem stays_any (w : World) : Calls Try.prog 55 #[] w fun e w' => e = .returned (.bool true) ∧ Below w.heap.size w w' := by
  go_enter Try.func55, Try.ntmps55
  go_wp2_with fail
  refine (newDsk 8 w (by omega) (by omega)).mono ?_
  rintro e w1 ⟨d, I, rfl, hd, hb1⟩
  go_wp2_with fail
  refine (begin_any w.heap.size 8 w1 (newD 8) d I hd (fitJ_new 8) hb1.size (by omega) rfl (by rw [show (curN (newD 8) 2).1 = 0 from congrArg Prod.fst st_cur0]; omega) (by rw [show (curN (newD 8) 2).1 = 0 from congrArg Prod.fst st_cur0]; exact st_e1) (by rw [show (curN (newD 8) 2).1 = 0 from congrArg Prod.fst st_cur0]; exact st_e2)).mono ?_
  rintro e w2 ⟨j, I2, K2, rfl, hjd2, hK2, hI2, hk2⟩
  rw [show (curN (newD 8) 2).1 = 0 from congrArg Prod.fst st_cur0] at hjd2
  have hs1 := hb1.size
  have hb2 : Below w.heap.size w w2 := hb1.trans (hk2.below_of hs1 (fun b hb => (hd.bd b hb).1))
  have hs2 := hb2.size
  have hF2 : FitJ (beginD (newD 8)) 8 := ((fitJ_new 8).write _ _).sure _ _
  replace hjd2 : Jd w.heap.size w2 sd1 sj1 j d I2 K2 := hjd2
  replace hF2 : FitJ sd1 8 := hF2
  have kc := fun (w : World) (C : Array Value) (n c : Nat) => Lib.run_convert_bytes_const (P := Try.prog) w 27 5 C n c Try.underlying27 Try.underlying5
  have hsl : Sl (w2.alloc (.cells #[.int .u8 111, .int .u8 110, .int .u8 101] 5 (3, 4))) 1 (.slice (some ⟨w2.heap.size, 0, none⟩) 3 3) (B8 sone) := sl_mark _ _ _ _ _ _ _ rfl rfl rfl (by simp [sone])
  have hba := (Below.refl w2.heap.size w2).alloc (Nat.le_refl _) (.cells #[.int .u8 111, .int .u8 110, .int .u8 101] 5 (3, 4))
  have hjd3 := hjd2.below hba
  have hb3 := hb2.trans (hba.mono hs2)
  have hgn : ¬ (I2 w2.heap.size ∨ K2 w2.heap.size) := fun e => by have := (hjd2.lt _ e).2; omega
  have hs3 := hb3.size
  clear hjd2 hba hb2 hk2 hd hb1
  go_wp2_with fail
  generalize hw3 : w2.alloc (.cells #[.int .u8 111, .int .u8 110, .int .u8 101] 5 (3, 4)) = w3 at *
  generalize w2.heap.size = g3 at *
  refine (append_any w.heap.size 8 w3 sd1 sj1 j d I2 K2 hjd3 hF2 (by omega) hs3 st_mayok g3 0 3 3 sone hsl hgn).mono ?_
  rintro e w4 ⟨rfl, I4, K4, s4⟩
  rw [st_app]
  have hb4 : Below w.heap.size w w4 := hb3.trans (s4.kp.below_of hs3 (fun b hb => (hjd3.lt b hb).1))
  have hs4 := hb4.size
  have hd4 : Dsk w.heap.size w4 sd2 d I4 := s4.jd.dk
  have hl4 : 4 ≤ sd2.stay.length ∧ sd2.stay.length ≤ 1000 := by
    have := (hF2.app sj1 sone).len
    show 4 ≤ (appS sd1 sj1 sone).1.stay.length ∧ _ ≤ 1000
    unfold sd2
    omega
  clear hw3 hsl hgn hjd3 hb3 s4
  go_wp2_with fail
  refine (open_any w.heap.size w4 sd2 d I4 hd4 hs4 hl4 st_off2 (by rw [st_cur2]; decide) (by rw [st_cur2]; decide)).mono ?_
  rintro e w5 ⟨j5, K5, rfl, hjd5, hK5, hO5, hu5, hb5⟩
  rw [st_open] at hjd5 hO5 hu5
  have hb5' := hb4.trans (hb5.mono hs4)
  have hs5 := hb5'.size
  clear hd4 hb5 hb4
  go_wp2_with fail
  refine (all_any w.heap.size w5 _ j5 d K5 hjd5.jn hO5).mono ?_
  rintro e w6 ⟨A6, c6, vs6, E6, rfl, hown6, hev6, hE6, hb6⟩
  have hb6' := hb5'.trans (hb6.mono hs5)
  have hs6 := hb6'.size
  have hjd6 := hjd5.below hb6
  obtain ⟨A7, n7, c7, e7, hs7, _⟩ := hev6 0 (by decide)
  have hn7 := hs7.len.1
  obtain rfl : n7 = 3 := by rw [← hn7]; rfl
  obtain ⟨g6, rfl, _, hg6⟩ := own_some hown6 (by decide)
  have hcell : w6.cell? ⟨g6, 0, none⟩ = some (.slice A7 3 c7) := by rw [(own_cell hown6 0 (by decide)).1]; exact e7
  have st : (convert 27 9 (.slice A7 3 c7)).run Try.prog w6 = .ok (.string ⟨#[111, 110, 101]⟩) w6 := bstr hs7
  have hcap := own_lens hown6
  have hlen : (allJ ⟨1, 0, [sone], 1, false⟩).length = 1 := rfl
  rw [hlen] at hcap ⊢
  clear hown6 hev6 hE6 e7 hs7 hjd5 hb5' hb6
  go_wp2_with fail
  refine (free_any w.heap.size w6 sd2 _ j5 d I4 K5 hjd6 (by omega) (by omega) (by decide)).mono ?_
  rintro e w7 ⟨rfl, hb7⟩
  have hfr : freeJ sd2 ⟨1, 0, [sone], 1, false⟩ = 2 := by unfold freeJ; rw [st_size]; rfl
  rw [hfr]
  have hb7' := hb6'.trans (hb7.mono hs6)
  have hs7 := hb7'.size
  have hsl : Sl (w7.alloc (.cells #[.int .u8 49, .int .u8 50, .int .u8 51, .int .u8 52, .int .u8 53, .int .u8 54, .int .u8 55, .int .u8 56, .int .u8 57] 5 (9, 10))) 1 (.slice (some ⟨w7.heap.size, 0, none⟩) 9 9) (B8 [49, 50, 51, 52, 53, 54, 55, 56, 57]) := sl_mark _ _ _ _ _ _ _ rfl rfl rfl (by simp)
  have hb8 := hb7'.alloc hs7 (.cells #[.int .u8 49, .int .u8 50, .int .u8 51, .int .u8 52, .int .u8 53, .int .u8 54, .int .u8 55, .int .u8 56, .int .u8 57] 5 (9, 10))
  clear hjd6 hb6' hb7 hfr st hcell
  go_wp2_with fail
  refine (Crc_any _ 9 9 _ _ hsl).mono ?_
  rintro e w9 ⟨rfl, rfl⟩
  rw [st_crc]
  go_wp2_with fail
  go_ret
  exact ⟨rfl, hb8⟩
end Go.Proofs.Ytfhlidlmipleaaa
