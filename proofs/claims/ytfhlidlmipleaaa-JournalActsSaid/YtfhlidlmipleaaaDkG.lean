/-
  Contracts of the reference's Write.
-/
import Derived.Test.YtfhlidlmipleaaaDkF
namespace Go.Proofs.Ytfhlidlmipleaaa
set_option linter.unusedVariables false
set_option linter.unusedSimpArgs false
open Go Go.RowKit

theorem S8_size (l : List UInt8) : (S8 l).size = l.length := by show l.toArray.size = _; simp
set_option maxRecDepth 100000 in
set_option maxHeartbeats 1600000 in
theorem refWrite_err (base : Nat) (w : World) (D : Dk) (p : Nat) (As : Option Addr) (cs r : Nat) (Ao : Option Addr) (co : Nat) (i : Int) (s : ByteArray) (h : RkAt base w D p As cs r Ao co) (hm : mayE D i ≠ 0) :
    Calls Try.prog 26 #[.pointer (some ⟨p, 0, none⟩), .int .i64 i, .string s] w fun e w' => e = .returned (.int .i64 (mayE D i)) ∧ w' = w := by
  obtain ⟨hc, _⟩ := blk_cells h.blk
  have q0 := hc 0
  have q3 := hc 3
  simp at q0 q3
  obtain ⟨o, ho⟩ : ∃ o, D.off = o := ⟨_, rfl⟩
  rw [ho] at q3
  have hcap := own_lens h.stay
  cases o with
  | true =>
    have HM : Hid (mayE D i = 2) := by show _ = _; unfold mayE; rw [if_pos ho]
    clear hc hm
    go_enter Try.func26, Try.ntmps26
    go_wp2_with fail
    go_ret
    exact ⟨by rw [HM.out] <;> rfl, rfl⟩
  | false =>
    by_cases h1 : i < 0
    · have HM : Hid (mayE D i = 1) := by show _ = _; unfold mayE; rw [if_neg (by rw [ho]; exact Bool.false_ne_true), if_pos (.inl h1)]
      clear hc hm
      go_enter Try.func26, Try.ntmps26
      go_wp2_with fail
      go_ret
      exact ⟨by rw [HM.out] <;> rfl, rfl⟩
    · by_cases h2 : (D.stay.length : Int) ≤ i
      · have HM : Hid (mayE D i = 1) := by show _ = _; unfold mayE; rw [if_neg (by rw [ho]; exact Bool.false_ne_true), if_pos (.inr h2)]
        clear hc hm
        go_enter Try.func26, Try.ntmps26
        go_wp2_with fail
        go_ret
        exact ⟨by rw [HM.out] <;> rfl, rfl⟩
      · exact absurd (by unfold mayE; rw [if_neg (by rw [ho]; exact Bool.false_ne_true), if_neg (by omega)]) hm
theorem may0 {D : Dk} {i : Int} (h : mayE D i = 0) : D.off = false ∧ 0 ≤ i ∧ i < D.stay.length := by
  unfold mayE at h
  split at h
  · cases h
  · rename_i h1
    split at h
    · cases h
    · exact ⟨by simpa using h1, by omega, by omega⟩
set_option maxRecDepth 100000 in
set_option maxHeartbeats 1600000 in
theorem refWrite_len (base : Nat) (w : World) (D : Dk) (p : Nat) (As : Option Addr) (cs r : Nat) (Ao : Option Addr) (co : Nat) (i : Int) (s : ByteArray) (h : RkAt base w D p As cs r Ao co) (hm : mayE D i = 0) (hs : s.size < 64) :
    Calls Try.prog 26 #[.pointer (some ⟨p, 0, none⟩), .int .i64 i, .string s] w fun e w' => e = .returned (.int .i64 1) ∧ w' = w := by
  obtain ⟨hoff, h1, h2⟩ := may0 hm
  obtain ⟨hc, _⟩ := blk_cells h.blk
  have q0 := hc 0
  have q3 := hc 3
  simp [hoff] at q0 q3
  have hcap := own_lens h.stay
  have t : ((s.size : Int) != 64) = true := by rw [bne_iff_ne]; omega
  clear hc hm
  go_enter Try.func26, Try.ntmps26
  go_wp2_with fail
  go_ret
  exact ⟨rfl, rfl⟩
set_option maxRecDepth 100000 in
set_option maxHeartbeats 1600000 in
theorem refWrite_stop (base : Nat) (w : World) (D : Dk) (p : Nat) (As : Option Addr) (cs r : Nat) (Ao : Option Addr) (co : Nat) (i : Int) (s : ByteArray) (h : RkAt base w D p As cs r Ao co) (hm : mayE D i = 0) (hz : s.size = 64) (hs : (stepD D).2 = 2) :
    Calls Try.prog 26 #[.pointer (some ⟨p, 0, none⟩), .int .i64 i, .string s] w fun e w' => e = .returned (.int .i64 2) ∧ RkAt base w' (stepD D).1 p As cs r Ao co ∧ Kept (fun b => b = p) w w' := by
  obtain ⟨hoff, h1, h2⟩ := may0 hm
  obtain ⟨hc, _⟩ := blk_cells h.blk
  have q0 := hc 0
  have q3 := hc 3
  simp [hoff] at q0 q3
  have hcap := own_lens h.stay
  have HS := hid hs
  clear hc hm hs
  go_enter Try.func26, Try.ntmps26
  go_wp2_with fail
  refine (goes_any base w D p As cs r Ao co h).mono ?_
  rintro e w1 ⟨rfl, h3, hk3⟩
  rw [HS.out]
  go_wp2_with fail
  go_ret
  exact ⟨rfl, h3, hk3⟩
section
variable {base : Nat} {w w' : World} {D : Dk} {p : Nat} {As : Option Addr} {cs r : Nat} {Ao : Option Addr} {co : Nat}
/-- its map written -/
theorem RkAt.setm (h : RkAt base w D p As cs r Ao co) (hk : Kept (fun b => b = r) w w') (W : List (Int × List UInt8)) (hm : ∃ es clk, w'.heap[r]? = some (.map es clk) ∧ Ent es (sv W)) : RkAt base w' { D with wait := W } p As cs r Ao co :=
  ⟨blk_kept h.blk hk h.pr, ownsRow_kept h.stay hk (fun g hg e => h.sr (by rw [hg, e])), hm, ownsRow_kept h.ord hk (fun g hg e => h.orr (by rw [hg, e])), h.sp, h.pr, h.sr, h.op, h.os, h.orr, h.bp, h.br, h.arm⟩
/-- the order's row grown, and laid into the disk -/
theorem RkAt.appo (h : RkAt base w D p As cs r Ao co) (O' : List Int) {A9 : Option Addr} {c9 : Nat}
    (ho : w'.ownsRow base 3 1 (.slice A9 O'.length c9) O'.length (II O')) (hg : w.grownBy w' (Value.ownBlock (.slice Ao D.order.length co)))
    (hf : Value.ownBlock (.slice A9 O'.length c9) = Value.ownBlock (.slice Ao D.order.length co) ∨ Value.ownBlock (.slice A9 O'.length c9) = some w.heap.size) :
    RkAt base (w'.setCell ⟨p, 1, none⟩ (.slice A9 O'.length c9)) { D with order := O' } p As cs r A9 c9 := by
  have hpl := (Array.getElem?_eq_some_iff.1 h.blk).1
  obtain ⟨es, clk, hm, he⟩ := h.map
  have hrl := (Array.getElem?_eq_some_iff.1 hm).1
  have far : ∀ b, b < w.heap.size → Value.ownBlock (.slice Ao D.order.length co) ≠ some b → Value.ownBlock (.slice A9 O'.length c9) ≠ some b := by
    intro b hb hn e
    rcases hf with hf | hf
    · exact hn (by rw [← hf, e])
    · rw [hf] at e
      injection e with e
      omega
  have n1 := far p hpl h.op
  have n3 := far r hrl h.orr
  have n2 : ∀ g, Value.ownBlock (.slice A9 O'.length c9) = some g → Value.ownBlock (.slice As D.stay.length cs) ≠ some g := fun g hg e => far g (h.stay.lt g e).2 (fun e2 => h.os g e2 e) hg
  have hk : Kept (fun b => b = p) w' (w'.setCell ⟨p, 1, none⟩ (.slice A9 O'.length c9)) := (Kept.refl (fun b => b = p) w').setCell (p := ⟨p, 1, none⟩) (.inl rfl) _
  have hb := blk_set ((hg.block p hpl (fun e => h.op e.symm)).trans h.blk) 1 (.slice A9 O'.length c9)
  simp at hb
  refine ⟨hb, ?_, ⟨es, clk, blk_kept ((hg.block r hrl (fun e => h.orr e.symm)).trans hm) hk (fun e => h.pr e.symm), he⟩, ownsRow_kept ho hk (fun g hg e => n1 (by rw [hg, e])), h.sp, h.pr, h.sr, n1, n2, n3, h.bp, h.br, h.arm⟩
  have hs := h.stay.kept hg (by
    cases hA : Value.ownBlock (.slice As D.stay.length cs) with
    | none => exact .inl rfl
    | some g => exact .inr (fun e => h.os g e.symm hA))
  exact ownsRow_kept hs hk (fun g hg e => h.sp (by rw [hg, e]))
end
set_option maxRecDepth 100000 in
set_option maxHeartbeats 1600000 in
theorem refWrite_ok (base : Nat) (w : World) (D E : Dk) (p : Nat) (As : Option Addr) (cs r : Nat) (Ao : Option Addr) (co : Nat) (i : Int) (l : List UInt8) (h : RkAt base w D p As cs r Ao co) (hbase : base ≤ w.heap.size) (hm : mayE D i = 0) (hl64 : l.length = 64) (hs : stepD D = (E, 0)) (hlen : E.order.length ≤ 1000) :
    Calls Try.prog 26 #[.pointer (some ⟨p, 0, none⟩), .int .i64 i, .string (S8 l)] w fun e w' => e = .returned (.int .i64 0) ∧ ∃ Ao' co', RkAt base w' (laidD E i l) p As cs r Ao' co' ∧
      Kept (fun x => x = p ∨ x = r ∨ Value.ownBlock (.slice Ao E.order.length co) = some x) w w' ∧ RowAt w.heap.size Ao Ao' := by
  obtain ⟨hoff, h1, h2⟩ := may0 hm
  obtain ⟨hc, _⟩ := blk_cells h.blk
  have q0 := hc 0
  have q3 := hc 3
  simp [hoff] at q0 q3
  have hcap := own_lens h.stay
  have hz : (S8 l).size = 64 := by rw [S8_size, hl64]
  have HS := hid hs
  clear hc hm hs
  go_enter Try.func26, Try.ntmps26
  go_wp2_with fail
  refine (goes_any base w D p As cs r Ao co h).mono ?_
  rintro e w1 ⟨rfl, h3, hk3⟩
  rw [HS.out] at h3
  rw [HS.out]
  change RkAt base w1 E p As cs r Ao co at h3
  rw [show decide ((E, (0 : Int)).2 ≠ 0) = false from rfl]
  obtain ⟨es, clk, hmap, he⟩ := h3.map
  have hlk := ilook (P := Try.prog) (w := w1) true Try.underlying49 Try.underlying3 (z := .string ⟨#[]⟩) (Try.zeroValue9 w1) hmap he i
  rw [if_pos rfl, sv_look, sv_has] at hlk
  obtain ⟨hcd, hfd⟩ := blk_cells h3.blk
  have q1 := hcd 1
  have q2 := hcd 2
  simp at q1 q2
  have hk1 : Kept (fun x => x = p ∨ x = r ∨ Value.ownBlock (.slice Ao E.order.length co) = some x) w w1 := hk3.wider (fun b hb => .inl hb)
  have hb1 : base ≤ w1.heap.size := by have := hk3.size; omega
  clear q0 q3 h hk3 hcd hmap he
  cases ho : lookW E.wait i with
  | some old =>
    rw [ho] at hlk
    simp only [Option.getD_some, Option.isSome_some] at hlk
    have HRW : Hid (RowAt w.heap.size Ao Ao) := fun ad had => .inl ⟨ad, had, rfl⟩
    have hk3 := hk1
    clear hk1 q1
    generalize w1 = w3 at *
    obtain ⟨es2, clk2, hmap2, he2⟩ := h3.map
    have q5 := (blk_cells h3.blk).1 2
    simp at q5
    obtain ⟨es', clk', hup, he'⟩ := iupd (P := Try.prog) (w := w3) Try.underlying49 Try.underlying3 hmap2 he2 i (.string (S8 l))
    rw [sv_put] at he'
    have hkm := kept_setBlockD w3 r (.map es' clk')
    have h4 := h3.setm hkm (putW E.wait i l) ⟨es', clk', setBlock_atD hmap2, he'⟩
    have hk4 := hk3.then (S' := fun b => b = r) hkm (fun b _ hb => .inr (.inl hb))
    clear h3 hk3 hmap2 he2 he' hkm
    go_wp2_with fail
    go_ret
    have h6 : RkAt base (Go.ChangeMaps.setBlock w3 r (.map es' clk')) (laidD E i l) p As cs r Ao co := by unfold laidD; rw [ho]; exact h4
    first | exact ⟨rfl, Ao, co, h6, hk4, HRW.out⟩ | exact ⟨rfl, Ao, ⟨co, h6⟩, hk4, HRW.out⟩
  | none =>
    rw [ho] at hlk
    simp only [Option.getD_none, Option.isSome_none] at hlk
    have hba := (Below.refl w1.heap.size w1).alloc (Nat.le_refl _) (.cells #[.int .i64 i] 3)
    have h4 := h3.below hba
    have hsl : Sl (w1.alloc (.cells #[.int .i64 i] 3)) 1 (.slice (some ⟨w1.heap.size, 0, none⟩) 1 1) (II [i]) := own_sl (own_made w1 0 3 1 1 #[.int .i64 i] (II [i]) (Nat.zero_le _) rfl rfl (by omega) (by omega))
    have hk2 := hk1.alloc (.cells #[.int .i64 i] 3)
    have hgd2 := Nat.le_trans hb1 hba.size
    clear h3 hba hk1
    go_wp2_with (at_builtin; refine wpList_app rfl (.tmp 46) (.tmp 48) st_ints rfl base rfl h4.ord rfl hsl (II_one _) (by simp [maxLen]; omega) (by omega) hgd2 ?_)
    intro A9 c9 w5 ho9 hg9 hf9
    have e9 : E.order.length + 1 = (E.order ++ [i]).length := by simp
    rw [show II E.order ++ II [i] = II (E.order ++ [i]) by simp [II], e9] at ho9
    rw [e9] at hf9
    have hsz1 := hk2.size
    have HRW : Hid (RowAt w.heap.size Ao A9) := fun ad had => by
      subst had
      rcases hf9 with e | e
      · cases Ao with
        | none => simp [Value.ownBlock] at e
        | some a0 => simp [Value.ownBlock] at e; exact .inl ⟨a0, rfl, e.symm⟩
      · simp [Value.ownBlock] at e; simp at hsz1; exact .inr (by omega)
    have h5 := h4.appo (E.order ++ [i]) ho9 hg9 (by simpa using hf9)
    have hpl5 := (Array.getElem?_eq_some_iff.1 h4.blk).1
    have hbl5 := (hg9.block p hpl5 (fun e => h4.op e.symm)).trans h4.blk
    obtain ⟨hc5, hf5⟩ := blk_cells hbl5
    have p1 := hc5 1
    have p2 := hc5 2
    simp at p1 p2
    have hk5b : Kept (fun x => x = p ∨ x = r ∨ Value.ownBlock (.slice Ao E.order.length co) = some x) w w5 := hk2.then (S' := fun x => Value.ownBlock (.slice Ao E.order.length co) = some x) (Kept.of_grown hg9 (fun g hg => hg)) (fun b _ hb => .inr (.inr hb))
    have hk3 := hk5b.setCell (p := ⟨p, 1, none⟩) (.inl (.inl rfl)) (.slice A9 (E.order ++ [i]).length c9)
    clear hlk q1 q2 h4 hsl ho9 hg9 hf9 hpl5 hbl5 hk5b hc5 hk2 hgd2 hsz1
    rw [← e9] at h5 hk3
    clear e9
    have h3 := h5
    clear h5
    obtain ⟨es2, clk2, hmap2, he2⟩ := h3.map
    have q5 := (blk_cells h3.blk).1 2
    simp at q5
    obtain ⟨es', clk', hup, he'⟩ := iupd (P := Try.prog) (w := (w5.setCell ⟨p, 1, none⟩ (.slice A9 (E.order.length + 1) c9))) Try.underlying49 Try.underlying3 hmap2 he2 i (.string (S8 l))
    rw [sv_put] at he'
    have hkm := kept_setBlockD (w5.setCell ⟨p, 1, none⟩ (.slice A9 (E.order.length + 1) c9)) r (.map es' clk')
    have h4 := h3.setm hkm (putW E.wait i l) ⟨es', clk', setBlock_atD hmap2, he'⟩
    have hk4 := hk3.then (S' := fun b => b = r) hkm (fun b _ hb => .inr (.inl hb))
    clear h3 hk3 hmap2 he2 he' hkm
    go_wp2_with fail
    go_ret
    have h6 : RkAt base (Go.ChangeMaps.setBlock (w5.setCell ⟨p, 1, none⟩ (.slice A9 (E.order.length + 1) c9)) r (.map es' clk')) (laidD E i l) p As cs r A9 c9 := by unfold laidD; rw [ho]; exact h4
    first | exact ⟨rfl, A9, c9, h6, hk4, HRW.out⟩ | exact ⟨rfl, A9, ⟨c9, h6⟩, hk4, HRW.out⟩
end Go.Proofs.Ytfhlidlmipleaaa
