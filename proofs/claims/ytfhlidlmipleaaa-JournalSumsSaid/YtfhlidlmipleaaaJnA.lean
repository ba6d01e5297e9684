/-
  Contract of All.
-/
import Derived.Test.YtfhlidlmipleaaaJn9
namespace Go.Proofs.Ytfhlidlmipleaaa
set_option linter.unusedVariables false
set_option linter.unusedSimpArgs false
open Go Go.RowKit LM

def Entv (w : World) (vs : List Value) (ls : List (List UInt8)) (F : Nat → Prop) : Prop :=
  ∀ k, k < ls.length → ∃ A' n' c', vs[k]? = some (.slice A' n' c') ∧ Sl w 1 (.slice A' n' c') (B8 (ls.getD k [])) ∧ (0 < n' → ∀ ad, A' = some ad → F ad.block)
theorem Entv.kept {S : Nat → Prop} {w w' : World} {vs : List Value} {ls : List (List UInt8)} {F : Nat → Prop} (h : Entv w vs ls F) (hk : Kept S w w') (hF : ∀ b, F b → b < w.heap.size → ¬ S b) : Entv w' vs ls F := fun k hk2 => by
  obtain ⟨A', n', c', h1, h2, h3⟩ := h k hk2
  refine ⟨A', n', c', h1, sl_keptM h2 hk (fun h0 ad had => hF _ (h3 h0 ad had) ?_), h3⟩
  obtain ⟨A2, n2, c2, he, _, _, _, hr⟩ := h2
  injection he with e1 e2 e3
  subst e1; subst e2; subst e3
  obtain ⟨b, off, rfl, hb, _⟩ := hr h0
  injection had with had
  subst had
  exact hb
theorem Entv.below {w w' : World} {vs : List Value} {ls : List (List UInt8)} {F : Nat → Prop} (h : Entv w vs ls F) (hb : Below w.heap.size w w') : Entv w' vs ls F := h.kept (S := fun _ => False) (Kept.of_below hb) (fun _ _ _ x => x)
theorem Entv.snoc {w : World} {vs : List Value} {ls : List (List UInt8)} {F : Nat → Prop} (h : Entv w vs ls F) (hl : vs.length = ls.length) {A : Option Addr} {n c : Nat} {l : List UInt8} (hs : Sl w 1 (.slice A n c) (B8 l)) (hF : 0 < n → ∀ ad, A = some ad → F ad.block) : Entv w (vs ++ [.slice A n c]) (ls ++ [l]) F := fun k hk => by
  simp at hk
  by_cases h1 : k < ls.length
  · obtain ⟨A', n', c', e1, e2, e3⟩ := h k h1
    refine ⟨A', n', c', by rw [List.getElem?_append_left (by omega)]; exact e1, ?_, e3⟩
    rw [List.getD_eq_getElem?_getD, List.getElem?_append_left h1, ← List.getD_eq_getElem?_getD]
    exact e2
  · obtain rfl : k = ls.length := by omega
    refine ⟨A, n, c, by rw [List.getElem?_append_right (by omega)]; simp [hl], ?_, hF⟩
    rw [List.getD_eq_getElem?_getD, List.getElem?_append_right (by omega)]
    simpa using hs
theorem Entv.weak {w : World} {vs : List Value} {ls : List (List UInt8)} {F F' : Nat → Prop} (h : Entv w vs ls F) (hF : ∀ b, F b → F' b) : Entv w vs ls F' := fun k hk => by
  obtain ⟨A', n', c', h1, h2, h3⟩ := h k hk
  exact ⟨A', n', c', h1, h2, fun h0 ad had => hF _ (h3 h0 ad had)⟩
structure JOk (J : Jn) : Prop where
  half : J.half < 2
  gen : J.gen < 9223372036854775807
  used : J.used ≤ 1024
  few : J.all.length ≤ 1024
  ent : ∀ l ∈ J.all, 1 ≤ l.length ∧ l.length ≤ 8192
def allJ (J : Jn) : List (List UInt8) := if J.gone = true then [] else J.all
set_option maxRecDepth 100000 in
set_option maxHeartbeats 400000 in
theorem all_none (w : World) : Calls Try.prog 62 #[.pointer none] w fun e w' => e = .returned (.slice none 0 0) ∧ w' = w := by
  go_enter Try.func62, Try.ntmps62
  go_wp2_with fail
  go_ret
  exact ⟨rfl, rfl⟩
set_option maxRecDepth 100000 in
set_option maxHeartbeats 1600000 in
theorem all_any (base : Nat) (w : World) (J : Jn) (j d : Nat) (K : Nat → Prop) (h : Jrn base w J j d K) (hO : JOk J) :
    Calls Try.prog 62 #[.pointer (some ⟨j, 0, none⟩)] w fun e w' => ∃ A c vs E, e = .returned (.slice A (allJ J).length c) ∧ w'.ownsRow w.heap.size 27 1 (.slice A (allJ J).length c) (allJ J).length vs ∧ Entv w' vs (allJ J) E ∧ (∀ b, E b → w.heap.size ≤ b ∧ b < w'.heap.size ∧ Value.ownBlock (.slice A (allJ J).length c) ≠ some b) ∧ Below w.heap.size w w' := by
  obtain ⟨Aa, ca, hjl, hca1, hca2, q0, q1, q2, q3, q4, q5⟩ := h.cells
  cases hg : J.gone with
  | true =>
    have HA : allJ J = [] := by unfold allJ; rw [if_pos hg]
    rw [HA]
    rw [hg] at q5
    clear q0 q1 q2 q3 q4 HA
    go_enter Try.func62, Try.ntmps62
    go_wp2_with fail
    go_ret
    exact ⟨none, 0, [], fun _ => False, rfl, World.ownsRow_nil _ _ _ _, fun k hk => absurd hk (by simp), fun _ h => h.elim, Below.refl _ _⟩
  | false =>
    have HA : allJ J = J.all := by unfold allJ; rw [if_neg (by rw [hg]; exact Bool.false_ne_true)]
    rw [HA]
    rw [hg] at q5
    clear q0 q1 q2 q4 HA
    obtain ⟨A0, c0, vs0, E0, hJ, hK⟩ := h
    have hq := (blk_cells hJ.blk).1 3
    simp at hq
    rw [hq] at q3
    injection q3 with q3
    injection q3 with e1 e2 e3
    subst e1; subst e3
    have hrow := own_sl hJ.row
    go_enter Try.func62, Try.ntmps62
    go_wp2_with fail
    go_loopw [3, 19] (fun v i wr => ∃ (k : Nat) (A : Option Addr) (c : Nat) (vs : List Value) (E : Nat → Prop), k ≤ J.all.length ∧ i = .int .i64 k ∧ v = .slice A k c ∧ wr.ownsRow w.heap.size 27 1 (.slice A k c) k vs ∧ Entv wr vs (J.all.take k) E ∧ (∀ b, E b → w.heap.size ≤ b ∧ b < wr.heap.size ∧ Value.ownBlock (.slice A k c) ≠ some b) ∧ Below w.heap.size w wr) (fun _ i _ => J.all.length - (intOf i).toNat)
    case atStart => exact ⟨0, none, 0, [], fun _ => False, Nat.zero_le _, rfl, rfl, World.ownsRow_nil _ _ _ _, fun k hk => absurd hk (by simp), fun _ h => h.elim, Below.refl _ _⟩
    case round =>
      obtain ⟨k, A, c, vs, E, hk, rfl, rfl, hown, hev, hE, hb⟩ := hrel
      by_cases hkn : k < J.all.length
      · obtain ⟨g, off, n', c', e1, e2, e3⟩ := hJ.ent k hkn
        have hlen := hO.ent (J.all.getD k []) (by rw [List.getD_eq_getElem?_getD, List.getElem?_eq_getElem hkn]; exact List.getElem_mem hkn)
        have hn' := e2.len.1
        obtain ⟨b, offb, rfl, hbl, hcell⟩ : ∃ b offb, A0 = some ⟨b, offb, none⟩ ∧ b < w.heap.size ∧ w.cell? ⟨b, offb + k, none⟩ = some (.slice (some ⟨g, off, none⟩) n' c') := by
          obtain ⟨A', n2, c2, he, hl2, _, _, hr⟩ := hrow
          injection he with h1 h2 h3
          subst h1; subst h2; subst h3
          obtain ⟨b, offb, rfl, hlt, hc⟩ := hr (by omega)
          exact ⟨b, offb, rfl, hlt, by rw [hc k (by omega), e1]⟩
        have hcr := (hb.cell (p := ⟨b, offb + k, none⟩) hbl).trans hcell
        have hsr := e2.below hb
        have htk : J.all.take (k + 1) = J.all.take k ++ [J.all.getD k []] := by
          rw [List.take_add_one, List.getElem?_eq_getElem hkn, List.getD_eq_getElem?_getD, List.getElem?_eq_getElem hkn]
          rfl
        have HT := hid htk
        have hvl : vs.length = (J.all.take k).length := by have := hown.1; simp at this ⊢; omega
        clear htk e1 e2 e3 hcell hq hJ hrow
        go_wp2_with fail
        refine (clone_any g off n' c' (J.all.getD k []) wr hsr (by omega)).mono ?_
        rintro e w5 ⟨A5, c5, rfl, hown5, hb5⟩
        have hb6 := hb.trans (hb5.mono hb.size)
        have ho6 := own_below hown hb5
        have hev5 := hev.below hb5
        have hs5 := own_sl hown5
        obtain ⟨g5, rfl, hg5, hg5'⟩ := own_some hown5 (by omega)
        have hF5 : 0 < n' → ∀ ad, (some ⟨g5, 0, none⟩ : Option Addr) = some ad → (E ad.block ∨ ad.block = g5) := fun h0 ad had => by
          injection had with had
          subst had
          exact .inr rfl
        have hbsz := hb.size
        have hrowlt : ∀ b, Value.ownBlock (.slice A k c) = some b → b < wr.heap.size := fun b hb => (hown.lt b hb).2
        have hsl : Sl (w5.alloc (.cells #[.slice (some ⟨g5, 0, none⟩) n' c5] 27)) 1 (.slice (some ⟨w5.heap.size, 0, none⟩) 1 1) [.slice (some ⟨g5, 0, none⟩) n' c5] := by
          refine ⟨_, _, _, rfl, by simp, Nat.le_refl _, by simp [maxLen], fun _ => ⟨w5.heap.size, 0, rfl, by simp, fun i hi => ?_⟩⟩
          obtain rfl : i = 0 := by omega
          rw [World.cell?_alloc_at _ _ _ _ rfl]
          rfl
        have hrow := ho6.alloc (.cells #[.slice (some ⟨g5, 0, none⟩) n' c5] 27)
        have hz : w.heap.size ≤ (w5.alloc (.cells #[.slice (some ⟨g5, 0, none⟩) n' c5] 27)).heap.size := by have := hb6.size; simp; omega
        have hba := hb6.alloc hb6.size (.cells #[.slice (some ⟨g5, 0, none⟩) n' c5] 27)
        have hsn : Entv (w5.alloc (.cells #[.slice (some ⟨g5, 0, none⟩) n' c5] 27)) (vs ++ [.slice (some ⟨g5, 0, none⟩) n' c5]) (J.all.take (k + 1)) (fun b => E b ∨ b = g5) := by
          rw [HT.out]
          exact (Entv.snoc (hev5.weak (fun b hb => .inl hb)) hvl hs5 hF5).below ((Below.refl _ _).alloc (Nat.le_refl _) _)
        have hfew := hO.few
        clear hev hev5 hs5 hown ho6 hown5 hsr hb hcr
        go_wp2_with (at_builtin; refine wpList_app rfl (.tmp 23) (.tmp 26) st_rows rfl w.heap.size rfl hrow rfl hsl (by simp [Value.oneCell']) (by simp [maxLen]; omega) (by omega) hz ?_)
        intro A7 c7 w7 hown7 hg7 hf7
        have hb7 := hba.trans (grown_below hrow hg7 hz)
        have hk7 : Kept (fun b => Value.ownBlock (.slice A k c) = some b) (w5.alloc (.cells #[.slice (some ⟨g5, 0, none⟩) n' c5] 27)) w7 := (Kept.of_row hg7).wider (fun b hb => hb.symm)
        have hnew : ∀ b, Value.ownBlock (.slice A7 (k + 1) c7) = some b → Value.ownBlock (.slice A k c) = some b ∨ w5.heap.size < b := fun b hb => by
          rcases hf7 with e | e
          · exact .inl (e ▸ hb)
          · rw [hb] at e
            injection e with e
            try simp at e
            exact .inr (by omega)
        have h5sz := hb5.size
        have hEE : ∀ b, (E b ∨ b = g5) → w.heap.size ≤ b ∧ b < w5.heap.size ∧ Value.ownBlock (.slice A k c) ≠ some b := by
          rintro b (e | rfl)
          · exact ⟨(hE b e).1, by have := (hE b e).2.1; omega, (hE b e).2.2⟩
          · exact ⟨by omega, hg5', fun e => by have := hrowlt _ e; omega⟩
        have hev7 := hsn.kept hk7 (fun b hb _ => (hEE b hb).2.2)
        have hE7 : ∀ b, (E b ∨ b = g5) → w.heap.size ≤ b ∧ b < w7.heap.size ∧ Value.ownBlock (.slice A7 (k + 1) c7) ≠ some b := fun b hb => by
          obtain ⟨e1, e2, e3⟩ := hEE b hb
          have := hg7.size
          simp at this
          refine ⟨e1, by omega, fun e => ?_⟩
          rcases hnew b e with h | h
          · exact e3 h
          · omega
        clear hsn hk7 hEE hnew hg7 hf7 hrow hba hF5 hE hsl
        go_wp2_with fail
        go_light
        exact ⟨⟨k + 1, A7, c7, _, _, by omega, by go_num, rfl, hown7, hev7, hE7, hb7⟩, by simp [intOf]; omega⟩
      · obtain rfl : k = J.all.length := by omega
        rw [List.take_length] at hev
        go_wp2_with fail
        go_ret
        exact ⟨A, c, vs, E, rfl, hown, hev, hE, hb⟩
end Go.Proofs.Ytfhlidlmipleaaa
