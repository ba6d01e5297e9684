/-
  Contract of lsa.Put.
-/
import Derived.Test.YtgopkpogakjckaaLsa6
namespace Go.Proofs.Ytgopkpogakjckaa
set_option linter.unusedVariables false
set_option linter.unusedSimpArgs false
open Go.RowKit SM LM

/-- the numbers that an Lsa's fields may be -/
structure WfL (L : Lsa) : Prop where
  links : ∀ x ∈ L.links, x.wf
  routers : ∀ x ∈ L.routers, x < 4294967296
  mask : L.mask < 4294967296
  kid : L.kid < 4294967296
  kadv : L.kadv < 4294967296
/-- what an Lsa's value is in memory -/
structure IsLsa (w : World) (L : Lsa) (A1 : Option Addr) (n1 c1 : Nat) (A2 : Option Addr) (n2 c2 : Nat) : Prop where
  links : Sl w 4 (.slice A1 n1 c1) (LK L.links)
  routers : Sl w 1 (.slice A2 n2 c2) (U32 L.routers)
theorem IsLsa.below {w w' : World} {L : Lsa} {A1 : Option Addr} {n1 c1 : Nat} {A2 : Option Addr} {n2 c2 : Nat} (h : IsLsa w L A1 n1 c1 A2 n2 c2) (hb : Below w.heap.size w w') : IsLsa w' L A1 n1 c1 A2 n2 c2 :=
  ⟨h.links.below hb, h.routers.below hb⟩

theorem told_any (L : Lsa) (A1 : Option Addr) (n1 c1 : Nat) (A2 : Option Addr) (n2 c2 : Nat) (w : World) (h : IsLsa w L A1 n1 c1 A2 n2 c2) (hwf : WfL L) (hn1 : n1 ≤ 100000) (hn2 : n2 ≤ 100000) :
    Calls Try.prog 102 #[.agg (lsaC L A1 n1 c1 A2 n2 c2)] w fun e w' => ∃ A c n, e = .returned (.slice A n c) ∧
      w'.ownsRow w.heap.size 5 1 (.slice A n c) n (B8 (tellB L)) ∧ Below w.heap.size w w' := by
  by_cases h1 : L.kty = 1
  · exact told1 L A1 n1 c1 A2 n2 c2 w h.links h1 hn1 hwf.links
  · by_cases h2 : L.kty = 2
    · exact told2 L A1 n1 c1 A2 n2 c2 w h.routers h2 hn2 hwf.routers hwf.mask
    · exact told3 L A1 n1 c1 A2 n2 c2 w h1 h2 hwf.mask
theorem flatMap_length_const {α : Type} (l : List α) (f : α → List UInt8) (k : Nat) (h : ∀ x, (f x).length = k) : (l.flatMap f).length = l.length * k := by
  induction l with
  | nil => simp
  | cons x l ih => simp [List.flatMap_cons, h, ih, Nat.add_mul]; omega
theorem tellB_length (L : Lsa) (h : L.right = true) : (tellB L).length ≤ 484 := by
  unfold Lsa.right at h
  unfold tellB
  by_cases h1 : L.kty = 1
  · simp [h1, linksOk] at h
    simp [h1, be_length, flatMap_length_const L.links linkB 12 linkB_length]
    omega
  · by_cases h2 : L.kty = 2
    · simp [h1, h2] at h
      simp [h1, h2, be_length, flatMap_length_const L.routers (be 4) 4 (be_length 4)]
      omega
    · simp [h1, h2, be_length]

/-- all bytes, the sum not laid yet -/
def rawB (L : Lsa) : List UInt8 := hdrB L.age L.kty L.kid L.kadv L.seq 0 (20 + (tellB L).length : Nat) ++ tellB L
def putB (L : Lsa) : List UInt8 := ((rawB L).set 16 (UInt8.ofNat (fX ((rawB L).drop 2) 14).toNat)).set 17 (UInt8.ofNat (fY ((rawB L).drop 2) 14).toNat)
theorem hdrB_length (a b c d e f g : Int) : (hdrB a b c d e f g).length = 20 := by simp [hdrB, be_length]
theorem rawB_length (L : Lsa) : (rawB L).length = 20 + (tellB L).length := by unfold rawB; rw [List.length_append, hdrB_length]

set_option maxRecDepth 100000 in
set_option maxHeartbeats 800000 in
theorem put_no (L : Lsa) (A1 : Option Addr) (n1 c1 : Nat) (A2 : Option Addr) (n2 c2 : Nat) (w : World) (h : IsLsa w L A1 n1 c1 A2 n2 c2) (hr : L.right = false) :
    Calls Try.prog 75 #[.agg (lsaC L A1 n1 c1 A2 n2 c2)] w fun e w' => e = .returned (.tuple #[.slice none 0 0, .int .i64 1]) ∧ Below w.heap.size w w' := by
  have HR := hid hr
  clear hr
  have hb0 : ∀ o, Below w.heap.size w (w.alloc o) := fun o => (Below.refl _ _).alloc (Nat.le_refl _) o
  have HB0 := hid hb0
  clear hb0
  go_enter Try.func75, Try.ntmps75
  go_wp2_with fail
  refine (right_l L A1 n1 c1 A2 n2 c2 _ (h.links.below (HB0.out _)) (h.routers.below (HB0.out _))).mono ?_
  rintro e w1 ⟨rfl, hb1⟩
  rw [HR.out]
  go_wp2_with fail
  go_ret2
  exact ⟨rfl, (HB0.out _).trans (hb1.mono (by simp))⟩

set_option maxRecDepth 100000 in
set_option maxHeartbeats 1600000 in
theorem put_yes (L : Lsa) (A1 : Option Addr) (n1 c1 : Nat) (A2 : Option Addr) (n2 c2 : Nat) (w : World) (h : IsLsa w L A1 n1 c1 A2 n2 c2) (hwf : WfL L) (hr : L.right = true) (hn1 : n1 ≤ 100000) (hn2 : n2 ≤ 100000) :
    Calls Try.prog 75 #[.agg (lsaC L A1 n1 c1 A2 n2 c2)] w fun e w' => ∃ A c n, e = .returned (.tuple #[.slice A n c, .int .i64 0]) ∧
      w'.ownsRow w.heap.size 5 1 (.slice A n c) n (B8 (putB L)) ∧ Below w.heap.size w w' := by
  have HR := hid hr
  have hlen := tellB_length L hr
  clear hr
  have hb0 : ∀ o, Below w.heap.size w (w.alloc o) := fun o => (Below.refl _ _).alloc (Nat.le_refl _) o
  have HB0 := hid hb0
  clear hb0
  go_enter Try.func75, Try.ntmps75
  go_wp2_with fail
  refine (right_l L A1 n1 c1 A2 n2 c2 _ (h.links.below (HB0.out _)) (h.routers.below (HB0.out _))).mono ?_
  rintro e w1 ⟨rfl, hb1⟩
  rw [HR.out]
  have hbk1 : ∀ i, w1.cell? ⟨w.heap.size, i, none⟩ = _ := fun i => hb1.cell (p := ⟨w.heap.size, i, none⟩) (by simp)
  have hbb1 := (HB0.out _).trans (hb1.mono (by simp))
  have hs1 := hb1.size
  simp at hs1
  go_wp2_with fail
  refine (told_any L A1 n1 c1 A2 n2 c2 _ (h.below hbb1) hwf hn1 hn2).mono ?_
  rintro e w2 ⟨A, c, n, rfl, hown2, hb2⟩
  have hbk2 : ∀ i, w2.cell? ⟨w.heap.size, i, none⟩ = _ := fun i => hb2.cell (p := ⟨w.heap.size, i, none⟩) (by simp; omega)
  have hbb2 := hbb1.trans (hb2.mono hbb1.size)
  have hn := (own_sl hown2).len.1
  have HN := hid hn
  rw [hn] at hlen
  clear hn
  go_wp2_with fail
  refine (putHeader_any L.age L.kty L.kid L.kadv L.seq 0 (20 + n) _ ⟨by omega, by have := hwf.kid; omega⟩ ⟨by omega, by have := hwf.kadv; omega⟩ (by omega)).mono ?_
  rintro e w3 ⟨A3, c3, rfl, hown3, hb3⟩
  have hbb3 := hbb2.trans (hb3.mono hbb2.size)
  have hown23 := own_sl (own_below hown2 hb3)
  have hS := hbb3.size
  clear hbk1 hbk2
  go_wp2_with (at_builtin; refine wpList_app rfl (.tmp 20) (.tmp 21) st_bytes rfl w2.heap.size rfl hown3 rfl hown23 (B8_one _) (by simp [maxLen]; omega) (by omega) hb3.size ?_)
  intro A4 c4 w4 hown4 hg4 hf4
  rw [← B8_append] at hown4
  have hb4 : Below w2.heap.size w3 w4 := grown_below hown3 hg4 hb3.size
  have hbb4 := hbb3.trans (hb4.mono hbb2.size)
  obtain ⟨g, rfl, hgl, hgs⟩ := own_some hown4 (by omega)
  have hraw : Hid (rawB L = hdrB L.age L.kty L.kid L.kadv L.seq 0 (20 + n) ++ tellB L) := by
    show _ = _
    unfold rawB
    rw [HN.out]
    rfl
  rw [← hraw.out] at hown4
  have hrl : Hid ((rawB L).length = 20 + n) := by
    show _ = _
    rw [rawB_length, HN.out]
  have hdrop := sl_drop (own_sl hown4) 2 (by omega)
  obtain ⟨k0, f0⟩ := own_byte hown4 16 (by omega)
  obtain ⟨k1, f1⟩ := own_byte hown4 17 (by omega)
  have hc4 : 20 + n ≤ c4 := (own_sl hown4).len.2.1
  rw [if_neg (by omega)] at hdrop
  simp only [Option.map_some, addr_add] at hdrop
  go_wp2_with fail
  refine (fletcher_yes _ _ _ 14 ((rawB L).drop 2) _ (by exact hdrop) (by omega) (by omega)).mono ?_
  rintro e w5 ⟨rfl, hb5⟩
  have hown5 := own_below hown4 hb5
  have hbb5 := hbb4.trans (hb5.mono hbb4.size)
  have bX := fX_bd ((rawB L).drop 2) 14
  have bY := fY_bd ((rawB L).drop 2) 14
  obtain ⟨p0, p1⟩ := own_byte hown5 16 (by omega)
  obtain ⟨p2, p3⟩ := own_byte hown5 17 (by omega)
  clear k0 f0 k1 f1
  have hown6 := ((hown5.stored 16 (.int .u8 (fX ((rawB L).drop 2) 14))).1.stored 17 (.int .u8 (fY ((rawB L).drop 2) 14))).1
  rw [← ofNat_toNat_of _ bX, ← ofNat_toNat_of _ bY, B8_set, B8_set] at hown6
  have hput : Hid (putB L = ((rawB L).set 16 (UInt8.ofNat (fX ((rawB L).drop 2) 14).toNat)).set 17 (UInt8.ofNat (fY ((rawB L).drop 2) 14).toNat)) := rfl
  rw [← hput.out, ofNat_toNat_of _ bX, ofNat_toNat_of _ bY] at hown6
  have hwl : w.heap.size ≤ g := by have := hbb2.size; omega
  have hbb6 := (hbb5.setCell (p := ⟨g, 16, none⟩) hwl (.int .u8 (fX ((rawB L).drop 2) 14))).setCell (p := ⟨g, 17, none⟩) hwl (.int .u8 (fY ((rawB L).drop 2) 14))
  go_wp2_with fail
  go_ret2
  exact ⟨_, c4, _, rfl, own_base hown6 hbb2.size, hbb6⟩
end Go.Proofs.Ytgopkpogakjckaa
