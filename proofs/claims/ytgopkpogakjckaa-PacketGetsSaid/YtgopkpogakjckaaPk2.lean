/-
  What headers, keys and packets are in memory; contracts of packet's between, wrong, right$1, greets, plain.
-/
import Derived.Test.YtgopkpogakjckaaPk1
import Derived.Deep.Cut
import Derived.Deep.CutRange
import Derived.Deep.CutBlock
namespace Go.Proofs.Ytgopkpogakjckaa
set_option linter.unusedVariables false
set_option linter.unusedSimpArgs false
open Go Go.RowKit SM LM PK

/-! ### rows of structs -/
theorem FL_len {α : Type} (f : α → List Value) (s : Nat) (h : ∀ x, (f x).length = s) (l : List α) : (l.flatMap f).length = l.length * s := by
  induction l with
  | nil => simp
  | cons x l ih => rw [List.flatMap_cons, List.length_append, h, ih, List.length_cons, Nat.add_mul]; omega
theorem FL_get {α : Type} (f : α → List Value) (s : Nat) (h : ∀ x, (f x).length = s) (d : α) (l : List α) (k j : Nat) (hk : k < l.length) (hj : j < s) : (l.flatMap f)[k * s + j]? = (f (l.getD k d))[j]? := by
  induction l generalizing k with
  | nil => simp at hk
  | cons x l ih =>
    cases k with
    | zero =>
      simp only [List.flatMap_cons, Nat.zero_mul, Nat.zero_add, List.getD_cons_zero]
      rw [List.getElem?_append_left (by rw [h]; exact hj)]
    | succ k =>
      simp only [List.flatMap_cons, List.getD_cons_succ]
      rw [List.getElem?_append_right (by rw [h, Nat.add_mul]; omega)]
      have : (k + 1) * s + j - (f x).length = k * s + j := by rw [h, Nat.add_mul]; omega
      rw [this]
      exact ih k (by simp at hk; omega)
theorem Sl.at {w : World} {size : Nat} {A : Option Addr} {n c : Nat} {xs : List Value} (h : Sl w size (.slice A n c) xs) {k : Nat} (hk : k < n) (hs : 0 < size) :
    ∃ b off, A = some ⟨b, off, none⟩ ∧ b < w.heap.size ∧ ∀ j, j < size → w.cell? ⟨b, off + k * size + j, none⟩ = xs[k * size + j]? := by
  obtain ⟨A', n', c', he, hl, _, _, hr⟩ := h
  injection he with h1 h2 h3
  subst h1; subst h2; subst h3
  obtain ⟨b, off, rfl, hlt, hc⟩ := hr (by omega)
  refine ⟨b, off, rfl, hlt, fun j hj => ?_⟩
  have h1 : (k + 1) * size ≤ n * size := Nat.mul_le_mul_right _ hk
  rw [Nat.add_mul] at h1
  rw [Nat.add_assoc]
  exact hc (k * size + j) (by omega)

def hdC (h : Hdr) : List Value := [.int .i64 h.age, .int .i64 h.ty, .int .u32 h.id, .int .u32 h.adv, .int .i64 h.seq, .int .u16 h.sum, .int .i64 h.len]
def HD (l : List Hdr) : List Value := l.flatMap hdC
def hd0 : Hdr := ⟨0, 0, 0, 0, 0, 0, 0⟩
def hdAt (l : List Hdr) (k : Nat) : Hdr := l.getD k hd0
theorem HD_length (l : List Hdr) : (HD l).length = l.length * 7 := FL_len hdC 7 (fun _ => rfl) l
def kyC (k : Ky) : List Value := [.int .i64 k.ty, .int .u32 k.id, .int .u32 k.adv]
def KY (l : List Ky) : List Value := l.flatMap kyC
def ky0 : Ky := ⟨0, 0, 0⟩
def kyAt (l : List Ky) (k : Nat) : Ky := l.getD k ky0
theorem KY_length (l : List Ky) : (KY l).length = l.length * 3 := FL_len kyC 3 (fun _ => rfl) l
theorem Sl.hd {w : World} {A : Option Addr} {n c : Nat} {l : List Hdr} (h : Sl w 7 (.slice A n c) (HD l)) {k : Nat} (hk : k < n) :
    ∃ b off, A = some ⟨b, off, none⟩ ∧ b < w.heap.size ∧ w.cell? ⟨b, off + k * 7, none⟩ = some (.int .i64 (hdAt l k).age) ∧ w.cell? ⟨b, off + k * 7 + 1, none⟩ = some (.int .i64 (hdAt l k).ty) ∧
      w.cell? ⟨b, off + k * 7 + 2, none⟩ = some (.int .u32 (hdAt l k).id) ∧ w.cell? ⟨b, off + k * 7 + 3, none⟩ = some (.int .u32 (hdAt l k).adv) ∧ w.cell? ⟨b, off + k * 7 + 4, none⟩ = some (.int .i64 (hdAt l k).seq) ∧
      w.cell? ⟨b, off + k * 7 + 5, none⟩ = some (.int .u16 (hdAt l k).sum) ∧ w.cell? ⟨b, off + k * 7 + 6, none⟩ = some (.int .i64 (hdAt l k).len) := by
  have hl := h.lenN.1
  rw [HD_length] at hl
  obtain ⟨b, off, rfl, hlt, hc⟩ := h.at hk (by omega)
  have g := fun j hj => (hc j hj).trans (FL_get hdC 7 (fun _ => rfl) hd0 l k j (by omega) hj)
  exact ⟨b, off, rfl, hlt, g 0 (by omega), g 1 (by omega), g 2 (by omega), g 3 (by omega), g 4 (by omega), g 5 (by omega), g 6 (by omega)⟩
theorem Sl.ky {w : World} {A : Option Addr} {n c : Nat} {l : List Ky} (h : Sl w 3 (.slice A n c) (KY l)) {k : Nat} (hk : k < n) :
    ∃ b off, A = some ⟨b, off, none⟩ ∧ b < w.heap.size ∧ w.cell? ⟨b, off + k * 3, none⟩ = some (.int .i64 (kyAt l k).ty) ∧ w.cell? ⟨b, off + k * 3 + 1, none⟩ = some (.int .u32 (kyAt l k).id) ∧
      w.cell? ⟨b, off + k * 3 + 2, none⟩ = some (.int .u32 (kyAt l k).adv) := by
  have hl := h.lenN.1
  rw [KY_length] at hl
  obtain ⟨b, off, rfl, hlt, hc⟩ := h.at hk (by omega)
  have g := fun j hj => (hc j hj).trans (FL_get kyC 3 (fun _ => rfl) ky0 l k j (by omega) hj)
  exact ⟨b, off, rfl, hlt, g 0 (by omega), g 1 (by omega), g 2 (by omega)⟩
/-- a list of Lsas: their rows, and where each one's lists lie -/
structure LsR where
  A1 : Option Addr
  n1 : Nat
  c1 : Nat
  A2 : Option Addr
  n2 : Nat
  c2 : Nat
def lsC (p : Lsa × LsR) : List Value := (lsaC p.1 p.2.A1 p.2.n1 p.2.c1 p.2.A2 p.2.n2 p.2.c2).toList
def LS (l : List (Lsa × LsR)) : List Value := l.flatMap lsC
theorem LS_length (l : List (Lsa × LsR)) : (LS l).length = l.length * 9 := FL_len lsC 9 (fun _ => rfl) l
def ls0 : Lsa × LsR := (⟨0, 0, 0, 0, 0, [], 0, [], 0⟩, ⟨none, 0, 0, none, 0, 0⟩)
def lsAt (l : List (Lsa × LsR)) (k : Nat) : Lsa × LsR := l.getD k ls0
theorem Sl.ls {w : World} {A : Option Addr} {n c : Nat} {l : List (Lsa × LsR)} (h : Sl w 9 (.slice A n c) (LS l)) {k : Nat} (hk : k < n) :
    ∃ b off, A = some ⟨b, off, none⟩ ∧ b < w.heap.size ∧ ∀ j, j < 9 → w.cell? ⟨b, off + k * 9 + j, none⟩ = (lsC (lsAt l k))[j]? := by
  have hl := h.lenN.1
  rw [LS_length] at hl
  obtain ⟨b, off, rfl, hlt, hc⟩ := h.at hk (by omega)
  exact ⟨b, off, rfl, hlt, fun j hj => (hc j hj).trans (FL_get lsC 9 (fun _ => rfl) ls0 l k j (by omega) hj)⟩
def IsL (w : World) (p : Lsa × LsR) : Prop := IsLsa w p.1 p.2.A1 p.2.n1 p.2.c1 p.2.A2 p.2.n2 p.2.c2

/-- a packet by value -/
abbrev pkC (P : Pkt) (A1 : Option Addr) (n1 c1 : Nat) (A2 : Option Addr) (n2 c2 : Nat) (A3 : Option Addr) (n3 c3 : Nat) (A4 : Option Addr) (n4 c4 : Nat) : Array Value :=
  #[.int .i64 P.ty, .int .u32 (P.router : Int), .int .u32 (P.area : Int), .string P.auth, .int .u32 (P.mask : Int), .int .i64 P.intv, .int .i64 P.dead, .int .i64 P.prio, .int .u32 (P.dr : Int), .int .u32 (P.bdr : Int), .slice A1 n1 c1,
    .int .i64 P.flags, .int .u32 (P.seq : Int), .slice A2 n2 c2, .slice A3 n3 c3, .slice A4 n4 c4]
abbrev gtC (P : Pkt) (A1 : Option Addr) (n1 c1 : Nat) : Array Value :=
  #[.int .u32 (P.mask : Int), .int .i64 P.intv, .int .i64 P.dead, .int .i64 P.prio, .int .u32 (P.dr : Int), .int .u32 (P.bdr : Int), .slice A1 n1 c1]
structure IsPk (w : World) (P : Pkt) (A1 : Option Addr) (n1 c1 : Nat) (A2 : Option Addr) (n2 c2 : Nat) (A3 : Option Addr) (n3 c3 : Nat) (A4 : Option Addr) (n4 c4 : Nat) (R : List LsR) : Prop where
  nbs : Sl w 1 (.slice A1 n1 c1) (U32 P.nbs)
  heads : Sl w 7 (.slice A2 n2 c2) (HD P.heads)
  keys : Sl w 3 (.slice A3 n3 c3) (KY P.keys)
  lsas : Sl w 9 (.slice A4 n4 c4) (LS (P.lsas.zip R))
  rl : R.length = P.lsas.length
  each : ∀ p ∈ P.lsas.zip R, IsL w p
theorem IsPk.below {w w' : World} {P : Pkt} {A1 : Option Addr} {n1 c1 : Nat} {A2 : Option Addr} {n2 c2 : Nat} {A3 : Option Addr} {n3 c3 : Nat} {A4 : Option Addr} {n4 c4 : Nat} {R : List LsR}
    (h : IsPk w P A1 n1 c1 A2 n2 c2 A3 n3 c3 A4 n4 c4 R) (hb : Below w.heap.size w w') : IsPk w' P A1 n1 c1 A2 n2 c2 A3 n3 c3 A4 n4 c4 R :=
  ⟨h.nbs.below hb, h.heads.below hb, h.keys.below hb, h.lsas.below hb, h.rl, fun p hp => (h.each p hp).below hb⟩
theorem IsPk.lens {w : World} {P : Pkt} {A1 : Option Addr} {n1 c1 : Nat} {A2 : Option Addr} {n2 c2 : Nat} {A3 : Option Addr} {n3 c3 : Nat} {A4 : Option Addr} {n4 c4 : Nat} {R : List LsR}
    (h : IsPk w P A1 n1 c1 A2 n2 c2 A3 n3 c3 A4 n4 c4 R) : P.nbs.length = n1 ∧ P.heads.length = n2 ∧ P.keys.length = n3 ∧ P.lsas.length = n4 := by
  have h1 := h.nbs.lenN.1
  have h2 := h.heads.lenN.1
  have h3 := h.keys.lenN.1
  have h4 := h.lsas.lenN.1
  rw [U32_length] at h1
  rw [HD_length] at h2
  rw [KY_length] at h3
  rw [LS_length, List.length_zip, h.rl] at h4
  omega

/-! ### package packet: may one be? -/
set_option maxRecDepth 100000 in
set_option maxHeartbeats 400000 in
theorem pbetween_any (n lo hi : Int) (w : World) :
    Calls Try.prog 66 #[.int .i64 n, .int .i64 lo, .int .i64 hi] w fun e w' => e = .returned (.bool (decide (lo ≤ n ∧ n ≤ hi))) ∧ w = w' := by
  by_cases h1 : lo ≤ n
  · by_cases h2 : n ≤ hi
    · go_enter Try.func66, Try.ntmps66
      go_wp2_with fail
      go_ret
      exact ⟨ret_bool (by simp [h1, h2]), rfl⟩
    · go_enter Try.func66, Try.ntmps66
      go_wp2_with fail
      go_ret
      exact ⟨ret_bool (by simp [h1, h2]), rfl⟩
  · go_enter Try.func66, Try.ntmps66
    go_wp2_with fail
    go_ret
    exact ⟨ret_bool (by simp; omega), rfl⟩
set_option maxRecDepth 100000 in
set_option maxHeartbeats 400000 in
theorem kyWrong_any (k : Ky) (w : World) :
    Calls Try.prog 71 #[.agg (kyC k).toArray] w fun e w' => e = .returned (.bool (!k.ok)) ∧ Below w.heap.size w w' := by
  obtain ⟨ty, id, adv⟩ := k
  have hok : Hid ((⟨ty, id, adv⟩ : Ky).ok = decide (0 ≤ ty ∧ ty ≤ 255)) := rfl
  go_enter Try.func71, Try.ntmps71
  simp only [kyC]
  go_wp2_with fail
  refine (pbetween_any _ _ _ _).mono ?_
  rintro e w' ⟨rfl, rfl⟩
  go_wp2_with fail
  go_ret
  exact ⟨ret_bool (by rw [hok.out, Bool.decide_and]; simp [Bool.not_and]), (Below.refl _ _).alloc (Nat.le_refl _) _⟩
set_option maxRecDepth 100000 in
set_option maxHeartbeats 800000 in
theorem hdWrong_any (h : Hdr) (w : World) :
    Calls Try.prog 73 #[.agg (hdC h).toArray] w fun e w' => e = .returned (.bool (!h.ok)) ∧ Below w.heap.size w w' := by
  obtain ⟨age, ty, id, adv, seq, sum, len⟩ := h
  have hok : Hid ((⟨age, ty, id, adv, seq, sum, len⟩ : Hdr).ok = (decide (0 ≤ age ∧ age ≤ 65535) && decide (0 ≤ len ∧ len ≤ 65535) && decide (-2147483648 ≤ seq ∧ seq ≤ 2147483647) && decide (0 ≤ ty ∧ ty ≤ 255))) := rfl
  generalize d1 : decide (0 ≤ age ∧ age ≤ 65535) = b1 at hok
  generalize d2 : decide (0 ≤ len ∧ len ≤ 65535) = b2 at hok
  generalize d3 : decide (-2147483648 ≤ seq ∧ seq ≤ 2147483647) = b3 at hok
  generalize d4 : decide (0 ≤ ty ∧ ty ≤ 255) = b4 at hok
  have D1 := hid d1
  have D2 := hid d2
  have D3 := hid d3
  have D4 := hid d4
  clear d1 d2 d3 d4
  go_enter Try.func73, Try.ntmps73
  simp only [hdC]
  go_wp2_with fail
  refine (pbetween_any _ _ _ _).mono ?_
  rintro e w' ⟨rfl, rfl⟩
  rw [D1.out]
  cases b1
  · go_wp2_with fail
    go_ret
    exact ⟨ret_bool (by rw [hok.out]; rfl), (Below.refl _ _).alloc (Nat.le_refl _) _⟩
  go_wp2_with fail
  refine (pbetween_any _ _ _ _).mono ?_
  rintro e w' ⟨rfl, rfl⟩
  rw [D2.out]
  cases b2
  · go_wp2_with fail
    go_ret
    exact ⟨ret_bool (by rw [hok.out]; rfl), (Below.refl _ _).alloc (Nat.le_refl _) _⟩
  go_wp2_with fail
  refine (pbetween_any _ _ _ _).mono ?_
  rintro e w' ⟨rfl, rfl⟩
  rw [D3.out]
  cases b3
  · go_wp2_with fail
    go_ret
    exact ⟨ret_bool (by rw [hok.out]; rfl), (Below.refl _ _).alloc (Nat.le_refl _) _⟩
  go_wp2_with fail
  refine (pbetween_any _ _ _ _).mono ?_
  rintro e w' ⟨rfl, rfl⟩
  rw [D4.out]
  go_wp2_with fail
  go_ret
  exact ⟨ret_bool (by rw [hok.out]; rfl), (Below.refl _ _).alloc (Nat.le_refl _) _⟩

theorem all_take_succ {α : Type} (p : α → Bool) (d : α) (l : List α) (k : Nat) (h : k < l.length) : (l.take (k + 1)).all p = ((l.take k).all p && p (l.getD k d)) := by
  have e : l.take (k + 1) = l.take k ++ [l[k]] := List.take_succ_eq_append_getElem h
  rw [e, List.all_append, List.getD_eq_getElem?_getD, List.getElem?_eq_getElem h]
  simp
theorem all_take_no {α : Type} (p : α → Bool) (l : List α) (k : Nat) (h : (l.take k).all p = false) : l.all p = false := by
  cases hl : l.all p
  · rfl
  · rw [List.all_eq_true] at hl
    rw [List.all_eq_false] at h
    obtain ⟨x, hx, hn⟩ := h
    exact absurd (hl x (List.mem_of_mem_take hx)) hn

def hdOkTo (l : List Hdr) (k : Nat) : Bool := (l.take k).all Hdr.ok
set_option maxRecDepth 100000 in
set_option maxHeartbeats 800000 in
theorem hdIndex_any (A : Option Addr) (n c : Nat) (l : List Hdr) (w : World) (h : Sl w 7 (.slice A n c) (HD l)) :
    Calls Try.prog 100 #[.slice A n c, .func (.func 73) #[] #[]] w
      fun e w' => (∃ r : Int, e = .returned (.int .i64 r) ∧ (decide (0 ≤ r) = !(l.all Hdr.ok))) ∧ Below w.heap.size w w' := by
  obtain ⟨hl1, hl2, hl3⟩ := h.lenN
  rw [HD_length] at hl1
  have HL := hid (show l.length = n by omega)
  clear hl1
  go_enter Try.func100, Try.ntmps100
  go_wp2_with fail
  go_loopw [8] (fun i wr => ∃ k : Nat, k ≤ n ∧ i = .int .i64 k ∧ hdOkTo l k = true ∧ Below w.heap.size w wr) (fun i _ => n - (intOf i).toNat)
  case atStart => exact ⟨0, Nat.zero_le _, rfl, rfl, Below.refl _ _⟩
  case round =>
    obtain ⟨k, hk, rfl, hok, hbl⟩ := hrel
    have HOK := hid hok
    clear hok
    by_cases hlt : k < n
    · have hr := h.below hbl
      obtain ⟨b, off, rfl, _, c0, c1, c2, c3, c4, c5, c6⟩ := hr.hd hlt
      have HS : Hid (hdOkTo l (k + 1) = (hdOkTo l k && (hdAt l k).ok)) := all_take_succ Hdr.ok hd0 l k (by have := HL.out; omega)
      go_wp2_with fail
      refine (hdWrong_any (hdAt l k) _).mono ?_
      rintro e w1 ⟨rfl, hb1⟩
      have hbl1 := hbl.trans (hb1.mono hbl.size)
      cases d1 : (hdAt l k).ok
      · have D1 := hid d1
        clear d1
        go_wp2_with fail
        go_ret
        refine ⟨⟨k, rfl, ?_⟩, hbl1⟩
        have := HS.out
        rw [D1.out, Bool.and_false] at this
        rw [all_take_no Hdr.ok l (k + 1) this]
        simp
      · have D1 := hid d1
        clear d1
        go_wp2_with fail
        go_light
        refine ⟨⟨k + 1, by omega, by go_num, by rw [HS.out, HOK.out, D1.out]; rfl, hbl1⟩, by simp [intOf]; omega⟩
    · obtain rfl : k = n := by omega
      go_wp2_with fail
      go_ret
      refine ⟨⟨-1, rfl, ?_⟩, hbl⟩
      have := HOK.out
      unfold hdOkTo at this
      rw [List.take_of_length_le (by have := HL.out; omega)] at this
      rw [this]
      rfl
set_option maxRecDepth 100000 in
set_option maxHeartbeats 400000 in
theorem hdContains_any (A : Option Addr) (n c : Nat) (l : List Hdr) (w : World) (h : Sl w 7 (.slice A n c) (HD l)) :
    Calls Try.prog 72 #[.slice A n c, .func (.func 73) #[] #[]] w
      fun e w' => e = .returned (.bool (!(l.all Hdr.ok))) ∧ Below w.heap.size w w' := by
  go_enter Try.func72, Try.ntmps72
  go_wp2_with fail
  refine (hdIndex_any A n c l w h).mono ?_
  rintro e w1 ⟨⟨r, rfl, hr⟩, hb1⟩
  have HR := hid hr
  clear hr
  go_wp2_with fail
  go_ret
  exact ⟨ret_bool HR.out, hb1⟩

def kyOkTo (l : List Ky) (k : Nat) : Bool := (l.take k).all Ky.ok
set_option maxRecDepth 100000 in
set_option maxHeartbeats 800000 in
theorem kyIndex_any (A : Option Addr) (n c : Nat) (l : List Ky) (w : World) (h : Sl w 3 (.slice A n c) (KY l)) :
    Calls Try.prog 99 #[.slice A n c, .func (.func 71) #[] #[]] w
      fun e w' => (∃ r : Int, e = .returned (.int .i64 r) ∧ (decide (0 ≤ r) = !(l.all Ky.ok))) ∧ Below w.heap.size w w' := by
  obtain ⟨hl1, hl2, hl3⟩ := h.lenN
  rw [KY_length] at hl1
  have HL := hid (show l.length = n by omega)
  clear hl1
  go_enter Try.func99, Try.ntmps99
  go_wp2_with fail
  go_loopw [8] (fun i wr => ∃ k : Nat, k ≤ n ∧ i = .int .i64 k ∧ kyOkTo l k = true ∧ Below w.heap.size w wr) (fun i _ => n - (intOf i).toNat)
  case atStart => exact ⟨0, Nat.zero_le _, rfl, rfl, Below.refl _ _⟩
  case round =>
    obtain ⟨k, hk, rfl, hok, hbl⟩ := hrel
    have HOK := hid hok
    clear hok
    by_cases hlt : k < n
    · have hr := h.below hbl
      obtain ⟨b, off, rfl, _, c0, c1, c2⟩ := hr.ky hlt
      have HS : Hid (kyOkTo l (k + 1) = (kyOkTo l k && (kyAt l k).ok)) := all_take_succ Ky.ok ky0 l k (by have := HL.out; omega)
      go_wp2_with fail
      refine (kyWrong_any (kyAt l k) _).mono ?_
      rintro e w1 ⟨rfl, hb1⟩
      have hbl1 := hbl.trans (hb1.mono hbl.size)
      cases d1 : (kyAt l k).ok
      · have D1 := hid d1
        clear d1
        go_wp2_with fail
        go_ret
        refine ⟨⟨k, rfl, ?_⟩, hbl1⟩
        have := HS.out
        rw [D1.out, Bool.and_false] at this
        rw [all_take_no Ky.ok l (k + 1) this]
        simp
      · have D1 := hid d1
        clear d1
        go_wp2_with fail
        go_light
        refine ⟨⟨k + 1, by omega, by go_num, by rw [HS.out, HOK.out, D1.out]; rfl, hbl1⟩, by simp [intOf]; omega⟩
    · obtain rfl : k = n := by omega
      go_wp2_with fail
      go_ret
      refine ⟨⟨-1, rfl, ?_⟩, hbl⟩
      have := HOK.out
      unfold kyOkTo at this
      rw [List.take_of_length_le (by have := HL.out; omega)] at this
      rw [this]
      rfl
set_option maxRecDepth 100000 in
set_option maxHeartbeats 400000 in
theorem kyContains_any (A : Option Addr) (n c : Nat) (l : List Ky) (w : World) (h : Sl w 3 (.slice A n c) (KY l)) :
    Calls Try.prog 70 #[.slice A n c, .func (.func 71) #[] #[]] w
      fun e w' => e = .returned (.bool (!(l.all Ky.ok))) ∧ Below w.heap.size w w' := by
  go_enter Try.func70, Try.ntmps70
  go_wp2_with fail
  refine (kyIndex_any A n c l w h).mono ?_
  rintro e w1 ⟨⟨r, rfl, hr⟩, hb1⟩
  have HR := hid hr
  clear hr
  go_wp2_with fail
  go_ret
  exact ⟨ret_bool HR.out, hb1⟩
end Go.Proofs.Ytgopkpogakjckaa
