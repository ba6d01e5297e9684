/-
  Contracts of package lsa and of its reference: may one be?
-/
import Derived.Test.YtgopkpogakjckaaLsa1
namespace Go.Proofs.Ytgopkpogakjckaa
set_option linter.unusedVariables false
set_option linter.unusedSimpArgs false
open Go.RowKit SM LM

/-- links as cells -/
def linkC (x : Link) : List Value := [.int .u32 x.id, .int .u32 x.data, .int .i64 x.ty, .int .i64 x.cost]
def LK (l : List Link) : List Value := l.flatMap linkC
def U32 (l : List Nat) : List Value := l.map fun (n : Nat) => Value.int .u32 (n : Int)
def linkAt (l : List Link) (k : Nat) : Link := l.getD k ⟨0, 0, 0, 0⟩
theorem LK_length (l : List Link) : (LK l).length = l.length * 4 := by
  unfold LK
  induction l with
  | nil => rfl
  | cons x l ih => simp [List.flatMap_cons, linkC, ih]; omega
theorem LK_get (l : List Link) (k j : Nat) (hk : k < l.length) (hj : j < 4) : (LK l)[k * 4 + j]? = (linkC (linkAt l k))[j]? := by
  unfold LK linkAt
  induction l generalizing k with
  | nil => simp at hk
  | cons x l ih =>
    cases k with
    | zero =>
      simp only [List.flatMap_cons, Nat.zero_mul, Nat.zero_add, List.getD_cons_zero]
      rw [List.getElem?_append_left (by simp [linkC]; omega)]
    | succ k =>
      simp only [List.flatMap_cons, List.getD_cons_succ]
      rw [List.getElem?_append_right (by simp [linkC]; omega)]
      have : (k + 1) * 4 + j - (linkC x).length = k * 4 + j := by simp [linkC]; omega
      rw [this]
      exact ih k (by simp at hk; omega)
/-- what a walk wants at a link -/
theorem Sl.link {w : World} {A : Option Addr} {n c : Nat} {l : List Link} (h : Sl w 4 (.slice A n c) (LK l)) {k : Nat} (hk : k < n) :
    ∃ b off, A = some ⟨b, off, none⟩ ∧ b < w.heap.size ∧ w.cell? ⟨b, off + k * 4, none⟩ = some (.int .u32 (linkAt l k).id) ∧ w.cell? ⟨b, off + k * 4 + 1, none⟩ = some (.int .u32 (linkAt l k).data) ∧
      w.cell? ⟨b, off + k * 4 + 2, none⟩ = some (.int .i64 (linkAt l k).ty) ∧ w.cell? ⟨b, off + k * 4 + 3, none⟩ = some (.int .i64 (linkAt l k).cost) := by
  obtain ⟨A', n', c', he, hl, _, _, hr⟩ := h
  injection he with h1 h2 h3
  subst h1; subst h2; subst h3
  obtain ⟨b, off, rfl, hlt, hc⟩ := hr (by omega)
  rw [LK_length] at hl
  have hkl : k < l.length := by omega
  refine ⟨b, off, rfl, hlt, ?_, ?_, ?_, ?_⟩
  · have := hc (k * 4 + 0) (by omega); rw [LK_get l k 0 hkl (by omega)] at this; exact this
  · have := hc (k * 4 + 1) (by omega); rw [LK_get l k 1 hkl (by omega)] at this; exact this
  · have := hc (k * 4 + 2) (by omega); rw [LK_get l k 2 hkl (by omega)] at this; exact this
  · have := hc (k * 4 + 3) (by omega); rw [LK_get l k 3 hkl (by omega)] at this; exact this
theorem Sl.lenN {w : World} {size : Nat} {A : Option Addr} {n c : Nat} {xs : List Value} (h : Sl w size (.slice A n c) xs) : xs.length = n * size ∧ n ≤ c ∧ c ≤ 9223372036854775807 := by
  obtain ⟨A', n', c', he, hl, h2, h3, hr⟩ := h
  injection he with h4 h5 h6
  subst h4; subst h5; subst h6
  exact ⟨hl, h2, by simpa [maxLen] using h3⟩

set_option maxRecDepth 100000 in
set_option maxHeartbeats 400000 in
theorem between_any (n lo hi : Int) (w : World) :
    Calls Try.prog 114 #[.int .i64 n, .int .i64 lo, .int .i64 hi] w fun e w' => e = .returned (.bool (decide (lo ≤ n ∧ n ≤ hi))) ∧ w = w' := by
  by_cases h1 : lo ≤ n
  · by_cases h2 : n ≤ hi
    · go_enter Try.func114, Try.ntmps114
      go_wp2_with fail
      go_ret
      exact ⟨ret_bool (by simp [h1, h2]), rfl⟩
    · go_enter Try.func114, Try.ntmps114
      go_wp2_with fail
      go_ret
      exact ⟨ret_bool (by simp [h1, h2]), rfl⟩
  · go_enter Try.func114, Try.ntmps114
    go_wp2_with fail
    go_ret
    exact ⟨ret_bool (by simp; omega), rfl⟩

set_option maxRecDepth 100000 in
set_option maxHeartbeats 400000 in
theorem links1_any (x : Link) (w : World) :
    Calls Try.prog 132 #[.agg (linkC x).toArray] w fun e w' => e = .returned (.bool (!x.ok)) ∧ Below w.heap.size w w' := by
  obtain ⟨id, data, ty, cost⟩ := x
  have hok : Hid ((⟨id, data, ty, cost⟩ : Link).ok = (decide (1 ≤ ty ∧ ty ≤ 4) && decide (0 ≤ cost ∧ cost ≤ 65535))) := rfl
  cases d1 : decide (1 ≤ ty ∧ ty ≤ 4)
  · have D1 := hid d1
    clear d1
    go_enter Try.func132, Try.ntmps132
    simp only [linkC]
    go_wp2_with fail
    refine (between_any _ _ _ _).mono ?_
    rintro e w' ⟨rfl, rfl⟩
    rw [D1.out]
    go_wp2_with fail
    go_ret
    exact ⟨ret_bool (by rw [hok.out, D1.out]; rfl), (Below.refl _ _).alloc (Nat.le_refl _) _⟩
  · have D1 := hid d1
    clear d1
    go_enter Try.func132, Try.ntmps132
    simp only [linkC]
    go_wp2_with fail
    refine (between_any _ _ _ _).mono ?_
    rintro e w' ⟨rfl, rfl⟩
    rw [D1.out]
    go_wp2_with fail
    refine (between_any _ _ _ _).mono ?_
    rintro e w' ⟨rfl, rfl⟩
    go_wp2_with fail
    go_ret
    exact ⟨ret_bool (by rw [hok.out, D1.out]; simp), (Below.refl _ _).alloc (Nat.le_refl _) _⟩

/-- is the first so many all right? -/
def okTo (l : List Link) (k : Nat) : Bool := (l.take k).all Link.ok
theorem okTo_succ (l : List Link) (k : Nat) (h : k < l.length) : okTo l (k + 1) = (okTo l k && (linkAt l k).ok) := by
  unfold okTo linkAt
  have e : l.take (k + 1) = l.take k ++ [l[k]] := List.take_succ_eq_append_getElem h
  rw [e, List.all_append, List.getD_eq_getElem?_getD, List.getElem?_eq_getElem h]
  simp
theorem okTo_no (l : List Link) (k : Nat) (h : okTo l k = false) : l.all Link.ok = false := by
  cases hl : l.all Link.ok
  · rfl
  · unfold okTo at h
    rw [List.all_eq_true] at hl
    rw [List.all_eq_false] at h
    obtain ⟨x, hx, hn⟩ := h
    exact absurd (hl x (List.mem_of_mem_take hx)) hn

set_option maxRecDepth 100000 in
set_option maxHeartbeats 800000 in
theorem indexFunc_any (A : Option Addr) (n c : Nat) (l : List Link) (w : World) (h : Sl w 4 (.slice A n c) (LK l)) :
    Calls Try.prog 138 #[.slice A n c, .func (.func 132) #[] #[]] w
      fun e w' => (∃ r : Int, e = .returned (.int .i64 r) ∧ (decide (0 ≤ r) = !(l.all Link.ok))) ∧ Below w.heap.size w w' := by
  obtain ⟨hl1, hl2, hl3⟩ := h.lenN
  rw [LK_length] at hl1
  have HL := hid (show l.length = n by omega)
  clear hl1
  go_enter Try.func138, Try.ntmps138
  go_wp2_with fail
  go_loopw [8] (fun i wr => ∃ k : Nat, k ≤ n ∧ i = .int .i64 k ∧ okTo l k = true ∧ Below w.heap.size w wr) (fun i _ => n - (intOf i).toNat)
  case atStart => exact ⟨0, Nat.zero_le _, rfl, rfl, Below.refl _ _⟩
  case round =>
    obtain ⟨k, hk, rfl, hok, hbl⟩ := hrel
    have HOK := hid hok
    clear hok
    by_cases hlt : k < n
    · have hr := h.below hbl
      obtain ⟨b, off, rfl, _, c0, c1, c2, c3⟩ := hr.link hlt
      have HS := hid (okTo_succ l k (by have := HL.out; omega))
      go_wp2_with fail
      refine (links1_any (linkAt l k) _).mono ?_
      rintro e w1 ⟨rfl, hb1⟩
      have hbl1 := hbl.trans (hb1.mono hbl.size)
      cases d1 : (linkAt l k).ok
      · have D1 := hid d1
        clear d1
        go_wp2_with fail
        go_ret
        refine ⟨⟨k, rfl, ?_⟩, hbl1⟩
        have := HS.out
        rw [D1.out, Bool.and_false] at this
        rw [okTo_no l (k + 1) this]
        simp
      · have D1 := hid d1
        clear d1
        go_wp2_with fail
        go_light
        refine ⟨⟨k + 1, by omega, by go_num, by rw [HS.out, HOK.out, D1.out]; rfl, hbl1⟩, by simp [intOf]; omega⟩
    · obtain rfl : k = n := by omega
      go_wp2_with fail
      go_ret
      refine ⟨⟨-1, rfl, ?_⟩, hbl⟩
      have := HOK.out
      unfold okTo at this
      rw [List.take_of_length_le (by have := HL.out; omega)] at this
      rw [this]
      rfl

set_option maxRecDepth 100000 in
set_option maxHeartbeats 400000 in
theorem containsFunc_any (A : Option Addr) (n c : Nat) (l : List Link) (w : World) (h : Sl w 4 (.slice A n c) (LK l)) :
    Calls Try.prog 131 #[.slice A n c, .func (.func 132) #[] #[]] w
      fun e w' => e = .returned (.bool (!(l.all Link.ok))) ∧ Below w.heap.size w w' := by
  go_enter Try.func131, Try.ntmps131
  go_wp2_with fail
  refine (indexFunc_any A n c l w h).mono ?_
  rintro e w1 ⟨⟨r, rfl, hr⟩, hb1⟩
  have HR := hid hr
  clear hr
  go_wp2_with fail
  go_ret
  exact ⟨ret_bool HR.out, hb1⟩

set_option maxRecDepth 100000 in
set_option maxHeartbeats 400000 in
theorem links_any (A : Option Addr) (n c : Nat) (l : List Link) (w : World) (h : Sl w 4 (.slice A n c) (LK l)) :
    Calls Try.prog 115 #[.slice A n c] w fun e w' => e = .returned (.bool (linksOk l)) ∧ Below w.heap.size w w' := by
  obtain ⟨hl1, hl2, hl3⟩ := h.lenN
  rw [LK_length] at hl1
  have HL := hid (show l.length = n by omega)
  clear hl1
  by_cases hn : n ≤ 40
  · go_enter Try.func115, Try.ntmps115
    go_wp2_with fail
    refine (containsFunc_any A n c l w h).mono ?_
    rintro e w1 ⟨rfl, hb1⟩
    go_wp2_with fail
    go_ret
    refine ⟨ret_bool ?_, hb1⟩
    unfold linksOk
    rw [HL.out]
    simp [hn]
  · go_enter Try.func115, Try.ntmps115
    go_wp2_with fail
    go_ret
    refine ⟨ret_bool ?_, Below.refl _ _⟩
    unfold linksOk
    rw [HL.out]
    simp [hn]

/-- an Lsa by value -/
abbrev lsaC (L : Lsa) (A1 : Option Addr) (n1 c1 : Nat) (A2 : Option Addr) (n2 c2 : Nat) : Array Value :=
  #[.int .i64 L.age, .int .i64 L.kty, .int .u32 L.kid, .int .u32 L.kadv, .int .i64 L.seq, .slice A1 n1 c1, .int .u32 L.mask, .slice A2 n2 c2, .int .i64 L.cost]
theorem U32_length (l : List Nat) : (U32 l).length = l.length := by simp [U32]

set_option maxRecDepth 100000 in
set_option maxHeartbeats 1600000 in
theorem right_l (L : Lsa) (A1 : Option Addr) (n1 c1 : Nat) (A2 : Option Addr) (n2 c2 : Nat) (w : World) (h1 : Sl w 4 (.slice A1 n1 c1) (LK L.links)) (h2 : Sl w 1 (.slice A2 n2 c2) (U32 L.routers)) :
    Calls Try.prog 101 #[.agg (lsaC L A1 n1 c1 A2 n2 c2)] w fun e w' => e = .returned (.bool L.right) ∧ Below w.heap.size w w' := by
  obtain ⟨hl1, _, hl3⟩ := h1.lenN
  obtain ⟨hm1, _, hm3⟩ := h2.lenN
  rw [LK_length] at hl1
  rw [U32_length] at hm1
  obtain ⟨age, kty, kid, kadv, seq, links, mask, routers, cost⟩ := L
  simp only at h1 h2 hl1 hm1
  obtain rfl : n1 = links.length := by omega
  obtain rfl : n2 = routers.length := by omega
  clear hl1 hm1
  have hR : Hid ((⟨age, kty, kid, kadv, seq, links, mask, routers, cost⟩ : Lsa).right = (decide (0 ≤ age ∧ age ≤ 3600) && decide (-2147483647 ≤ seq ∧ seq ≤ 2147483647) &&
    (if kty = 1 then linksOk links && mask == 0 && routers.length == 0 && cost == 0
     else if kty = 2 then links.length == 0 && decide (1 ≤ routers.length ∧ routers.length ≤ 40) && cost == 0
     else if kty = 3 then links.length == 0 && routers.length == 0 && decide (0 ≤ cost ∧ cost ≤ 16777215)
     else false))) := rfl
  have hb0 : ∀ o, Below w.heap.size w (w.alloc o) := fun o => (Below.refl _ _).alloc (Nat.le_refl _) o
  have HB0 := hid hb0
  clear hb0
  cases d1 : decide (0 ≤ age ∧ age ≤ 3600)
  · have D1 := hid d1
    clear d1
    go_enter Try.func101, Try.ntmps101
    go_wp2_with fail
    refine (between_any _ _ _ _).mono ?_
    rintro e w' ⟨rfl, rfl⟩
    rw [D1.out]
    go_wp2_with fail
    go_ret
    exact ⟨ret_bool (by rw [hR.out, D1.out]; rfl), HB0.out _⟩
  · have D1 := hid d1
    clear d1
    cases d2 : decide (-2147483647 ≤ seq ∧ seq ≤ 2147483647)
    · have D2 := hid d2
      clear d2
      go_enter Try.func101, Try.ntmps101
      go_wp2_with fail
      refine (between_any _ _ _ _).mono ?_
      rintro e w' ⟨rfl, rfl⟩
      rw [D1.out]
      go_wp2_with fail
      refine (between_any _ _ _ _).mono ?_
      rintro e w' ⟨rfl, rfl⟩
      rw [D2.out]
      go_wp2_with fail
      go_ret
      exact ⟨ret_bool (by rw [hR.out, D1.out, D2.out]; rfl), HB0.out _⟩
    · have D2 := hid d2
      clear d2
      go_enter Try.func101, Try.ntmps101
      go_wp2_with fail
      refine (between_any _ _ _ _).mono ?_
      rintro e w' ⟨rfl, rfl⟩
      rw [D1.out]
      go_wp2_with fail
      refine (between_any _ _ _ _).mono ?_
      rintro e w' ⟨rfl, rfl⟩
      rw [D2.out]
      by_cases k1 : kty = 1
      · subst k1
        go_wp2_with fail
        refine (links_any _ _ _ links _ (h1.below (HB0.out _))).mono ?_
        rintro e w1 ⟨rfl, hb1⟩
        have hbk : ∀ i, w1.cell? ⟨w.heap.size, i, none⟩ = _ := fun i => hb1.cell (p := ⟨w.heap.size, i, none⟩) (by simp)
        have hbb := (HB0.out _).trans (hb1.mono (by simp))
        cases d3 : linksOk links
        · have D3 := hid d3
          clear d3
          go_wp2_with fail
          go_ret
          exact ⟨ret_bool (by rw [hR.out, D1.out, D2.out]; simp [D3.out]), hbb⟩
        · have D3 := hid d3
          clear d3
          go_wp2_with fail
          all_goals go_light
          all_goals go_ret
          all_goals refine ⟨ret_bool ?_, hbb⟩
          all_goals rw [hR.out, D1.out, D2.out]
          all_goals have D3' := D3.out
          all_goals clear D1 D2 D3 hR hbk hb1 HB0 h1 h2
          all_goals (first | (simp_all [beq0]; done) | (simp_all [beq0]; omega))
      · by_cases k2 : kty = 2
        · subst k2
          clear k1
          go_wp2_with (go_at_call 114; refine (between_any _ _ _ _).mono ?_; rintro e w' ⟨rfl, rfl⟩)
          all_goals go_light
          all_goals go_ret
          all_goals refine ⟨ret_bool ?_, HB0.out _⟩
          all_goals rw [hR.out, D1.out, D2.out]
          all_goals clear D1 D2 hR HB0 h1 h2
          all_goals (first | (simp_all [beq0]; done) | (simp_all [beq0]; omega))
        · by_cases k3 : kty = 3
          · subst k3
            clear k1 k2
            go_wp2_with (go_at_call 114; refine (between_any _ _ _ _).mono ?_; rintro e w' ⟨rfl, rfl⟩)
            all_goals go_light
            all_goals go_ret
            all_goals refine ⟨ret_bool ?_, HB0.out _⟩
            all_goals rw [hR.out, D1.out, D2.out]
            all_goals clear D1 D2 hR HB0 h1 h2
            all_goals (first | (simp_all [beq0]; done) | (simp_all [beq0]; omega))
          · go_wp2_with fail
            go_ret
            refine ⟨ret_bool ?_, HB0.out _⟩
            rw [hR.out, D1.out, D2.out]
            simp [k1, k2, k3]


set_option maxRecDepth 100000 in
set_option maxHeartbeats 1600000 in
theorem refRight_l (L : Lsa) (A1 : Option Addr) (n1 c1 : Nat) (A2 : Option Addr) (n2 c2 : Nat) (w : World) (h1 : Sl w 4 (.slice A1 n1 c1) (LK L.links)) (h2 : Sl w 1 (.slice A2 n2 c2) (U32 L.routers)) :
    Calls Try.prog 60 #[.agg (lsaC L A1 n1 c1 A2 n2 c2)] w fun e w' => e = .returned (.bool L.right) ∧ Below w.heap.size w w' := by
  obtain ⟨hl1, _, hl3⟩ := h1.lenN
  obtain ⟨hm1, _, hm3⟩ := h2.lenN
  rw [LK_length] at hl1
  rw [U32_length] at hm1
  obtain ⟨age, kty, kid, kadv, seq, links, mask, routers, cost⟩ := L
  simp only at h1 h2 hl1 hm1
  obtain rfl : n1 = links.length := by omega
  obtain rfl : n2 = routers.length := by omega
  clear hl1 hm1
  obtain ⟨r, hr⟩ : ∃ r, (⟨age, kty, kid, kadv, seq, links, mask, routers, cost⟩ : Lsa).right = r := ⟨_, rfl⟩
  rw [hr]
  have hR : Hid (r = (decide (0 ≤ age ∧ age ≤ 3600) && decide (-2147483647 ≤ seq ∧ seq ≤ 2147483647) &&
    (if kty = 1 then linksOk links && mask == 0 && routers.length == 0 && cost == 0
     else if kty = 2 then links.length == 0 && decide (1 ≤ routers.length ∧ routers.length ≤ 40) && cost == 0
     else if kty = 3 then links.length == 0 && routers.length == 0 && decide (0 ≤ cost ∧ cost ≤ 16777215)
     else false))) := hr.symm
  clear hr
  have hb0 : ∀ o, Below w.heap.size w (w.alloc o) := fun o => (Below.refl _ _).alloc (Nat.le_refl _) o
  have HB0 := hid hb0
  clear hb0
  by_cases hin : (0 ≤ age ∧ age ≤ 3600) ∧ (-2147483647 ≤ seq ∧ seq ≤ 2147483647)
  · have hR2 : Hid ((decide (0 ≤ age ∧ age ≤ 3600) && decide (-2147483647 ≤ seq ∧ seq ≤ 2147483647)) = true) := by show _ = _; simp [hin]
    obtain ⟨⟨p1, p2⟩, p3, p4⟩ := hin
    by_cases k1 : kty = 1
    · subst k1
      go_enter Try.func60, Try.ntmps60
      go_wp2_with fail
      go_loop [3] (fun i => ∃ k : Nat, k ≤ links.length ∧ i = .int .i64 k ∧ okTo links k = true) (fun i => links.length - (intOf i).toNat)
      case atStart => exact ⟨0, Nat.zero_le _, rfl, rfl⟩
      case round =>
        obtain ⟨k, hk, rfl, hok⟩ := hrel
        have HOK := hid hok
        clear hok
        by_cases hlt : k < links.length
        · have hr := h1.below (HB0.out (.cells (lsaC ⟨age, 1, kid, kadv, seq, links, mask, routers, cost⟩ A1 links.length c1 A2 routers.length c2) 77))
          obtain ⟨b, off, rfl, hbl, c0, c1_, c2_, c3⟩ := hr.link hlt
          have HS := hid (okTo_succ links k hlt)
          have HD : Hid ((linkAt links k).ok = (decide (1 ≤ (linkAt links k).ty ∧ (linkAt links k).ty ≤ 4) && decide (0 ≤ (linkAt links k).cost ∧ (linkAt links k).cost ≤ 65535))) := rfl
          by_cases hlo : (1 ≤ (linkAt links k).ty ∧ (linkAt links k).ty ≤ 4) ∧ (0 ≤ (linkAt links k).cost ∧ (linkAt links k).cost ≤ 65535)
          · have HL : Hid ((linkAt links k).ok = true) := by show _ = _; rw [HD.out]; simp [hlo]
            obtain ⟨⟨q1, q2⟩, q3, q4⟩ := hlo
            have r1 : decide ((linkAt links k).ty < 1) = false := by simp; omega
            have r2 : decide (4 < (linkAt links k).ty) = false := by simp; omega
            have r3 : decide ((linkAt links k).cost < 0) = false := by simp; omega
            have r4 : decide (65535 < (linkAt links k).cost) = false := by simp; omega
            go_wp2_with fail
            go_light
            refine ⟨⟨k + 1, by omega, by go_num, by rw [HS.out, HOK.out, HL.out]; rfl⟩, by simp [intOf]; omega⟩
          · have HL : Hid ((linkAt links k).ok = false) := by
              show _ = _
              rw [HD.out, Bool.eq_false_iff]
              simp only [ne_eq, Bool.and_eq_true, decide_eq_true_eq]
              exact hlo
            have HF : Hid (linksOk links = false) := by
              have := HS.out
              rw [HL.out, Bool.and_false] at this
              show _ = _
              unfold linksOk
              rw [okTo_no links (k + 1) this, Bool.and_false]
            have hor : ((decide ((linkAt links k).ty < 1) || decide (4 < (linkAt links k).ty)) || decide ((linkAt links k).cost < 0)) || decide (65535 < (linkAt links k).cost) := by
              simp; omega
            go_wp2_with fail
            all_goals go_light
            all_goals (first | (exfalso; simp at *; omega) | skip)
            all_goals go_ret
            all_goals refine ⟨ret_bool ?_, HB0.out _⟩
            all_goals (rw [hR.out, hR2.out]; simp [HF.out])
        · obtain rfl : k = links.length := by omega
          have HLO : Hid (linksOk links = decide (links.length ≤ 40)) := by
            have := HOK.out
            unfold okTo at this
            rw [List.take_of_length_le (by omega)] at this
            show _ = _
            unfold linksOk
            rw [this, Bool.and_true]
          go_wp2_with fail
          all_goals go_light
          all_goals go_ret
          all_goals refine ⟨ret_bool ?_, HB0.out _⟩
          all_goals rw [hR.out, hR2.out]
          all_goals have HLO' := HLO.out
          all_goals clear HLO hR hR2 HB0 h1 h2
          all_goals (first | (simp_all [beq0]; done) | (simp_all [beq0]; omega))
    · by_cases k2 : kty = 2
      · subst k2
        clear k1
        go_enter Try.func60, Try.ntmps60
        go_wp2_with fail
        all_goals go_light
        all_goals go_ret
        all_goals refine ⟨ret_bool ?_, HB0.out _⟩
        all_goals rw [hR.out, hR2.out]
        all_goals clear hR hR2 HB0 h1 h2
        all_goals (first | (simp_all [beq0]; done) | (simp_all [beq0]; omega))
      · by_cases k3 : kty = 3
        · subst k3
          clear k1 k2
          go_enter Try.func60, Try.ntmps60
          go_wp2_with fail
          all_goals go_light
          all_goals go_ret
          all_goals refine ⟨ret_bool ?_, HB0.out _⟩
          all_goals rw [hR.out, hR2.out]
          all_goals clear hR hR2 HB0 h1 h2
          all_goals (first | (simp_all [beq0]; done) | (simp_all [beq0]; omega))
        · go_enter Try.func60, Try.ntmps60
          go_wp2_with fail
          all_goals go_light
          all_goals go_ret
          all_goals refine ⟨ret_bool ?_, HB0.out _⟩
          all_goals (rw [hR.out, hR2.out]; simp [k1, k2, k3])
  · have hR2 : Hid ((decide (0 ≤ age ∧ age ≤ 3600) && decide (-2147483647 ≤ seq ∧ seq ≤ 2147483647)) = false) := by
      show _ = _
      rw [Bool.eq_false_iff]
      simp only [ne_eq, Bool.and_eq_true, decide_eq_true_eq]
      exact hin
    have hor : ((decide (age < 0) || decide (3600 < age)) || decide (seq < -2147483647)) || decide (2147483647 < seq) := by
      simp; omega
    go_enter Try.func60, Try.ntmps60
    go_wp2_with fail
    all_goals go_light
    all_goals (first | (exfalso; simp at *; omega) | skip)
    all_goals go_ret
    all_goals refine ⟨ret_bool ?_, HB0.out _⟩
    all_goals (rw [hR.out, hR2.out]; rfl)
end Go.Proofs.Ytgopkpogakjckaa
