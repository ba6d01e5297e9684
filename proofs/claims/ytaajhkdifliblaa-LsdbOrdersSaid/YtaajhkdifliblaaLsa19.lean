/-
  Contracts: slices.Equal at links and at numbers; lsa.Alike.
-/
import Derived.Test.YtaajhkdifliblaaLsa16
namespace Go.Proofs.Ytaajhkdifliblaa
set_option linter.unusedVariables false
set_option linter.unusedSimpArgs false
open Go Go.RowKit SM LM

theorem list_eq_of_links {l l' : List Link} {n : Nat} (h : l.length = n) (h' : l'.length = n) (hj : ∀ j, j < n → linkAt l j = linkAt l' j) : l = l' := by
  refine List.ext_getElem? fun j => ?_
  by_cases hjn : j < n
  · have := hj j hjn
    unfold linkAt at this
    rw [List.getD_eq_getElem?_getD, List.getD_eq_getElem?_getD, List.getElem?_eq_getElem (by omega), List.getElem?_eq_getElem (by omega)] at this
    rw [List.getElem?_eq_getElem (by omega), List.getElem?_eq_getElem (by omega)]
    exact congrArg some this
  · rw [List.getElem?_eq_none (by omega), List.getElem?_eq_none (by omega)]
theorem list_eq_of_nats {l l' : List Nat} {n : Nat} (h : l.length = n) (h' : l'.length = n) (hj : ∀ j, j < n → natAt l j = natAt l' j) : l = l' := by
  refine List.ext_getElem? fun j => ?_
  by_cases hjn : j < n
  · have := hj j hjn
    unfold natAt at this
    rw [List.getD_eq_getElem?_getD, List.getD_eq_getElem?_getD, List.getElem?_eq_getElem (by omega), List.getElem?_eq_getElem (by omega)] at this
    rw [List.getElem?_eq_getElem (by omega), List.getElem?_eq_getElem (by omega)]
    exact congrArg some this
  · rw [List.getElem?_eq_none (by omega), List.getElem?_eq_none (by omega)]
set_option maxRecDepth 100000 in
set_option maxHeartbeats 1600000 in
theorem equalLinks_any (A1 : Option Addr) (n1 c1 : Nat) (A2 : Option Addr) (n2 c2 : Nat) (l1 l2 : List Link) (w : World) (h1 : Sl w 4 (.slice A1 n1 c1) (LK l1)) (h2 : Sl w 4 (.slice A2 n2 c2) (LK l2)) :
    Calls Try.prog 81 #[.slice A1 n1 c1, .slice A2 n2 c2] w fun e w' => e = .returned (.bool (decide (l1 = l2))) ∧ Below w.heap.size w w' := by
  have e1 := h1.lenN
  have e2 := h2.lenN
  rw [LK_length] at e1 e2
  have LL1 : Hid (l1.length = n1) := by show _ = _; omega
  have LL2 : Hid (l2.length = n2) := by show _ = _; omega
  have hn1 : n1 ≤ 9223372036854775807 := by omega
  have hn2 : n2 ≤ 9223372036854775807 := by omega
  clear e1 e2
  have hbb := Below.refl w.heap.size w
  by_cases hn : n1 = n2
  · subst hn
    go_enter Try.func81, Try.ntmps81
    go_wp2_with fail
    go_loopw [13] (fun i wr => ∃ (k q : Nat), k ≤ n1 ∧ i = .int .i64 k ∧ wr = w.drewN q ∧ Hid (∀ j, j < k → linkAt l1 j = linkAt l2 j)) (fun i _ => n1 - (intOf i).toNat)
    case atStart => exact ⟨0, 0, Nat.zero_le _, rfl, rfl, fun j hj => by omega⟩
    case round =>
      obtain ⟨k, q, hk, rfl, rfl, HJ⟩ := hrel
      by_cases hlt : k < n1
      · obtain ⟨b, off, rfl, hbl, q0, q1, q2, q3⟩ := h1.link hlt
        obtain ⟨b', off', rfl, hbl', r0, r1, r2, r3⟩ := h2.link hlt
        by_cases hX : linkAt l1 k = linkAt l2 k
        · have HX := hid hX
          rw [← hX] at r0 r1 r2 r3
          clear hX
          generalize hGX : linkAt l1 k = X at *
          have HGX := hid hGX
          clear hGX
          go_wp2_with fail
          go_quiet (fail)
          go_wp2_with fail
          refine ⟨⟨k + 1, q + nq, by omega, by go_num, rfl, fun j hj => ?_⟩, by simp [intOf]; omega⟩
          by_cases e : j = k
          · subst e; exact HGX.out.trans HX.out
          · exact HJ.out j (by omega)
        · have HNE : Hid (l1 ≠ l2) := fun e => hX (by rw [e])
          generalize linkAt l1 k = X at *
          generalize linkAt l2 k = Y at *
          obtain ⟨x1, x2, x3, x4⟩ := X
          obtain ⟨y1, y2, y3, y4⟩ := Y
          simp only at q0 q1 q2 q3 r0 r1 r2 r3
          by_cases e1 : x1 = y1
          · subst e1
            by_cases e2 : x2 = y2
            · subst e2
              by_cases e3 : x3 = y3
              · subst e3
                have e4 : x4 ≠ y4 := fun e => hX (by rw [e])
                clear hX
                have t4 : (x4 == y4) = false := by simpa using e4
                go_wp2_with fail
                go_quiet (fail)
                go_wp2_with fail
                go_ret
                refine ⟨ret_bool ?_, by (repeat (first | with_reducible exact Below.refl _ _ | with_reducible assumption | with_reducible refine Below.drew ?_ | with_reducible refine below_drewN ?_ _ | (with_reducible refine Below.alloc ?_ ?_ _; rotate_left; · (first | (simp; done) | omega | (simp at *; omega))) | (with_reducible refine Below.setCell ?_ ?_ _; rotate_left; · (first | (simp only []; omega) | (simp; done) | (simp; omega))) | with_reducible refine Below.trans ?_ (by with_reducible assumption)))⟩
                symm
                rw [decide_eq_false_iff_not]
                exact HNE.out
              · clear hX
                have t3 : (x3 == y3) = false := by simpa using e3
                go_wp2_with fail
                go_quiet (fail)
                go_wp2_with fail
                go_ret
                refine ⟨ret_bool ?_, by (repeat (first | with_reducible exact Below.refl _ _ | with_reducible assumption | with_reducible refine Below.drew ?_ | with_reducible refine below_drewN ?_ _ | (with_reducible refine Below.alloc ?_ ?_ _; rotate_left; · (first | (simp; done) | omega | (simp at *; omega))) | (with_reducible refine Below.setCell ?_ ?_ _; rotate_left; · (first | (simp only []; omega) | (simp; done) | (simp; omega))) | with_reducible refine Below.trans ?_ (by with_reducible assumption)))⟩
                symm
                rw [decide_eq_false_iff_not]
                exact HNE.out
            · clear hX
              have t2 : ((x2 : Int) == (y2 : Int)) = false := by rw [beq_eq_false_iff_ne]; omega
              go_wp2_with fail
              go_quiet (fail)
              go_wp2_with fail
              go_ret
              refine ⟨ret_bool ?_, by (repeat (first | with_reducible exact Below.refl _ _ | with_reducible assumption | with_reducible refine Below.drew ?_ | with_reducible refine below_drewN ?_ _ | (with_reducible refine Below.alloc ?_ ?_ _; rotate_left; · (first | (simp; done) | omega | (simp at *; omega))) | (with_reducible refine Below.setCell ?_ ?_ _; rotate_left; · (first | (simp only []; omega) | (simp; done) | (simp; omega))) | with_reducible refine Below.trans ?_ (by with_reducible assumption)))⟩
              symm
              rw [decide_eq_false_iff_not]
              exact HNE.out
          · clear hX
            have t1 : ((x1 : Int) == (y1 : Int)) = false := by rw [beq_eq_false_iff_ne]; omega
            go_wp2_with fail
            go_quiet (fail)
            go_wp2_with fail
            go_ret
            refine ⟨ret_bool ?_, by (repeat (first | with_reducible exact Below.refl _ _ | with_reducible assumption | with_reducible refine Below.drew ?_ | with_reducible refine below_drewN ?_ _ | (with_reducible refine Below.alloc ?_ ?_ _; rotate_left; · (first | (simp; done) | omega | (simp at *; omega))) | (with_reducible refine Below.setCell ?_ ?_ _; rotate_left; · (first | (simp only []; omega) | (simp; done) | (simp; omega))) | with_reducible refine Below.trans ?_ (by with_reducible assumption)))⟩
            symm
            rw [decide_eq_false_iff_not]
            exact HNE.out
      · obtain rfl : k = n1 := by omega
        have hll : Hid (l1 = l2) := list_eq_of_links LL1.out LL2.out HJ.out
        go_wp2_with fail
        go_ret
        refine ⟨ret_bool ?_, by (repeat (first | with_reducible exact Below.refl _ _ | with_reducible assumption | with_reducible refine Below.drew ?_ | with_reducible refine below_drewN ?_ _ | (with_reducible refine Below.alloc ?_ ?_ _; rotate_left; · (first | (simp; done) | omega | (simp at *; omega))) | (with_reducible refine Below.setCell ?_ ?_ _; rotate_left; · (first | (simp only []; omega) | (simp; done) | (simp; omega))) | with_reducible refine Below.trans ?_ (by with_reducible assumption)))⟩
        symm
        rw [decide_eq_true_iff]
        exact hll.out
  · have HNE : Hid (¬ l1 = l2) := fun e => hn (by rw [← LL1.out, ← LL2.out, e])
    have t : ((n1 : Int) != (n2 : Int)) = true := by rw [bne_iff_ne]; omega
    clear hn
    go_enter Try.func81, Try.ntmps81
    go_wp2_with fail
    go_ret
    refine ⟨ret_bool ?_, by (repeat (first | with_reducible exact Below.refl _ _ | with_reducible assumption | with_reducible refine Below.drew ?_ | with_reducible refine below_drewN ?_ _ | (with_reducible refine Below.alloc ?_ ?_ _; rotate_left; · (first | (simp; done) | omega | (simp at *; omega))) | (with_reducible refine Below.setCell ?_ ?_ _; rotate_left; · (first | (simp only []; omega) | (simp; done) | (simp; omega))) | with_reducible refine Below.trans ?_ (by with_reducible assumption)))⟩
    symm
    rw [decide_eq_false_iff_not]
    exact HNE.out
set_option maxRecDepth 100000 in
set_option maxHeartbeats 1600000 in
theorem equalNats_any (A1 : Option Addr) (n1 c1 : Nat) (A2 : Option Addr) (n2 c2 : Nat) (l1 l2 : List Nat) (w : World) (h1 : Sl w 1 (.slice A1 n1 c1) (U32 l1)) (h2 : Sl w 1 (.slice A2 n2 c2) (U32 l2)) :
    Calls Try.prog 82 #[.slice A1 n1 c1, .slice A2 n2 c2] w fun e w' => e = .returned (.bool (decide (l1 = l2))) ∧ Below w.heap.size w w' := by
  have e1 := h1.lenN
  have e2 := h2.lenN
  rw [U32_length] at e1 e2
  have LL1 : Hid (l1.length = n1) := by show _ = _; omega
  have LL2 : Hid (l2.length = n2) := by show _ = _; omega
  have hn1 : n1 ≤ 9223372036854775807 := by omega
  have hn2 : n2 ≤ 9223372036854775807 := by omega
  clear e1 e2
  have hbb := Below.refl w.heap.size w
  by_cases hn : n1 = n2
  · subst hn
    go_enter Try.func82, Try.ntmps82
    go_wp2_with fail
    go_loopw [13] (fun i wr => ∃ (k q : Nat), k ≤ n1 ∧ i = .int .i64 k ∧ wr = w.drewN q ∧ Hid (∀ j, j < k → natAt l1 j = natAt l2 j)) (fun i _ => n1 - (intOf i).toNat)
    case atStart => exact ⟨0, 0, Nat.zero_le _, rfl, rfl, fun j hj => by omega⟩
    case round =>
      obtain ⟨k, q, hk, rfl, rfl, HJ⟩ := hrel
      by_cases hlt : k < n1
      · obtain ⟨b, off, rfl, hbl, q0⟩ := h1.u32 hlt
        obtain ⟨b', off', rfl, hbl', r0⟩ := h2.u32 hlt
        by_cases hX : natAt l1 k = natAt l2 k
        · have HX := hid hX
          rw [← hX] at r0
          clear hX
          generalize hGX : natAt l1 k = X at *
          have HGX := hid hGX
          clear hGX
          go_wp2_with fail
          go_quiet (fail)
          go_wp2_with fail
          refine ⟨⟨k + 1, q + nq, by omega, by go_num, rfl, fun j hj => ?_⟩, by simp [intOf]; omega⟩
          by_cases e : j = k
          · subst e; exact HGX.out.trans HX.out
          · exact HJ.out j (by omega)
        · have HNE : Hid (l1 ≠ l2) := fun e => hX (by rw [e])
          generalize natAt l1 k = X at *
          generalize natAt l2 k = Y at *
          have t1 : ((X : Int) == (Y : Int)) = false := by rw [beq_eq_false_iff_ne]; omega
          clear hX
          go_wp2_with fail
          go_quiet (fail)
          go_wp2_with fail
          go_ret
          refine ⟨ret_bool ?_, by (repeat (first | with_reducible exact Below.refl _ _ | with_reducible assumption | with_reducible refine Below.drew ?_ | with_reducible refine below_drewN ?_ _ | (with_reducible refine Below.alloc ?_ ?_ _; rotate_left; · (first | (simp; done) | omega | (simp at *; omega))) | (with_reducible refine Below.setCell ?_ ?_ _; rotate_left; · (first | (simp only []; omega) | (simp; done) | (simp; omega))) | with_reducible refine Below.trans ?_ (by with_reducible assumption)))⟩
          symm
          rw [decide_eq_false_iff_not]
          exact HNE.out
      · obtain rfl : k = n1 := by omega
        have hll : Hid (l1 = l2) := list_eq_of_nats LL1.out LL2.out HJ.out
        go_wp2_with fail
        go_ret
        refine ⟨ret_bool ?_, by (repeat (first | with_reducible exact Below.refl _ _ | with_reducible assumption | with_reducible refine Below.drew ?_ | with_reducible refine below_drewN ?_ _ | (with_reducible refine Below.alloc ?_ ?_ _; rotate_left; · (first | (simp; done) | omega | (simp at *; omega))) | (with_reducible refine Below.setCell ?_ ?_ _; rotate_left; · (first | (simp only []; omega) | (simp; done) | (simp; omega))) | with_reducible refine Below.trans ?_ (by with_reducible assumption)))⟩
        symm
        rw [decide_eq_true_iff]
        exact hll.out
  · have HNE : Hid (¬ l1 = l2) := fun e => hn (by rw [← LL1.out, ← LL2.out, e])
    have t : ((n1 : Int) != (n2 : Int)) = true := by rw [bne_iff_ne]; omega
    clear hn
    go_enter Try.func82, Try.ntmps82
    go_wp2_with fail
    go_ret
    refine ⟨ret_bool ?_, by (repeat (first | with_reducible exact Below.refl _ _ | with_reducible assumption | with_reducible refine Below.drew ?_ | with_reducible refine below_drewN ?_ _ | (with_reducible refine Below.alloc ?_ ?_ _; rotate_left; · (first | (simp; done) | omega | (simp at *; omega))) | (with_reducible refine Below.setCell ?_ ?_ _; rotate_left; · (first | (simp only []; omega) | (simp; done) | (simp; omega))) | with_reducible refine Below.trans ?_ (by with_reducible assumption)))⟩
    symm
    rw [decide_eq_false_iff_not]
    exact HNE.out

set_option maxRecDepth 100000 in
set_option maxHeartbeats 1600000 in
theorem alike_diff (a b : Lsa) (A1 : Option Addr) (n1 c1 : Nat) (A2 : Option Addr) (n2 c2 : Nat) (B1 : Option Addr) (m1 d1 : Nat) (B2 : Option Addr) (m2 d2 : Nat) (w : World)
    (hd : ¬ (a.kty = b.kty ∧ a.kid = b.kid ∧ a.kadv = b.kadv ∧ a.mask = b.mask ∧ a.cost = b.cost)) :
    Calls Try.prog 52 #[.agg (lsaC a A1 n1 c1 A2 n2 c2), .agg (lsaC b B1 m1 d1 B2 m2 d2)] w fun e w' => e = .returned (.bool (decide (tells a b))) ∧ Below w.heap.size w w' := by
  have ht : Hid (decide (tells a b) = false) := by
    show _ = _
    rw [decide_eq_false_iff_not]
    rintro ⟨e1, e2, e3, e4, e5, e6, e7⟩
    exact hd ⟨e1, e2, e3, e4, e5⟩
  have HD := hid hd
  clear hd
  go_enter Try.func52, Try.ntmps52
  go_wp2_with fail
  all_goals first
    | (go_ret; refine ⟨ret_bool ht.out.symm, ?_⟩; (repeat (first | with_reducible exact Below.refl _ _ | with_reducible assumption | with_reducible refine Below.drew ?_ | with_reducible refine below_drewN ?_ _ | (with_reducible refine Below.alloc ?_ ?_ _; rotate_left; · (first | (simp; done) | omega | (simp at *; omega))) | (with_reducible refine Below.setCell ?_ ?_ _; rotate_left; · (first | (simp only []; omega) | (simp; done) | (simp; omega))) | with_reducible refine Below.trans ?_ (by with_reducible assumption))))
    | (exfalso; refine HD.out ⟨by assumption, by omega, by omega, by omega, ?_⟩; first | assumption | (simp only [beq_iff_eq] at *; assumption))
set_option maxRecDepth 100000 in
set_option maxHeartbeats 1600000 in
theorem alike_same (age kty kid kadv seq links mask routers cost age' seq' links' routers') (A1 : Option Addr) (n1 c1 : Nat) (A2 : Option Addr) (n2 c2 : Nat) (B1 : Option Addr) (m1 d1 : Nat) (B2 : Option Addr) (m2 d2 : Nat) (w : World)
    (ha : IsLsa w ⟨age, kty, kid, kadv, seq, links, mask, routers, cost⟩ A1 n1 c1 A2 n2 c2) (hb : IsLsa w ⟨age', kty, kid, kadv, seq', links', mask, routers', cost⟩ B1 m1 d1 B2 m2 d2) :
    Calls Try.prog 52 #[.agg (lsaC ⟨age, kty, kid, kadv, seq, links, mask, routers, cost⟩ A1 n1 c1 A2 n2 c2), .agg (lsaC ⟨age', kty, kid, kadv, seq', links', mask, routers', cost⟩ B1 m1 d1 B2 m2 d2)] w fun e w' =>
      e = .returned (.bool (decide (links = links' ∧ routers = routers'))) ∧ Below w.heap.size w w' := by
  have hbb : Below w.heap.size w ((w.alloc (.cells (lsaC ⟨age, kty, kid, kadv, seq, links, mask, routers, cost⟩ A1 n1 c1 A2 n2 c2) 80)).alloc (.cells (lsaC ⟨age', kty, kid, kadv, seq', links', mask, routers', cost⟩ B1 m1 d1 B2 m2 d2) 80)) := ((Below.refl w.heap.size w).alloc (Nat.le_refl _) _).alloc (by simp) _
  have HBB := hid hbb
  have hA1 := ha.links.below hbb
  have hA2 := ha.routers.below hbb
  have hB1 := hb.links.below hbb
  have hB2 := hb.routers.below hbb
  have hb0 := blk_alloc (heap_alloc_new w (.cells (lsaC ⟨age, kty, kid, kadv, seq, links, mask, routers, cost⟩ A1 n1 c1 A2 n2 c2) 80)) (.cells (lsaC ⟨age', kty, kid, kadv, seq', links', mask, routers', cost⟩ B1 m1 d1 B2 m2 d2) 80)
  have hb1 := heap_alloc_new (w.alloc (.cells (lsaC ⟨age, kty, kid, kadv, seq, links, mask, routers, cost⟩ A1 n1 c1 A2 n2 c2) 80)) (.cells (lsaC ⟨age', kty, kid, kadv, seq', links', mask, routers', cost⟩ B1 m1 d1 B2 m2 d2) 80)
  rw [show (w.alloc (.cells (lsaC ⟨age, kty, kid, kadv, seq, links, mask, routers, cost⟩ A1 n1 c1 A2 n2 c2) 80)).heap.size = w.heap.size + 1 by simp] at hb1
  have HB0 := hid hb0
  have HB1 := hid hb1
  simp only at hA1 hA2 hB1 hB2
  clear ha hb hbb hb0 hb1
  go_enter Try.func52, Try.ntmps52
  go_wp2_with fail
  refine (equalLinks_any A1 n1 c1 B1 m1 d1 links links' _ hA1 hB1).mono ?_
  rintro e w2 ⟨rfl, hb2⟩
  obtain ⟨ca, _⟩ := blk_cells (blk_below HB0.out hb2 (by simp; omega))
  obtain ⟨cb, _⟩ := blk_cells (blk_below HB1.out hb2 (by simp))
  have hbb2 := HBB.out.trans (hb2.mono (by simp; omega))
  replace hA2 := hA2.below hb2
  replace hB2 := hB2.below hb2
  clear hb2 hA1 hB1
  by_cases hl : links = links'
  · have td : Hid (decide (links = links') = true) := by show _ = _; rw [decide_eq_true_iff]; exact hl
    have HL := hid hl
    clear hl
    rw [td.out]
    go_wp2_with fail
    refine (equalNats_any A2 n2 c2 B2 m2 d2 routers routers' w2 hA2 hB2).mono ?_
    rintro e w3 ⟨rfl, hb3⟩
    have hbb3 := hbb2.trans (hb3.mono hbb2.size)
    clear ca cb hb3
    go_wp2_with fail
    go_ret
    refine ⟨ret_bool ?_, hbb3⟩
    rw [decide_eq_decide]
    exact ⟨fun h => ⟨HL.out, h⟩, fun h => h.2⟩
  · have td : Hid (decide (links = links') = false) := by show _ = _; rw [decide_eq_false_iff_not]; exact hl
    have HL := hid hl
    clear hl
    rw [td.out]
    go_wp2_with fail
    go_ret
    refine ⟨ret_bool ?_, hbb2⟩
    symm
    rw [decide_eq_false_iff_not]
    exact fun h => HL.out h.1
/-- **lsa.Alike** -/
theorem alike_any (a b : Lsa) (A1 : Option Addr) (n1 c1 : Nat) (A2 : Option Addr) (n2 c2 : Nat) (B1 : Option Addr) (m1 d1 : Nat) (B2 : Option Addr) (m2 d2 : Nat) (w : World) (ha : IsLsa w a A1 n1 c1 A2 n2 c2) (hb : IsLsa w b B1 m1 d1 B2 m2 d2) :
    Calls Try.prog 52 #[.agg (lsaC a A1 n1 c1 A2 n2 c2), .agg (lsaC b B1 m1 d1 B2 m2 d2)] w fun e w' => e = .returned (.bool (decide (tells a b))) ∧ Below w.heap.size w w' := by
  by_cases h : a.kty = b.kty ∧ a.kid = b.kid ∧ a.kadv = b.kadv ∧ a.mask = b.mask ∧ a.cost = b.cost
  · obtain ⟨age, kty, kid, kadv, seq, links, mask, routers, cost⟩ := a
    obtain ⟨age', kty', kid', kadv', seq', links', mask', routers', cost'⟩ := b
    obtain ⟨h1, h2, h3, h4, h5⟩ := h
    simp only at h1 h2 h3 h4 h5
    subst h1; subst h2; subst h3; subst h4; subst h5
    refine (alike_same age kty kid kadv seq links mask routers cost age' seq' links' routers' A1 n1 c1 A2 n2 c2 B1 m1 d1 B2 m2 d2 w ha hb).mono ?_
    rintro e w' ⟨rfl, hbw⟩
    refine ⟨ret_bool ?_, hbw⟩
    rw [decide_eq_decide]
    unfold tells
    simp
  · exact alike_diff a b A1 n1 c1 A2 n2 c2 B1 m1 d1 B2 m2 d2 w h
end Go.Proofs.Ytaajhkdifliblaa
