/-
  Contracts: the reference's Alike and Same; back.
-/
import Derived.Test.YtgopkpogakjckaaLsa10
namespace Go.Proofs.Ytgopkpogakjckaa
set_option linter.unusedVariables false
set_option linter.unusedSimpArgs false
open Go Go.RowKit SM LM

instance linkDec : DecidableEq Link := fun a b =>
  if h : a.id = b.id ∧ a.data = b.data ∧ a.ty = b.ty ∧ a.cost = b.cost then isTrue (by cases a; cases b; simp_all) else isFalse (by rintro rfl; exact h ⟨rfl, rfl, rfl, rfl⟩)
/-- do two tell the same? -/
def tells (a b : Lsa) : Prop := a.kty = b.kty ∧ a.kid = b.kid ∧ a.kadv = b.kadv ∧ a.mask = b.mask ∧ a.cost = b.cost ∧ a.links = b.links ∧ a.routers = b.routers
instance tellsDec (a b : Lsa) : Decidable (tells a b) := by unfold tells; infer_instance
def keyEq (a b : Lsa) : Bool := decide (a.kty = b.kty) && decide (a.kid = b.kid) && decide (a.kadv = b.kadv)

set_option maxRecDepth 100000 in
set_option maxHeartbeats 1600000 in
theorem refAlike_diff (a b : Lsa) (A1 : Option Addr) (n1 c1 : Nat) (A2 : Option Addr) (n2 c2 : Nat) (B1 : Option Addr) (m1 d1 : Nat) (B2 : Option Addr) (m2 d2 : Nat) (w : World) (ha : IsLsa w a A1 n1 c1 A2 n2 c2) (hb : IsLsa w b B1 m1 d1 B2 m2 d2)
    (hd : ¬ (a.kty = b.kty ∧ a.kid = b.kid ∧ a.kadv = b.kadv ∧ a.mask = b.mask ∧ a.cost = b.cost ∧ n1 = m1 ∧ n2 = m2)) :
    Calls Try.prog 86 #[.agg (lsaC a A1 n1 c1 A2 n2 c2), .agg (lsaC b B1 m1 d1 B2 m2 d2)] w fun e w' => e = .returned (.bool (decide (tells a b))) ∧ Below w.heap.size w w' := by
  have ht : Hid (decide (tells a b) = false) := by
    show _ = _
    rw [decide_eq_false_iff_not]
    rintro ⟨e1, e2, e3, e4, e5, e6, e7⟩
    refine hd ⟨e1, e2, e3, e4, e5, ?_, ?_⟩
    · have h1 := ha.links.lenN.1; have h2 := hb.links.lenN.1; rw [LK_length] at h1 h2; rw [e6] at h1; omega
    · have h1 := ha.routers.lenN.1; have h2 := hb.routers.lenN.1; rw [U32_length] at h1 h2; rw [e7] at h1; omega
  have HD := hid hd
  clear hd
  go_enter Try.func86, Try.ntmps86
  go_wp2_with fail
  all_goals first
    | (go_ret; refine ⟨ret_bool ht.out.symm, ?_⟩; (repeat (first | with_reducible exact Below.refl _ _ | with_reducible assumption | with_reducible refine Below.drew ?_ | with_reducible refine below_drewN ?_ _ | (with_reducible refine Below.alloc ?_ ?_ _; rotate_left; · (first | (simp; done) | omega | (simp at *; omega))) | (with_reducible refine Below.setCell ?_ ?_ _; rotate_left; · (first | (simp only []; omega) | (simp; done) | (simp; omega))) | with_reducible refine Below.trans ?_ (by with_reducible assumption))))
    | (exfalso; refine HD.out ⟨by assumption, by omega, by omega, by omega, by assumption, by omega, ?_⟩; simp only [bne_eq_false_iff_eq] at *; omega)

set_option maxRecDepth 100000 in
set_option maxHeartbeats 1600000 in
theorem refAlike_same (age kty kid kadv seq links mask routers cost age' seq' links' routers') (A1 : Option Addr) (n1 c1 : Nat) (A2 : Option Addr) (n2 c2 : Nat) (B1 : Option Addr) (d1 : Nat) (B2 : Option Addr) (d2 : Nat) (w : World)
    (ha : IsLsa w ⟨age, kty, kid, kadv, seq, links, mask, routers, cost⟩ A1 n1 c1 A2 n2 c2) (hb : IsLsa w ⟨age', kty, kid, kadv, seq', links', mask, routers', cost⟩ B1 n1 d1 B2 n2 d2) :
    Calls Try.prog 86 #[.agg (lsaC ⟨age, kty, kid, kadv, seq, links, mask, routers, cost⟩ A1 n1 c1 A2 n2 c2), .agg (lsaC ⟨age', kty, kid, kadv, seq', links', mask, routers', cost⟩ B1 n1 d1 B2 n2 d2)] w fun e w' =>
      e = .returned (.bool (decide (links = links' ∧ routers = routers'))) ∧ Below w.heap.size w w' := by
  have l1 := ha.links.lenN
  have l2 := hb.links.lenN
  have l3 := ha.routers.lenN
  have l4 := hb.routers.lenN
  rw [LK_length] at l1 l2
  rw [U32_length] at l3 l4
  simp only at l1 l2 l3 l4
  have LL : Hid (links.length = n1) := by show _ = _; omega
  have LL' : Hid (links'.length = n1) := by show _ = _; omega
  have LR : Hid (routers.length = n2) := by show _ = _; omega
  have LR' : Hid (routers'.length = n2) := by show _ = _; omega
  have hn1 : n1 ≤ 9223372036854775807 := by omega
  have hn2 : n2 ≤ 9223372036854775807 := by omega
  clear l1 l2 l3 l4
  have hA1 := ha.links
  have hA2 := ha.routers
  have hB1 := hb.links
  have hB2 := hb.routers
  simp only at hA1 hA2 hB1 hB2
  clear ha hb
  go_enter Try.func86, Try.ntmps86
  go_wp2_with fail
  generalize hca : lsaC ⟨age, kty, kid, kadv, seq, links, mask, routers, cost⟩ A1 n1 c1 A2 n2 c2 = ca at *
  generalize hcb : lsaC ⟨age', kty, kid, kadv, seq', links', mask, routers', cost⟩ B1 n1 d1 B2 n2 d2 = cb at *
  have hb0 := blk_alloc (heap_alloc_new w (.cells ca 77)) (.cells cb 77)
  have hb1 := heap_alloc_new (w.alloc (.cells ca 77)) (.cells cb 77)
  rw [show (w.alloc (.cells ca 77)).heap.size = w.heap.size + 1 by simp] at hb1
  have hbb := ((Below.refl w.heap.size w).alloc (Nat.le_refl _) (.cells ca 77)).alloc (by simp) (.cells cb 77)
  generalize (w.alloc (.cells ca 77)).alloc (.cells cb 77) = w1 at *
  subst hca hcb
  obtain ⟨ca, _⟩ := blk_cells hb0
  obtain ⟨cb, _⟩ := blk_cells hb1
  have ca5 := ca 5
  have ca7 := ca 7
  have cb5 := cb 5
  have cb7 := cb 7
  simp at ca5 ca7 cb5 cb7
  clear ca cb hb0 hb1
  have hA1' := hA1.below hbb
  have hA2' := hA2.below hbb
  have hB1' := hB1.below hbb
  have hB2' := hB2.below hbb
  go_loopw [5] (fun i wr => ∃ (k q : Nat), k ≤ n1 ∧ i = .int .i64 k ∧ wr = w1.drewN q ∧ Hid (∀ j, j < k → linkAt links j = linkAt links' j)) (fun i _ => n1 - (intOf i).toNat)
  case atStart => exact ⟨0, 0, Nat.zero_le _, rfl, rfl, fun j hj => by omega⟩
  case round =>
    obtain ⟨k, q, hk, rfl, rfl, HJ⟩ := hrel
    by_cases hlt : k < n1
    · obtain ⟨b, off, rfl, hbl, q0, q1, q2, q3⟩ := hA1'.link hlt
      obtain ⟨b', off', rfl, hbl', r0, r1, r2, r3⟩ := hB1'.link hlt
      by_cases hX : linkAt links k = linkAt links' k
      · have HX := hid hX
        rw [← hX] at r0 r1 r2 r3
        clear hX
        generalize hGX : linkAt links k = X at *
        have HGX := hid hGX
        clear hGX
        go_wp2_with fail
        go_quiet (fail)
        go_wp2_with fail
        refine ⟨⟨k + 1, q + nq, by omega, by go_num, rfl, fun j hj => ?_⟩, by simp [intOf]; omega⟩
        by_cases e : j = k
        · subst e; exact HGX.out.trans HX.out
        · exact HJ.out j (by omega)
      · have hne : links ≠ links' := fun e => hX (by rw [e])
        have HNE := hid hne
        clear hne
        generalize linkAt links k = X at *
        generalize linkAt links' k = Y at *
        obtain ⟨x1, x2, x3, x4⟩ := X
        obtain ⟨y1, y2, y3, y4⟩ := Y
        simp only at q0 q1 q2 q3 r0 r1 r2 r3
        by_cases e1 : x1 = y1
        · subst e1
          by_cases e2 : x2 = y2
          · subst e2
            by_cases e3 : x3 = y3
            · subst e3
              have e4 : x4 ≠ y4 := fun e => hX (by rw [e])
              clear hX
              have t4 : (x4 == y4) = false := by simpa using e4
              go_wp2_with fail
              go_quiet (fail)
              go_wp2_with fail
              go_ret
              refine ⟨ret_bool ?_, by (repeat (first | with_reducible exact Below.refl _ _ | with_reducible assumption | with_reducible refine Below.drew ?_ | with_reducible refine below_drewN ?_ _ | (with_reducible refine Below.alloc ?_ ?_ _; rotate_left; · (first | (simp; done) | omega | (simp at *; omega))) | (with_reducible refine Below.setCell ?_ ?_ _; rotate_left; · (first | (simp only []; omega) | (simp; done) | (simp; omega))) | with_reducible refine Below.trans ?_ (by with_reducible assumption)))⟩
              symm
              rw [decide_eq_false_iff_not]
              exact fun h => HNE.out h.1
            · clear hX
              have t3 : (x3 == y3) = false := by simpa using e3
              go_wp2_with fail
              go_quiet (fail)
              go_wp2_with fail
              go_ret
              refine ⟨ret_bool ?_, by (repeat (first | with_reducible exact Below.refl _ _ | with_reducible assumption | with_reducible refine Below.drew ?_ | with_reducible refine below_drewN ?_ _ | (with_reducible refine Below.alloc ?_ ?_ _; rotate_left; · (first | (simp; done) | omega | (simp at *; omega))) | (with_reducible refine Below.setCell ?_ ?_ _; rotate_left; · (first | (simp only []; omega) | (simp; done) | (simp; omega))) | with_reducible refine Below.trans ?_ (by with_reducible assumption)))⟩
              symm
              rw [decide_eq_false_iff_not]
              exact fun h => HNE.out h.1
          · clear hX
            have t2 : ((x2 : Int) == (y2 : Int)) = false := by rw [beq_eq_false_iff_ne]; omega
            go_wp2_with fail
            go_quiet (fail)
            go_wp2_with fail
            go_ret
            refine ⟨ret_bool ?_, by (repeat (first | with_reducible exact Below.refl _ _ | with_reducible assumption | with_reducible refine Below.drew ?_ | with_reducible refine below_drewN ?_ _ | (with_reducible refine Below.alloc ?_ ?_ _; rotate_left; · (first | (simp; done) | omega | (simp at *; omega))) | (with_reducible refine Below.setCell ?_ ?_ _; rotate_left; · (first | (simp only []; omega) | (simp; done) | (simp; omega))) | with_reducible refine Below.trans ?_ (by with_reducible assumption)))⟩
            symm
            rw [decide_eq_false_iff_not]
            exact fun h => HNE.out h.1
        · clear hX
          have t1 : ((x1 : Int) == (y1 : Int)) = false := by rw [beq_eq_false_iff_ne]; omega
          go_wp2_with fail
          go_quiet (fail)
          go_wp2_with fail
          go_ret
          refine ⟨ret_bool ?_, by (repeat (first | with_reducible exact Below.refl _ _ | with_reducible assumption | with_reducible refine Below.drew ?_ | with_reducible refine below_drewN ?_ _ | (with_reducible refine Below.alloc ?_ ?_ _; rotate_left; · (first | (simp; done) | omega | (simp at *; omega))) | (with_reducible refine Below.setCell ?_ ?_ _; rotate_left; · (first | (simp only []; omega) | (simp; done) | (simp; omega))) | with_reducible refine Below.trans ?_ (by with_reducible assumption)))⟩
          symm
          rw [decide_eq_false_iff_not]
          exact fun h => HNE.out h.1
    · obtain rfl : k = n1 := by omega
      have hll : Hid (links = links') := by
        show _ = _
        refine List.ext_getElem? fun j => ?_
        by_cases hj : j < k
        · have := HJ.out j hj
          unfold linkAt at this
          rw [List.getD_eq_getElem?_getD, List.getD_eq_getElem?_getD, List.getElem?_eq_getElem (by rw [LL.out]; exact hj), List.getElem?_eq_getElem (by rw [LL'.out]; exact hj)] at this
          rw [List.getElem?_eq_getElem (by rw [LL.out]; exact hj), List.getElem?_eq_getElem (by rw [LL'.out]; exact hj)]
          exact congrArg some this
        · rw [List.getElem?_eq_none (by rw [LL.out]; omega), List.getElem?_eq_none (by rw [LL'.out]; omega)]
      go_wp2_with fail
      go_loopw [6] (fun i wr => ∃ (j q : Nat), j ≤ n2 ∧ i = .int .i64 j ∧ wr = w1.drewN q ∧ Hid (∀ x, x < j → natAt routers x = natAt routers' x)) (fun i _ => n2 - (intOf i).toNat)
      case atStart => exact ⟨0, q, Nat.zero_le _, rfl, rfl, fun j hj => by omega⟩
      case round =>
        obtain ⟨j, q', hj, rfl, rfl, HK⟩ := hrel
        by_cases hlt2 : j < n2
        · obtain ⟨b, off, rfl, hbl, q0⟩ := hA2'.u32 hlt2
          obtain ⟨b', off', rfl, hbl', r0⟩ := hB2'.u32 hlt2
          by_cases hX : natAt routers j = natAt routers' j
          · have HX := hid hX
            rw [← hX] at r0
            clear hX
            generalize hGX : natAt routers j = X at *
            have HGX := hid hGX
            clear hGX
            go_wp2_with fail
            go_quiet (fail)
            go_wp2_with fail
            refine ⟨⟨j + 1, q' + nq, by omega, by go_num, rfl, fun x hx => ?_⟩, by simp [intOf]; omega⟩
            by_cases e : x = j
            · subst e; exact HGX.out.trans HX.out
            · exact HK.out x (by omega)
          · have hne : routers ≠ routers' := fun e => hX (by rw [e])
            have HNE := hid hne
            clear hne
            generalize natAt routers j = X at *
            generalize natAt routers' j = Y at *
            have t1 : ((X : Int) == (Y : Int)) = false := by rw [beq_eq_false_iff_ne]; omega
            clear hX
            go_wp2_with fail
            go_quiet (fail)
            go_wp2_with fail
            go_ret
            refine ⟨ret_bool ?_, by (repeat (first | with_reducible exact Below.refl _ _ | with_reducible assumption | with_reducible refine Below.drew ?_ | with_reducible refine below_drewN ?_ _ | (with_reducible refine Below.alloc ?_ ?_ _; rotate_left; · (first | (simp; done) | omega | (simp at *; omega))) | (with_reducible refine Below.setCell ?_ ?_ _; rotate_left; · (first | (simp only []; omega) | (simp; done) | (simp; omega))) | with_reducible refine Below.trans ?_ (by with_reducible assumption)))⟩
            symm
            rw [decide_eq_false_iff_not]
            exact fun h => HNE.out h.2
        · obtain rfl : j = n2 := by omega
          have hrr : Hid (routers = routers') := by
            show _ = _
            refine List.ext_getElem? fun x => ?_
            by_cases hx : x < j
            · have := HK.out x hx
              unfold natAt at this
              rw [List.getD_eq_getElem?_getD, List.getD_eq_getElem?_getD, List.getElem?_eq_getElem (by rw [LR.out]; exact hx), List.getElem?_eq_getElem (by rw [LR'.out]; exact hx)] at this
              rw [List.getElem?_eq_getElem (by rw [LR.out]; exact hx), List.getElem?_eq_getElem (by rw [LR'.out]; exact hx)]
              exact congrArg some this
            · rw [List.getElem?_eq_none (by rw [LR.out]; omega), List.getElem?_eq_none (by rw [LR'.out]; omega)]
          go_wp2_with fail
          go_ret
          refine ⟨ret_bool ?_, by (repeat (first | with_reducible exact Below.refl _ _ | with_reducible assumption | with_reducible refine Below.drew ?_ | with_reducible refine below_drewN ?_ _ | (with_reducible refine Below.alloc ?_ ?_ _; rotate_left; · (first | (simp; done) | omega | (simp at *; omega))) | (with_reducible refine Below.setCell ?_ ?_ _; rotate_left; · (first | (simp only []; omega) | (simp; done) | (simp; omega))) | with_reducible refine Below.trans ?_ (by with_reducible assumption)))⟩
          symm
          rw [decide_eq_true_iff]
          exact ⟨hll.out, hrr.out⟩

/-- **the reference's Alike** -/
theorem refAlike_any (a b : Lsa) (A1 : Option Addr) (n1 c1 : Nat) (A2 : Option Addr) (n2 c2 : Nat) (B1 : Option Addr) (m1 d1 : Nat) (B2 : Option Addr) (m2 d2 : Nat) (w : World) (ha : IsLsa w a A1 n1 c1 A2 n2 c2) (hb : IsLsa w b B1 m1 d1 B2 m2 d2) :
    Calls Try.prog 86 #[.agg (lsaC a A1 n1 c1 A2 n2 c2), .agg (lsaC b B1 m1 d1 B2 m2 d2)] w fun e w' => e = .returned (.bool (decide (tells a b))) ∧ Below w.heap.size w w' := by
  by_cases h : a.kty = b.kty ∧ a.kid = b.kid ∧ a.kadv = b.kadv ∧ a.mask = b.mask ∧ a.cost = b.cost ∧ n1 = m1 ∧ n2 = m2
  · obtain ⟨age, kty, kid, kadv, seq, links, mask, routers, cost⟩ := a
    obtain ⟨age', kty', kid', kadv', seq', links', mask', routers', cost'⟩ := b
    obtain ⟨h1, h2, h3, h4, h5, h6, h7⟩ := h
    simp only at h1 h2 h3 h4 h5
    subst h1; subst h2; subst h3; subst h4; subst h5; subst h6; subst h7
    refine (refAlike_same age kty kid kadv seq links mask routers cost age' seq' links' routers' A1 n1 c1 A2 n2 c2 B1 d1 B2 d2 w ha hb).mono ?_
    rintro e w' ⟨rfl, hbw⟩
    refine ⟨ret_bool ?_, hbw⟩
    rw [decide_eq_decide]
    unfold tells
    simp
  · exact refAlike_diff a b A1 n1 c1 A2 n2 c2 B1 m1 d1 B2 m2 d2 w ha hb h

set_option maxRecDepth 100000 in
set_option maxHeartbeats 800000 in
theorem refSame_any (a b : Lsa) (A1 : Option Addr) (n1 c1 : Nat) (A2 : Option Addr) (n2 c2 : Nat) (B1 : Option Addr) (m1 d1 : Nat) (B2 : Option Addr) (m2 d2 : Nat) (w : World) (ha : IsLsa w a A1 n1 c1 A2 n2 c2) (hb : IsLsa w b B1 m1 d1 B2 m2 d2) (hab : a = b) :
    Calls Try.prog 53 #[.agg (lsaC a A1 n1 c1 A2 n2 c2), .agg (lsaC b B1 m1 d1 B2 m2 d2)] w fun e w' => e = .returned (.bool true) ∧ Below w.heap.size w w' := by
  subst hab
  have hbb := ((Below.refl w.heap.size w).alloc (Nat.le_refl _) (.cells (lsaC a A1 n1 c1 A2 n2 c2) 77)).alloc (by simp) (.cells (lsaC a B1 m1 d1 B2 m2 d2) 77)
  have HBB := hid hbb
  have ha' := ha.below hbb
  have hb' := hb.below hbb
  have ht : Hid (decide (tells a a) = true) := by show _ = _; rw [decide_eq_true_iff]; exact ⟨rfl, rfl, rfl, rfl, rfl, rfl, rfl⟩
  have hb0 := blk_alloc (heap_alloc_new w (.cells (lsaC a A1 n1 c1 A2 n2 c2) 77)) (.cells (lsaC a B1 m1 d1 B2 m2 d2) 77)
  have hb1 := heap_alloc_new (w.alloc (.cells (lsaC a A1 n1 c1 A2 n2 c2) 77)) (.cells (lsaC a B1 m1 d1 B2 m2 d2) 77)
  rw [show (w.alloc (.cells (lsaC a A1 n1 c1 A2 n2 c2) 77)).heap.size = w.heap.size + 1 by simp] at hb1
  have hs : ((w.alloc (.cells (lsaC a A1 n1 c1 A2 n2 c2) 77)).alloc (.cells (lsaC a B1 m1 d1 B2 m2 d2) 77)).heap.size = w.heap.size + 2 := by simp
  have HS := Nat.le_of_eq hs.symm
  clear hbb hs ha hb
  go_enter Try.func53, Try.ntmps53
  go_wp2_with fail
  refine (refAlike_any a a A1 n1 c1 A2 n2 c2 B1 m1 d1 B2 m2 d2 _ ha' hb').mono ?_
  rintro e w2 ⟨rfl, hb2⟩
  rw [ht.out]
  obtain ⟨ca, _⟩ := blk_cells (blk_below hb0 hb2 (by omega))
  obtain ⟨cb, _⟩ := blk_cells (blk_below hb1 hb2 (by omega))
  have hbb2 := HBB.out.trans (hb2.mono (by omega))
  clear hb0 hb1 hb2 ha' hb'
  go_wp2_with fail
  go_ret
  exact ⟨rfl, hbb2⟩

end Go.Proofs.Ytgopkpogakjckaa
