/-
  Contracts of packet's greets, plain, right: may one be?
-/
import Derived.Test.YtgopkpogakjckaaPk2
import Derived.Test.YtgopkpogakjckaaSh1
namespace Go.Proofs.Ytgopkpogakjckaa
set_option linter.unusedVariables false
set_option linter.unusedSimpArgs false
open Go Go.RowKit SM LM PK

set_option maxRecDepth 100000 in
set_option maxHeartbeats 800000 in
theorem greets_any (P : Pkt) (A1 : Option Addr) (n1 c1 : Nat) (w : World) (hn : P.nbs.length = n1) :
    Calls Try.prog 69 #[.agg (gtC P A1 n1 c1)] w fun e w' => e = .returned (.bool (greetsP P)) ∧ Below w.heap.size w w' := by
  obtain ⟨ty, router, area, auth, mask, intv, dead, prio, dr, bdr, nbs, flags, seq, heads, keys, lsas⟩ := P
  simp only at hn
  have hok : Hid (greetsP ⟨ty, router, area, auth, mask, intv, dead, prio, dr, bdr, nbs, flags, seq, heads, keys, lsas⟩ = (decide (1 ≤ intv ∧ intv ≤ 65535) && decide (1 ≤ dead ∧ dead ≤ 65535) && decide (0 ≤ prio ∧ prio ≤ 255) && decide (n1 ≤ 20))) := by
    show _ = _
    unfold greetsP
    simp only [hn]
  clear hn
  generalize d1 : decide (1 ≤ intv ∧ intv ≤ 65535) = b1 at hok
  generalize d2 : decide (1 ≤ dead ∧ dead ≤ 65535) = b2 at hok
  generalize d3 : decide (0 ≤ prio ∧ prio ≤ 255) = b3 at hok
  have D1 := hid d1
  have D2 := hid d2
  have D3 := hid d3
  clear d1 d2 d3
  have hal := (Below.refl w.heap.size w).alloc (Nat.le_refl _) (.cells (gtC ⟨ty, router, area, auth, mask, intv, dead, prio, dr, bdr, nbs, flags, seq, heads, keys, lsas⟩ A1 n1 c1) 35)
  have HAL := hid hal
  clear hal
  go_enter Try.func69, Try.ntmps69
  go_wp2_with fail
  refine (pbetween_any _ _ _ _).mono ?_
  rintro e w' ⟨rfl, rfl⟩
  rw [D1.out]
  cases b1
  · go_wp2_with fail
    go_ret
    exact ⟨ret_bool (by rw [hok.out]; rfl), HAL.out⟩
  go_wp2_with fail
  refine (pbetween_any _ _ _ _).mono ?_
  rintro e w' ⟨rfl, rfl⟩
  rw [D2.out]
  cases b2
  · go_wp2_with fail
    go_ret
    exact ⟨ret_bool (by rw [hok.out]; rfl), HAL.out⟩
  go_wp2_with fail
  refine (pbetween_any _ _ _ _).mono ?_
  rintro e w' ⟨rfl, rfl⟩
  rw [D3.out]
  cases b3
  · go_wp2_with fail
    go_ret
    exact ⟨ret_bool (by rw [hok.out]; rfl), HAL.out⟩
  go_wp2_with fail
  go_ret
  exact ⟨ret_bool (by rw [hok.out, Bool.eq_iff_iff]; simp; omega), HAL.out⟩

set_option maxRecDepth 100000 in
set_option maxHeartbeats 1600000 in
theorem plain_any (P : Pkt) (A1 : Option Addr) (n1 c1 : Nat) (A2 : Option Addr) (n2 c2 : Nat) (A3 : Option Addr) (n3 c3 : Nat) (A4 : Option Addr) (n4 c4 : Nat) (w : World) (hn : P.nbs.length = n1 ∧ P.heads.length = n2 ∧ P.keys.length = n3 ∧ P.lsas.length = n4) :
    Calls Try.prog 68 #[.agg (pkC P A1 n1 c1 A2 n2 c2 A3 n3 c3 A4 n4 c4)] w fun e w' => e = .returned (.bool (plainP P)) ∧ Below w.heap.size w w' := by
  obtain ⟨ty, router, area, auth, mask, intv, dead, prio, dr, bdr, nbs, flags, seq, heads, keys, lsas⟩ := P
  obtain ⟨hn1, hn2, hn3, hn4⟩ := hn
  simp only at hn1 hn2 hn3 hn4
  obtain ⟨nh, hnh⟩ : ∃ nh : Bool, nh = (mask == 0 && intv == 0 && dead == 0 && prio == 0 && dr == 0 && bdr == 0 && n1 == 0) := ⟨_, rfl⟩
  have hok : Hid (plainP ⟨ty, router, area, auth, mask, intv, dead, prio, dr, bdr, nbs, flags, seq, heads, keys, lsas⟩ = ((ty == 1 || nh) && (ty == 2 || flags == 0 && seq == 0) && (ty == 2 || ty == 5 || n2 == 0) && (ty == 3 || n3 == 0) && (ty == 4 || n4 == 0))) := by
    show _ = _
    unfold plainP noHello
    simp only [hn1, hn2, hn3, hn4, hnh]
  have HNH := hid hnh
  clear hnh hn1 hn2 hn3 hn4
  have hal := ((Below.refl w.heap.size w).alloc (Nat.le_refl _) (.cells (pkC ⟨ty, router, area, auth, mask, intv, dead, prio, dr, bdr, nbs, flags, seq, heads, keys, lsas⟩ A1 n1 c1 A2 n2 c2 A3 n3 c3 A4 n4 c4) 40)).alloc (by simp) (.cells (gtC ⟨ty, router, area, auth, mask, intv, dead, prio, dr, bdr, nbs, flags, seq, heads, keys, lsas⟩ A1 n1 c1) 35)
  have HAL := hid hal
  clear hal
  generalize hW : (w.alloc (.cells (pkC ⟨ty, router, area, auth, mask, intv, dead, prio, dr, bdr, nbs, flags, seq, heads, keys, lsas⟩ A1 n1 c1 A2 n2 c2 A3 n3 c3 A4 n4 c4) 40)).alloc (.cells (gtC ⟨ty, router, area, auth, mask, intv, dead, prio, dr, bdr, nbs, flags, seq, heads, keys, lsas⟩ A1 n1 c1) 35) = W at HAL
  have HW := hid hW
  clear hW
  go_enter Try.func68, Try.ntmps68
  go_upto_region 2 with fail
  rw [HW.out]
  have q : ∀ i, W.cell? ⟨w.heap.size, i, none⟩ = (pkC ⟨ty, router, area, auth, mask, intv, dead, prio, dr, bdr, nbs, flags, seq, heads, keys, lsas⟩ A1 n1 c1 A2 n2 c2 A3 n3 c3 A4 n4 c4)[i]? := fun i => by
    rw [← HW.out, World.cell?_alloc_lt _ _ _ (by simp)]
    exact (blk_cells (heap_alloc_new w _)).1 i
  have p : ∀ i, W.cell? ⟨w.heap.size + 1, i, none⟩ = (gtC ⟨ty, router, area, auth, mask, intv, dead, prio, dr, bdr, nbs, flags, seq, heads, keys, lsas⟩ A1 n1 c1)[i]? := fun i => by
    rw [← HW.out]
    refine (blk_cells (heap_alloc_new' _ _ _ ?_)).1 i
    simp
  generalize Value.agg (pkC ⟨ty, router, area, auth, mask, intv, dead, prio, dr, bdr, nbs, flags, seq, heads, keys, lsas⟩ A1 n1 c1 A2 n2 c2 A3 n3 c3 A4 n4 c4) = v0
  clear HW
  go_cut [4] (fun s wx => W = wx ∧ s = .bool nh)
  case first =>
    go_wp2_with fail
    all_goals go_meet
    all_goals go_light
    all_goals refine ⟨rfl, ?_⟩
    all_goals rw [HNH.out]
    all_goals clear p q HNH hok HAL
    all_goals (simp_all [beq0])
  case rest =>
    obtain ⟨rfl, rfl⟩ := hcut
    clear HNH p
    go_upto_region 3 with fail
    go_cut [5] (fun s wx => W = wx ∧ s = .bool (ty == 1 || nh))
    case first =>
      cases nh
      all_goals go_wp2_with fail
      all_goals go_meet
      all_goals go_light
      all_goals refine ⟨rfl, ?_⟩
      all_goals clear q hok HAL
      all_goals (simp_all [beq0])
    case rest =>
      obtain ⟨rfl, rfl⟩ := hcut
      generalize (ty == 1 || nh) = b1 at hok
      go_upto_region 4 with fail
      go_cut [5] (fun s wx => W = wx ∧ s = .bool (b1 && (ty == 2 || flags == 0 && seq == 0)))
      case first =>
        cases b1
        all_goals go_wp2_with fail
        all_goals go_meet
        all_goals go_light
        all_goals refine ⟨rfl, ?_⟩
        all_goals clear q hok HAL
        all_goals (simp_all [beq0])
      case rest =>
        obtain ⟨rfl, rfl⟩ := hcut
        generalize (b1 && (ty == 2 || flags == 0 && seq == 0)) = b2 at hok
        go_upto_region 5 with fail
        go_cut [5] (fun s wx => W = wx ∧ s = .bool (b2 && (ty == 2 || ty == 5 || n2 == 0)))
        case first =>
          cases b2
          all_goals go_wp2_with fail
          all_goals go_meet
          all_goals go_light
          all_goals refine ⟨rfl, ?_⟩
          all_goals clear q hok HAL
          all_goals (simp_all [beq0])
        case rest =>
          obtain ⟨rfl, rfl⟩ := hcut
          generalize (b2 && (ty == 2 || ty == 5 || n2 == 0)) = b3 at hok
          go_upto_region 6 with fail
          go_cut [5] (fun s wx => W = wx ∧ s = .bool (b3 && (ty == 3 || n3 == 0)))
          case first =>
            cases b3
            all_goals go_wp2_with fail
            all_goals go_meet
            all_goals go_light
            all_goals refine ⟨rfl, ?_⟩
            all_goals clear q hok HAL
            all_goals (simp_all [beq0])
          case rest =>
            obtain ⟨rfl, rfl⟩ := hcut
            generalize (b3 && (ty == 3 || n3 == 0)) = b4 at hok
            cases b4
            all_goals go_wp2_with fail
            all_goals go_light
            all_goals go_ret
            all_goals refine ⟨ret_bool ?_, HAL.out⟩
            all_goals rw [hok.out]
            all_goals clear q hok HAL
            all_goals (simp_all [beq0])
end Go.Proofs.Ytgopkpogakjckaa
