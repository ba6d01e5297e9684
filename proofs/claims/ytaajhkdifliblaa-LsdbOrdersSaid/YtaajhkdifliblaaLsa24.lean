/-
  The walk of LsaAges: the Lsa that is not right; then the right one.
-/
import Derived.Test.YtaajhkdifliblaaLsa18
import Derived.Test.YtaajhkdifliblaaLsa23
namespace Go.Proofs.Ytaajhkdifliblaa
set_option linter.unusedVariables false
set_option linter.unusedSimpArgs false
open Go Go.RowKit SM LM

set_option maxRecDepth 100000 in
set_option maxHeartbeats 1600000 in
theorem lsaAges_no (L : Lsa) (a b : Int) (A1 : Option Addr) (n1 c1 : Nat) (A2 : Option Addr) (n2 c2 : Nat) (w : World) (h : IsLsa w L A1 n1 c1 A2 n2 c2) (hr : L.right = false) :
    Calls Try.prog 13 #[.agg (lsaC L A1 n1 c1 A2 n2 c2), .int .i64 a, .int .i64 b] w fun e w' => e = .returned (.bool true) ∧ Below w.heap.size w w' := by
  have HR := hid hr
  clear hr
  have hbb := (Below.refl w.heap.size w).alloc (Nat.le_refl _) (.cells (lsaC L A1 n1 c1 A2 n2 c2) 75)
  have HBB := hid hbb
  have h0 := h.below hbb
  have hs0 : w.heap.size + 1 ≤ (w.alloc (.cells (lsaC L A1 n1 c1 A2 n2 c2) 75)).heap.size := by simp
  clear hbb
  go_enter Try.func13, Try.ntmps13
  go_wp2_with fail
  refine (refRight_l L A1 n1 c1 A2 n2 c2 _ h0.links h0.routers).mono ?_
  rintro e w1 ⟨rfl, hb1⟩
  rw [HR.out]
  have hbw := HBB.out.trans (hb1.mono (by omega))
  clear h0 hb1 hs0
  go_wp2_with fail
  refine (puts_any w1).mono ?_
  rintro e w2 ⟨rfl, hb2⟩
  replace hbw := hbw.trans (hb2.mono hbw.size)
  clear hb2
  go_wp2_with fail
  go_ret
  exact ⟨rfl, hbw⟩
end Go.Proofs.Ytaajhkdifliblaa
