/-
  The walk of DiskActs.
-/
import Derived.Test.YtfhlidlmipleaaaDkJ
import Derived.Test.YtfhlidlmipleaaaOpenD
namespace Go.Proofs.Ytfhlidlmipleaaa
set_option linter.unusedVariables false
set_option linter.unusedSimpArgs false
open Go Go.RowKit

theorem sat_get2 {w0 w : World} {S0 : Nat → Prop} {Γ : Nat → Fact} (h : Sat w0 S0 Γ w) (l l' : Nat) (hl : l ≠ l') : ∃ S S' : Nat → Prop, (∀ b, S b → S' b → False) ∧ Γ l S w ∧ Γ l' S' w := by
  obtain ⟨_, own, h0, h1, h2⟩ := h
  exact ⟨own l, own l', fun b h3 h4 => hl (h0 l l' b h3 h4), h2 l, h2 l'⟩
theorem DkAt.base {base base' : Nat} {w : World} {D : Dk} {d gs cs r : Nat} {Ao : Option Addr} {co : Nat} (h : DkAt base w D d gs cs r Ao co) (hb : base' ≤ base) : DkAt base' w D d gs cs r Ao co :=
  ⟨h.blk, own_base h.stay hb, h.map, own_base h.ord hb, h.ds, h.dr, h.sr, h.od, h.os, h.orr, Nat.le_trans hb h.bd, Nat.le_trans hb h.br, h.sec, h.secw, h.arm⟩
theorem RkAt.base {base base' : Nat} {w : World} {D : Dk} {p : Nat} {As : Option Addr} {cs r : Nat} {Ao : Option Addr} {co : Nat} (h : RkAt base w D p As cs r Ao co) (hb : base' ≤ base) : RkAt base' w D p As cs r Ao co :=
  ⟨h.blk, own_base h.stay hb, h.map, own_base h.ord hb, h.sp, h.pr, h.sr, h.op, h.os, h.orr, Nat.le_trans hb h.bp, Nat.le_trans hb h.br, h.arm⟩
set_option maxRecDepth 100000 in
set_option maxHeartbeats 400000 in
theorem none_any (w : World) : Calls Try.prog 12 #[] w fun e w' => e = .returned (.pointer none) ∧ w' = w := by
  go_enter Try.func12, Try.ntmps12
  go_wp2_with fail
  go_ret
  exact ⟨rfl, rfl⟩
set_option maxRecDepth 100000 in
set_option maxHeartbeats 400000 in
theorem newDisk_no (n : Int) (w : World) (h : n < 1 ∨ 1024 < n) : Calls Try.prog 22 #[.int .i64 n] w fun e w' => e = .returned (.tuple #[.pointer none, .int .i64 1]) ∧ w' = w := by
  by_cases h1 : n < 1
  · clear h
    go_enter Try.func22, Try.ntmps22
    go_wp2_with fail
    refine bodyPost_ret (v := .tuple #[.pointer none, .int .i64 1]) (by simp [results, Try.results22, go_sem]) rfl ⟨rfl, rfl⟩
  · have h2 : 1024 < n := by omega
    clear h
    go_enter Try.func22, Try.ntmps22
    go_wp2_with fail
    refine bodyPost_ret (v := .tuple #[.pointer none, .int .i64 1]) (by simp [results, Try.results22, go_sem]) rfl ⟨rfl, rfl⟩
set_option maxRecDepth 100000 in
set_option maxHeartbeats 800000 in
theorem dsk_on (base : Nat) (w : World) (D : Dk) (d : Nat) (I : Nat → Prop) (h : Dsk base w D d I) : Calls Try.prog 19 #[.pointer (some ⟨d, 0, none⟩)] w fun e w' => e = .returned (.bool (!D.off)) ∧ w' = w := by
  obtain ⟨gs, cs, r, Ao, co, h, _⟩ := h
  exact on_any base w D d gs cs r Ao co h
theorem dsk_waits (base : Nat) (w : World) (D : Dk) (d : Nat) (I : Nat → Prop) (h : Dsk base w D d I) : Calls Try.prog 21 #[.pointer (some ⟨d, 0, none⟩)] w fun e w' => e = .returned (.int .i64 D.order.length) ∧ w' = w := by
  obtain ⟨gs, cs, r, Ao, co, h, _⟩ := h
  exact waits_any base w D d gs cs r Ao co h
theorem dsk_size (base : Nat) (w : World) (D : Dk) (d : Nat) (I : Nat → Prop) (h : Dsk base w D d I) : Calls Try.prog 20 #[.pointer (some ⟨d, 0, none⟩)] w fun e w' => e = .returned (.int .i64 D.stay.length) ∧ w' = w := by
  obtain ⟨gs, cs, r, Ao, co, h, _⟩ := h
  exact size_any base w D d gs cs r Ao co h
/-- both disks beside each other -/
structure Two (B : Nat) (w : World) (D : Dk) (d p : Nat) (I J : Nat → Prop) : Prop where
  dk : Dsk B w D d I
  rk : Rsk B w D p J
  dis : ∀ b, I b → J b → False
theorem Two.below {B : Nat} {w w' : World} {D : Dk} {d p : Nat} {I J : Nat → Prop} (h : Two B w D d p I J) (hb : Below w.heap.size w w') : Two B w' D d p I J := ⟨h.dk.below hb, h.rk.below hb, h.dis⟩
/-- one turned -/
theorem Two.left {B : Nat} {w w' : World} {D D' : Dk} {d p : Nat} {I J I' : Nat → Prop} (h : Two B w D d p I J) (h' : Dsk B w' D' d I') (ht : Turn I w w' I') : Rsk B w' D p J ∧ ∀ b, I' b → J b → False :=
  ⟨h.rk.kept ht.1 (fun b hb hi => h.dis b hi hb), fun b hb hj => by
    rcases ht.2 b hb with h1 | h1
    · exact h.dis b h1 hj
    · have := (h.rk.bd b hj).2; omega⟩
theorem Two.right {B : Nat} {w w' : World} {D E : Dk} {d p : Nat} {I J J' : Nat → Prop} (hd : Dsk B w D d I) (hdis : ∀ b, I b → J b → False) (h' : Rsk B w' E p J') (ht : Turn J w w' J') : Dsk B w' D d I ∧ ∀ b, I b → J' b → False :=
  ⟨hd.kept ht.1 (fun b hb hi => hdis b hb hi), fun b hb hj => by
    rcases ht.2 b hj with h1 | h1
    · exact hdis b hb h1
    · have := (hd.bd b hb).2; omega⟩
theorem turn_below {B : Nat} {w w' : World} {I I' : Nat → Prop} (ht : Turn I w w' I') (hB : B ≤ w.heap.size) (hI : ∀ b, I b → B ≤ b) : Below B w w' := ht.1.below_of hB hI
end Go.Proofs.Ytfhlidlmipleaaa
