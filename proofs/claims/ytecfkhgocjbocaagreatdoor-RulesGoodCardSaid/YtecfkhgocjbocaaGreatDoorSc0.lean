/-
  The library's functions in layer 4's words; what the world must hold for them.
-/
import Derived.Test.YtecfkhgocjbocaaGreatDoorSh3
import Derived.Test.YtecfkhgocjbocaaGreatDoorScL
import Derived.Test.YtecfkhgocjbocaaGreatDoorBl
import Derived.Test.YtecfkhgocjbocaaGreatDoorRg1
import Derived.Shelf.Unicode.PredsPay
import Derived.Lib.AppendIntMem
import Derived.Lib.AtoiErrMem
namespace Go.Proofs.YtecfkhgocjbocaaGreatDoor
set_option linter.unusedVariables false
set_option linter.unusedSimpArgs false
open Go Go.RowKit

/-- what the library's variables hold -/
structure Env (w : World) : Prop where
  sh : w.ShapedOpen Tryz.prog
  tab : Lib.TabIs Tryz.prog w "internal/strconv.uint64pow10" .u64 Lib.pow10Tab
theorem Env.below {w w' : World} (h : Env w) (hb : Below w.heap.size w w') : Env w' :=
  ⟨h.sh.keptBut (hb.frame (fun _ => False)) (fun _ h => h.elim), TabIs_below (g := (Tryz.prog).globalNamed "internal/strconv.uint64pow10" |>.getD 0) (by kernel_rfl) h.tab hb⟩
theorem trim_any (s : ByteArray) (w : World) (hs : s.size ≤ 9223372036854775807) : Calls Tryz.prog 139 #[.string s, .string ⟨#[48, 49, 50, 51, 52, 53, 54, 55, 56, 57]⟩] w fun e w' => e = .returned (.string (S8 (Lib.trimS (bl s) [48, 49, 50, 51, 52, 53, 54, 55, 56, 57]))) ∧ Below w.heap.size w w' :=
  Any.strings_Trim_laid Tryz.lays160 (by kernel_rfl) s ⟨#[48, 49, 50, 51, 52, 53, 54, 55, 56, 57]⟩ w hs (by decide) (ascii_of_all (by decide))
theorem atoi_any (s : ByteArray) (w : World) (h : SC.decOk (bl s) = true) (hs : s.size ≤ 2000000) : Calls Tryz.prog 140 #[.string s] w fun e w' => e = .returned (.tuple #[.int .i64 (SC.num (bl s) : Nat), .nilIface]) ∧ Below w.heap.size w w' := by
  refine (Any.strconv_Atoi_ok Tryz.lays172 s (by omega) _ (SC.atoi_dec _ h) w).mono ?_
  rintro e w' ⟨rfl, h2⟩
  refine ⟨rfl, ?_⟩
  rcases h2 with rfl | ⟨t, rfl⟩
  · exact Below.refl _ _
  · exact Lib.bytesWorld_below _ _ _
theorem split_any (s : ByteArray) (w : World) (he : Env w) (hs : s.size ≤ 2000000) : Calls Tryz.prog 136 #[.string s, .string ⟨#[46]⟩] w fun e w' => ∃ A c, e = .returned (.slice A (SC.cut 46 (bl s)).length c) ∧
    Sl w' 1 (.slice A (SC.cut 46 (bl s)).length c) (STR (SC.cut 46 (bl s))) ∧ Below w.heap.size w w' := by
  have hsp := SC.split_cut 46 s
  have hl := Lib.splitB_all ⟨#[46]⟩ (by decide) 0 (Lib.countB s ⟨#[46]⟩) s rfl
  refine (Any.strings_Split_shaped Tryz.lays146 s ⟨#[46]⟩ w he.sh (by omega) (by decide)).mono ?_
  rintro e w' ⟨rfl, rfl⟩
  have hn : Lib.countB s ⟨#[46]⟩ + 1 = (SC.cut 46 (bl s)).length := by rw [← hl, ← hsp, List.length_map]
  have hv : (Lib.splitB ⟨#[46]⟩ 0 (Lib.countB s ⟨#[46]⟩) s).map Value.string = STR (SC.cut 46 (bl s)) := by
    rw [← hsp]
    unfold STR
    rw [List.map_map]
    refine List.map_congr_left fun x _ => ?_
    show Value.string x = .string ⟨(bl x).toArray⟩
    rw [← bl_eq x]
  rw [hn, hv]
  have hcl := SC.cut_len 46 (bl s)
  rw [bl_len] at hcl
  exact ⟨_, _, rfl, own_sl (own_made w w.heap.size 9 1 _ _ (STR (SC.cut 46 (bl s))) (Nat.le_refl _) rfl (by rw [STR_length]; omega) (by omega) (by omega)), (Below.refl _ _).alloc (Nat.le_refl _) _⟩
theorem cutS_any (s : ByteArray) (w : World) (he : Env w) (hs : s.size ≤ 2000000) : Calls Tryz.prog 138 #[.string s, .string ⟨#[47]⟩] w fun e w' => e = .returned (.tuple #[.string (S8 (Lib.cut (bl s) [47]).1), .string (S8 (Lib.cut (bl s) [47]).2.1), .bool (Lib.cut (bl s) [47]).2.2]) ∧ Below w.heap.size w w' := by
  refine (Any.strings_Cut_shaped Tryz.lays145 s ⟨#[47]⟩ w he.sh (by omega)).mono ?_
  rintro e w' ⟨rfl, n, rfl⟩
  exact ⟨rfl, below_drewN (Below.refl _ _) n⟩
theorem itoa_any (n : Nat) (hn : n < 1000000) (w : World) (he : Env w) : Calls Tryz.prog 181 #[.int .i64 (n : Int)] w fun e w' => e = .returned (.string (S8 (SC.digs n))) ∧ Below w.heap.size w w' := by
  refine (Any.strconv_Itoa Tryz.lays171 n (by omega) (by omega) w he.tab).mono ?_
  rintro e w' ⟨rfl, k, os, rfl⟩
  rw [SC.itoa_digs]
  exact ⟨rfl, Lib.below_grow _ _ (Nat.le_refl _) _ _⟩
end Go.Proofs.YtecfkhgocjbocaaGreatDoor
