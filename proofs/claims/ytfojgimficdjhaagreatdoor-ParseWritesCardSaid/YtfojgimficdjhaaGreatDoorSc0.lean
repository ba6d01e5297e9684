/-
  The library's functions in layer 4's words; what the world must hold for them.
-/
import Derived.Test.YtfojgimficdjhaaGreatDoorSh3
import Derived.Test.YtfojgimficdjhaaGreatDoorScL
import Derived.Test.YtfojgimficdjhaaGreatDoorBl
import Derived.Test.YtfojgimficdjhaaGreatDoorRg1
import Derived.Shelf.Unicode.PredsPay
import Derived.Lib.AppendIntMem
import Derived.Lib.AtoiErrMem
namespace Go.Proofs.YtfojgimficdjhaaGreatDoor
set_option linter.unusedVariables false
set_option linter.unusedSimpArgs false
open Go Go.RowKit

/-- what the library's variables hold -/
structure Env (w : World) : Prop where
  sh : w.ShapedOpen Tryz.prog
  tab : Lib.TabIs Tryz.prog w "internal/strconv.uint64pow10" .u64 Lib.pow10Tab
theorem Env.below {w w' : World} (h : Env w) (hb : Below w.heap.size w w') : Env w' :=
  ⟨h.sh.keptBut (hb.frame (fun _ => False)) (fun _ h => h.elim), TabIs_below (g := (Tryz.prog).globalNamed "internal/strconv.uint64pow10" |>.getD 0) (by kernel_rfl) h.tab hb⟩
theorem trim_any (s : ByteArray) (w : World) (hs : s.size ≤ 9223372036854775807) : Calls Tryz.prog 117 #[.string s, .string ⟨#[48, 49, 50, 51, 52, 53, 54, 55, 56, 57]⟩] w fun e w' => e = .returned (.string (S8 (Lib.trimS (bl s) [48, 49, 50, 51, 52, 53, 54, 55, 56, 57]))) ∧ Below w.heap.size w w' :=
  Any.strings_Trim_laid Tryz.lays160 (by kernel_rfl) s ⟨#[48, 49, 50, 51, 52, 53, 54, 55, 56, 57]⟩ w hs (by decide) (ascii_of_all (by decide))
theorem atoi_any (s : ByteArray) (w : World) (h : SC.decOk (bl s) = true) (hs : s.size ≤ 100000) : Calls Tryz.prog 118 #[.string s] w fun e w' => e = .returned (.tuple #[.int .i64 (SC.num (bl s) : Nat), .nilIface]) ∧ Below w.heap.size w w' := by
  refine (Any.strconv_Atoi_ok Tryz.lays172 s (by omega) _ (SC.atoi_dec _ h) w).mono ?_
  rintro e w' ⟨rfl, h2⟩
  refine ⟨rfl, ?_⟩
  rcases h2 with rfl | ⟨t, rfl⟩
  · exact Below.refl _ _
  · exact Lib.bytesWorld_below _ _ _
theorem split_any (s : ByteArray) (w : World) (he : Env w) (hs : s.size ≤ 100000) : Calls Tryz.prog 122 #[.string s, .string ⟨#[46]⟩] w fun e w' => ∃ A c, e = .returned (.slice A (SC.cut 46 (bl s)).length c) ∧
    Sl w' 1 (.slice A (SC.cut 46 (bl s)).length c) (STR (SC.cut 46 (bl s))) ∧ Below w.heap.size w w' := by
  have hsp := SC.split_cut 46 s
  have hl := Lib.splitB_all ⟨#[46]⟩ (by decide) 0 (Lib.countB s ⟨#[46]⟩) s rfl
  refine (Any.strings_Split_shaped Tryz.lays146 s ⟨#[46]⟩ w he.sh (by omega) (by decide)).mono ?_
  rintro e w' ⟨rfl, rfl⟩
  have hn : Lib.countB s ⟨#[46]⟩ + 1 = (SC.cut 46 (bl s)).length := by rw [← hl, ← hsp, List.length_map]
  have hv : (Lib.splitB ⟨#[46]⟩ 0 (Lib.countB s ⟨#[46]⟩) s).map Value.string = STR (SC.cut 46 (bl s)) := by
    rw [← hsp]
    unfold STR
    rw [List.map_map]
    refine List.map_congr_left fun x _ => ?_
    show Value.string x = .string ⟨(bl x).toArray⟩
    rw [← bl_eq x]
  rw [hn, hv]
  have hcl := SC.cut_len 46 (bl s)
  rw [bl_len] at hcl
  exact ⟨_, _, rfl, own_sl (own_made w w.heap.size 9 1 _ _ (STR (SC.cut 46 (bl s))) (Nat.le_refl _) rfl (by rw [STR_length]; omega) (by omega) (by omega)), (Below.refl _ _).alloc (Nat.le_refl _) _⟩
theorem cutS_any (s : ByteArray) (w : World) (he : Env w) (hs : s.size ≤ 100000) : Calls Tryz.prog 124 #[.string s, .string ⟨#[47]⟩] w fun e w' => e = .returned (.tuple #[.string (S8 (Lib.cut (bl s) [47]).1), .string (S8 (Lib.cut (bl s) [47]).2.1), .bool (Lib.cut (bl s) [47]).2.2]) ∧ Below w.heap.size w w' := by
  refine (Any.strings_Cut_shaped Tryz.lays145 s ⟨#[47]⟩ w he.sh (by omega)).mono ?_
  rintro e w' ⟨rfl, n, rfl⟩
  exact ⟨rfl, below_drewN (Below.refl _ _) n⟩
theorem itoa_any (n : Nat) (hn : n < 1000000) (w : World) (he : Env w) : Calls Tryz.prog 82 #[.int .i64 (n : Int)] w fun e w' => e = .returned (.string (S8 (SC.digs n))) ∧ Below w.heap.size w w' := by
  refine (Any.strconv_Itoa Tryz.lays171 n (by omega) (by omega) w he.tab).mono ?_
  rintro e w' ⟨rfl, k, os, rfl⟩
  rw [SC.itoa_digs]
  exact ⟨rfl, Lib.below_grow _ _ (Nat.le_refl _) _ _⟩
theorem builder_x : Builder.Extra Tryz.prog Tryz.lays156_ren where
  sizeBuilder := by kernel_rfl
  liesBuilder := by kernel_rfl
  t5 := Tryz.underlying5
  a5 := Tryz.isAgg5
  z5 := Tryz.sizeOf5
  v5 := Tryz.zeroValue5
  infoByte := by kernel_rfl
  cellsByte := by kernel_rfl
  sizeByte := by kernel_rfl
  neB5 := by decide
theorem join_any (A : Option Addr) (c : Nat) (L : List (List UInt8)) (w : World) (h : Sl w 1 (.slice A L.length c) (STR L)) (h0 : 0 < L.length) (hl : (Lib.join L [46]).length ≤ 100000) (hL : L.length ≤ 100000) :
    Calls Tryz.prog 47 #[.slice A L.length c, .string ⟨#[46]⟩] w fun e w' => e = .returned (.string (S8 (Lib.join L [46]))) ∧ Below w.heap.size w w' := by
  obtain ⟨b, off, rfl, hbl, _⟩ := STR_cell h (k := 0) h0
  have hm : (L.map S8).map (·.data.toList) = L := by rw [List.map_map]; exact List.map_id'' (fun _ => rfl) L
  have hc : L.length ≤ c := by obtain ⟨_, _, _, he, _, h2, _⟩ := h; injection he with _ e2 e3; subst e2; subst e3; exact h2
  have := Any.strings_Join Tryz.lays156 builder_x b off c (L.map S8) ⟨#[46]⟩ w (fun j x hx => by
    rw [List.getElem?_map, Option.map_eq_some_iff] at hx
    obtain ⟨y, hy, rfl⟩ := hx
    have hj : j < L.length := (List.getElem?_eq_some_iff.1 hy).1
    obtain ⟨_, _, e1, _, p⟩ := STR_cell h hj
    injection e1 with e1
    injection e1 with e1 e2
    subst e1; subst e2
    rw [p, List.getD_eq_getElem?_getD, hy]
    rfl) hbl (by rw [List.length_map]; omega) (by rw [List.length_map]; omega) (by rw [hm]; show (Lib.join L [46]).length ≤ _; omega)
  rw [List.length_map, hm] at this
  exact this
end Go.Proofs.YtfojgimficdjhaaGreatDoor
