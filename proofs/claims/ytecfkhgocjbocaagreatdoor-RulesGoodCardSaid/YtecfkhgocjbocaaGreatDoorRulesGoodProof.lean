/-
  The wrap of a row that lists variables, the world's shape kept; a table out of the list.
  Layer 8's law RulesGood: the lines that it makes, and what is wrong with them; two lines as a list.
  Layer 8's law: RulesGood.
  The statement RulesGood: a configuration of interfaces with an area and an address of their own is right; without its router-id, or with two of one net, it is not. No condition.
-/
import Derived.Test.YtecfkhgocjbocaaGreatDoorRtZ
import Derived.HandedShaped
import Derived.LaidSub
import Derived.MakeChecks
import Derived.Lib.LaidTab
import Derived.Test.YtecfkhgocjbocaaGreatDoorRows
import Derived.Test.YtecfkhgocjbocaaGreatDoorCards
import Derived.Test.YtecfkhgocjbocaaGreatDoorTie
import Derived.WalkKit
import Derived.ProofKit
import Derived.OpenShut
import Derived.ShutString
import Derived.ChangeOld
import Derived.Below
import Derived.SizedLaws
import Derived.Lay
import Derived.LaidOnce
import Derived.SevenTiedAt
namespace Go.Proofs.YtecfkhgocjbocaaGreatDoor
set_option linter.unusedVariables false
set_option linter.unusedSimpArgs false
open Go

section
variable {H : Type} {enc : TypeId × Value → H}
theorem wrap_laid {a : Assume} {C : Checked} {os : Os} {f : FuncId} {fn : Func} {s : ChangeSpec} {conds : List PathCond} {apart fresh handsOn again : Bool} {X : World → Array Value → Prop}
    (hX : ∀ (w w' : World) (args : Array Value), w.heap = w'.heap → X w args → X w' args)
    (own : ownKnob C.prog.godebug = none) (started : os.Started) (noInit : C.prog.inits.idxOf? f = none) (hfn : C.prog.funcs[f]? = some fn)
    (witness : ∃ (w : World) (tape : Tape) (i : Input), w.os = os ∧ (w.forCall tape i).Shaped C.prog ∧ i.vars = [] ∧ Input.okWide C.prog (w.forCall tape i) .any w.heap.size f i ∧
      ((s.pre enc C.prog fn conds apart (w.forCall tape i).memory i.args ∧ X (w.forCall tape i).memory i.args) ∧ sizedMet enc C.prog fn (OpenSpec.ofChange s) apart (w.forCall tape i).memory i.args) ∧ a.holds C.prog (lone (Frame.enter C.prog f i.args .normal) [] (w.forCall tape i)))
    (contract : ∀ (W : World) (base : Nat) (args : Array Value) (ds gs : List (DataW H)) (before : List MemPlace),
      (∀ (j : Nat) t v, fn.params[j]? = some t → args[j]? = some v → Value.okWide C.prog W .any base t v) →
      DataW.Whole enc C.prog fn.params.toList s.vars apart W args.toList ds gs before →
      (DataW.weightsEach C.prog (fn.params.toList ++ s.plain.varTypes C.prog) (ds ++ gs)).all (· ≤ reachBytes) = true → X W args → W.ShapedOpen C.prog →
      Calls C.prog f args W fun e W' => ∃ v, e = .returned v ∧ s.post enc C.prog fn apart fresh handsOn again W args v W') :
    ReturnsInHanded a C os f .any (fun w args => (s.pre enc C.prog fn conds apart w args ∧ X w args) ∧ sizedMet enc C.prog fn (OpenSpec.ofChange s) apart w args) (s.post enc C.prog fn apart fresh handsOn again) := by
  refine returnsInHanded_of_calls own started noInit witness ?_
  intro w tape i _ hsh _ hok hpre hholds
  obtain ⟨_, _, _, fn', hfn', _, _, _, _, hval⟩ := hok
  have e : fn' = fn := Option.some.inj (hfn'.symm.trans hfn)
  subst e
  obtain ⟨⟨⟨ds, gs, before, hw, hc⟩, hx⟩, hz⟩ := hpre
  have hw' := DataW.Whole.of_heap (w' := w.forCall tape i) (by rfl) hw
  refine (contract (w.forCall tape i) w.heap.size i.args ds gs before hval hw' (hz.weights hw) (hX _ _ _ (by rfl) hx) hsh).mono fun e W' ⟨v, he, hp⟩ => ?_
  subst he
  exact ChangeSpec.post_blind hp
end
end Go.Proofs.YtecfkhgocjbocaaGreatDoor
namespace Go.Proofs.YtecfkhgocjbocaaGreatDoor
set_option linter.unusedVariables false
set_option linter.unusedSimpArgs false
open Go Go.RowKit

namespace RL
open CF
def dg8 (i : Nat) : UInt8 := UInt8.ofNat (48 + i)
def gName (i : Nat) : List UInt8 := [101] ++ [dg8 i]
def gNet (i : Nat) : List UInt8 := ([49, 48, 46] ++ [dg8 i]) ++ [46, 48, 46, 49, 47, 49, 54]
def zNet (i : Nat) : List UInt8 := ([49, 48, 46] ++ [dg8 i]) ++ [46, 50, 48, 48, 46, 49, 47, 50, 52]
def gA (i : Nat) : Ln := ⟨2, gName i, wArea, bb⟩
def gD (i : Nat) : Ln := ⟨2, gName i, wAddr, gNet i⟩
def gR : Ln := ⟨0, [], wRid, [49, 46, 50, 46, 51, 46, 52]⟩
def zA : Ln := ⟨2, [122], wArea, bb⟩
def zD (k : Nat) : Ln := ⟨2, [122], wAddr, zNet k⟩
def LG (n : Nat) : List Ln := gR :: (List.range n).flatMap fun i => [gA i, gD i]
def LZ (n k : Nat) : List Ln := LG n ++ [zA, zD k]
def many : List UInt8 := [116, 111, 111, 109, 97, 110, 121, 10]
def norou : List UInt8 := [110, 111, 114, 111, 117, 116, 101, 114, 10]
def over : List UInt8 := [111, 118, 101, 114, 108, 97, 112, 32, 122, 10]
def want1 (n : Nat) : List UInt8 := if 8 < n then many else []
def want3 (n : Nat) : List UInt8 := over ++ if 7 < n then many else []
theorem good1 : ((List.range 9).all fun i => decide (textF (checkR (buildC (LG (i + 1)))) = want1 (i + 1))) = true := by kernel_rfl
theorem good2 : ((List.range 9).all fun i => decide (textF (checkR (buildC ((LG (i + 1)).drop 1))) = norou ++ want1 (i + 1))) = true := by kernel_rfl
theorem good3 : ((List.range 9).all fun i => (List.range (i + 1)).all fun k => decide (textF (checkR (buildC (LZ (i + 1) k))) = want3 (i + 1))) = true := by kernel_rfl
theorem text1 (n : Nat) (h1 : 1 ≤ n) (h9 : n ≤ 9) : textF (checkC (buildC (LG n))) = want1 n := by
  rw [← check_eq (show RightC (buildC _) = true from build_right _ 100)]
  have := List.all_eq_true.1 good1 (n - 1) (List.mem_range.2 (by omega))
  rw [show n - 1 + 1 = n by omega] at this
  exact of_decide_eq_true this
theorem text2 (n : Nat) (h1 : 1 ≤ n) (h9 : n ≤ 9) : textF (checkC (buildC ((LG n).drop 1))) = norou ++ want1 n := by
  rw [← check_eq (show RightC (buildC _) = true from build_right _ 100)]
  have := List.all_eq_true.1 good2 (n - 1) (List.mem_range.2 (by omega))
  rw [show n - 1 + 1 = n by omega] at this
  exact of_decide_eq_true this
theorem text3 (n k : Nat) (h1 : 1 ≤ n) (h9 : n ≤ 9) (hk : k < n) : textF (checkC (buildC (LZ n k))) = want3 n := by
  rw [← check_eq (show RightC (buildC _) = true from build_right _ 100)]
  have := List.all_eq_true.1 good3 (n - 1) (List.mem_range.2 (by omega))
  rw [show n - 1 + 1 = n by omega] at this
  have := List.all_eq_true.1 this k (List.mem_range.2 hk)
  exact of_decide_eq_true this
theorem LG_succ (n : Nat) : LG (n + 1) = LG n ++ [gA n, gD n] := by
  unfold LG
  rw [List.range_succ, List.flatMap_append]
  simp
theorem LG_len (n : Nat) : (LG n).length = 1 + 2 * n := by
  induction n with
  | zero => rfl
  | succ n ih => rw [LG_succ, List.length_append, ih]; simp; omega
theorem gA_ok (i : Nat) : LnOk (gA i) := by unfold LnOk gA gName wArea bb; simp
theorem gD_ok (i : Nat) : LnOk (gD i) := by unfold LnOk gD gName wAddr gNet; simp
theorem zD_ok (i : Nat) : LnOk (zD i) := by unfold LnOk zD wAddr zNet; simp
theorem zA_ok : LnOk zA := by unfold LnOk zA wArea bb; simp
theorem LG_ok (n : Nat) : ∀ l ∈ LG n, LnOk l := by
  intro l hl
  unfold LG at hl
  rcases List.mem_cons.1 hl with rfl | hl
  · unfold LnOk gR wRid; simp
  · obtain ⟨i, _, hl⟩ := List.mem_flatMap.1 hl
    rcases List.mem_cons.1 hl with rfl | hl
    · exact gA_ok i
    · rw [List.mem_singleton.1 hl]; exact gD_ok i
theorem LZ_ok (n k : Nat) : ∀ l ∈ LZ n k, LnOk l := by
  intro l hl
  unfold LZ at hl
  rcases List.mem_append.1 hl with hl | hl
  · exact LG_ok n l hl
  · rcases List.mem_cons.1 hl with rfl | hl
    · exact zA_ok
    · rw [List.mem_singleton.1 hl]; exact zD_ok k
theorem set_eight {v0 v1 v2 v3 v4 v5 v6 v7 : Value} (b : Array Value) (hb : b.size = 8) : (((((((b.setIfInBounds 0 v0).setIfInBounds 1 v1).setIfInBounds 2 v2).setIfInBounds 3 v3).setIfInBounds 4 v4).setIfInBounds 5 v5).setIfInBounds 6 v6).setIfInBounds 7 v7 = #[v0, v1, v2, v3, v4, v5, v6, v7] := by
  obtain ⟨l⟩ := b
  match l, hb with
  | [_, _, _, _, _, _, _, _], _ => simp
theorem run_build2 (l1 l2 : Ln) (w : World) : (Instr.buildSlice 36 2 #[(0, .agg (lnV l1)), (1, .agg (lnV l2))]).run Tryz.prog w = .ok (.slice (some ⟨w.heap.size, 0, none⟩) 2 2) (w.alloc (.cells (LNS [l1, l2]).toArray 48)) := by
  obtain ⟨ht, _, i, z, hi, hz, hsi, hby, hzs⟩ := st_rls
  simp [Instr.buildSlice, run_underlying ht, Sem.run_bind, sizeOf, zeroValue, typeInfo, hi, hz, hsi, Instr.fill, newRow, newObj, Result.andThen, LNS, lnC, lnV, Value.cells]
  rw [set_eight _ (by simp)]
  rfl
theorem wpList_build2 {ops : Array Oper} {rest : List Oper} {op : Oper} {a : Act} {w : World} {Q : Exit → Act → World → Prop} (hgd : op.guard = none) (x y : Operand) (ho : op.op = .buildSlice 36 2 #[(0, x), (1, y)])
    (l1 l2 : Ln) (hx : a.eval x = .agg (lnV l1)) (hy : a.eval y = .agg (lnV l2))
    (h : wpList Tryz.prog ops Q rest (a.put op.dst (.slice (some ⟨w.heap.size, 0, none⟩) 2 2)) (w.alloc (.cells (LNS [l1, l2]).toArray 48))) : wpList Tryz.prog ops Q (op :: rest) a w :=
  wpList_plain hgd fun _ hK => by
    have hrun := run_build2 l1 l2 w
    unfold Oper.wp execOp
    simp only [ho, List.map_toArray, List.map_cons, List.map_nil, hx, hy, Sem.run_bind, hrun, Result.andThen_ok]
    exact hK _ _ h
end RL
end Go.Proofs.YtecfkhgocjbocaaGreatDoor
namespace Go.Proofs.YtecfkhgocjbocaaGreatDoor
set_option linter.unusedVariables false
set_option linter.unusedSimpArgs false
open Go Go.RowKit

namespace RL
open CF
theorem gR_built : (Tryz.prog).built 48 [(2, .string ⟨#[114, 111, 117, 116, 101, 114, 45, 105, 100]⟩), (3, .string ⟨#[49, 46, 50, 46, 51, 46, 52]⟩)] = some (lnV gR) := by kernel_rfl
theorem dg8_nat (k : Nat) (h : k < 10) : ((dg8 k).toNat : Int) = 48 + (k : Int) := by
  have := SC.dig_toNat k h
  rw [show dg8 k = SC.dg k from rfl, this]
  omega
theorem dig_sl (wr : World) (k : Nat) (h : k < 10) : Sl (wr.alloc (.cells #[.int .u8 (48 + (k : Int))] 5)) 1 (.slice (some ⟨wr.heap.size, 0, none⟩) 1 1) (B8 [dg8 k]) := by
  have : Sl (wr.alloc (.cells #[.int .u8 ((dg8 k).toNat : Int)] 5)) 1 (.slice (some ⟨wr.heap.size, 0, none⟩) 1 1) (B8 [dg8 k]) := sl_new wr [dg8 k] 5 _ 1 _ rfl rfl rfl (by simp)
  rwa [dg8_nat k h] at this
theorem dig_str (wr : World) (k : Nat) (h : k < 10) : (convert 38 9 (.slice (some ⟨wr.heap.size, 0, none⟩) 1 1)).run Tryz.prog (wr.alloc (.cells #[.int .u8 (48 + (k : Int))] 5)) = .ok (.string (S8 [dg8 k])) (wr.alloc (.cells #[.int .u8 (48 + (k : Int))] 5)) :=
  str_of (P := Tryz.prog) (dig_sl wr k h) 38 9 5 Tryz.underlying38 Tryz.underlying5 Tryz.underlying9
theorem sl_drop1 {w : World} {b off n c : Nat} {L : List Ln} (h : Sl w 4 (.slice (some ⟨b, off, none⟩) (n + 1) c) (LNS L)) (hn : 0 < n) : Sl w 4 (.slice (some ⟨b, off + 4, none⟩) n (c - 1)) (LNS (L.drop 1)) := by
  have hl := (sl_lns h).1
  obtain ⟨A', n', c', he, _, hnc, hcm, hr⟩ := h
  injection he with e1 e2 e3
  subst e1; subst e2; subst e3
  obtain ⟨b', off', he', hlt, hc⟩ := hr (by omega)
  injection he' with he'
  injection he' with e1 e2 _
  subst e1; subst e2
  refine ⟨_, _, _, rfl, by rw [LNS_length, List.length_drop]; omega, by omega, by omega, fun h0 => ⟨b, off + 4, rfl, hlt, fun i hi => ?_⟩⟩
  rw [Nat.add_assoc, hc (4 + i) (by omega)]
  cases L with
  | nil => simp at hl
  | cons x r =>
    show (lnC x ++ LNS r)[4 + i]? = (LNS r)[i]?
    rw [List.getElem?_append_right (by simp [lnC])]
    congr 1
    simp [lnC]
set_option maxRecDepth 100000 in
set_option maxHeartbeats 6000000 in
theorem rulesGood_walk (x0 x1 : Int) (w : World) (hen : Env w) :
    Calls Tryz.prog 9 #[.int .i64 x0, .int .i64 x1] w fun e w' => e = .returned (.bool true) ∧ Below w.heap.size w w' := by
  have HEN : Hid (∀ w', Below w.heap.size w w' → Env w') := fun w' hb => hen.below hb
  clear hen
  obtain ⟨t, ht, ht9⟩ : ∃ t : Nat, IntKind.u64.wrap x0 % 9 = (t : Int) ∧ t < 9 := ⟨(IntKind.u64.wrap x0 % 9).toNat, by omega, by omega⟩
  have htm : (IntKind.u64.wrap x0).tmod 9 = (t : Int) := by rw [← ht]; exact Int.tmod_eq_emod_of_nonneg (by rw [IntKind.wrap_u64]; omega)
  obtain ⟨n, hn⟩ : ∃ n : Nat, n = 1 + t := ⟨_, rfl⟩
  have en : (1 : Int) + (t : Int) = (n : Int) := by omega
  have hn9 : n ≤ 9 := by omega
  have hn1 : 1 ≤ n := by omega
  clear hn
  have HBL := gR_built
  go_enter Tryz.func9, Tryz.ntmps9
  go_upto_region 3 with (refine wpList_build1 rfl st_rls (.tmp 23) rfl (lnV gR) rfl rfl (by omega) (by omega) ?_)
  obtain ⟨hb1, hg1, hl1⟩ := box1 w (.cells (lnV gR) 48)
  have ho1 : (w.alloc (.cells (lnV gR) 48)).ownsRow w.heap.size 48 4 (.slice (some ⟨w.heap.size, 0, none⟩) 1 1) 1 (LNS (LG 0)) :=
    own_made w w.heap.size 48 4 1 (lnV gR) (LNS (LG 0)) (Nat.le_refl _) rfl rfl (by omega) (by omega)
  have HO1 := hid (And.intro ho1 hb1)
  clear ho1 hb1 hg1 hl1 HBL ht htm
  generalize w.alloc (.cells (lnV gR) 48) = w1 at *
  go_wp2_with fail
  go_loopw [6, 7] (fun l i wr => ∃ (k N : Nat) (A1 : Option Addr) (c1 : Nat), k ≤ n ∧ i = .int .i64 k ∧ l = .slice A1 N c1 ∧ Hid (N = 1 + 2 * k) ∧ wr.ownsRow w.heap.size 48 4 (.slice A1 N c1) N (LNS (LG k)) ∧ Below w.heap.size w wr) (fun _ i _ => n - (intOf i).toNat)
  case atStart => exact ⟨0, 1, some ⟨w.heap.size, 0, none⟩, 1, Nat.zero_le _, rfl, rfl, rfl, HO1.out.1, HO1.out.2⟩
  case round =>
    obtain ⟨k, N, A1, c1, hk, rfl, rfl, HN, ho, hbr⟩ := hrel
    by_cases hlt : k < n
    · have eu : IntKind.u8.wrap (48 + (k : Int)) = 48 + (k : Int) := by rw [IntKind.wrap_u8]; omega
      have st1 := dig_str wr k (by omega)
      have st2 := dig_str (wr.alloc (.cells #[.int .u8 (48 + (k : Int))] 5)) k (by omega)
      have hs1 : (wr.alloc (.cells #[.int .u8 (48 + (k : Int))] 5)).heap.size = wr.heap.size + 1 := by simp
      rw [hs1] at st2
      obtain ⟨nm, hnm⟩ : ∃ z, z = gName k := ⟨_, rfl⟩
      obtain ⟨y1, hy1⟩ : ∃ z, z = [49, 48, 46] ++ [dg8 k] := ⟨_, rfl⟩
      obtain ⟨y2, hy2⟩ : ∃ z, z = gNet k := ⟨_, rfl⟩
      have a1 := fun w' : World => cat8 (w := w') [101] [dg8 k] nm hnm (by simp)
      have a2 := fun w' : World => cat8 (w := w') [49, 48, 46] [dg8 k] y1 hy1 (by simp)
      have a3 := fun w' : World => cat8 (w := w') y1 [46, 48, 46, 49, 47, 49, 54] y2 (by rw [hy2, hy1]; rfl) (by rw [hy1]; simp)
      rw [show S8 [101] = (⟨#[101]⟩ : ByteArray) from rfl] at a1
      rw [show S8 [49, 48, 46] = (⟨#[49, 48, 46]⟩ : ByteArray) from rfl] at a2
      rw [show S8 [46, 48, 46, 49, 47, 49, 54] = (⟨#[46, 48, 46, 49, 47, 49, 54]⟩ : ByteArray) from rfl] at a3
      have HLS : Hid (LG (k + 1) = LG k ++ [⟨2, nm, wArea, bb⟩, ⟨2, nm, wAddr, y2⟩]) := by show _ = _; rw [hnm, hy2]; exact LG_succ k
      generalize [dg8 k] = dk at *
      clear hnm hy1 hy2
      obtain ⟨hb2, _, hl2⟩ := box1 wr (.cells #[.int .u8 (48 + (k : Int))] 5)
      obtain ⟨hb3, _, hl3⟩ := box1 (wr.alloc (.cells #[.int .u8 (48 + (k : Int))] 5)) (.cells #[.int .u8 (48 + (k : Int))] 5)
      have h13 := hb2.trans (hb3.mono hb2.size)
      have ho3 := own_below ho h13
      have hbw3 := hbr.trans (h13.mono hbr.size)
      obtain ⟨w3, hw3⟩ : ∃ z, z = (wr.alloc (.cells #[.int .u8 (48 + (k : Int))] 5)).alloc (.cells #[.int .u8 (48 + (k : Int))] 5) := ⟨_, rfl⟩
      rw [← hw3] at ho3 hbw3
      obtain ⟨hb4, _, hl4⟩ := box1 w3 (.cells (LNS [⟨2, nm, wArea, bb⟩, ⟨2, nm, wAddr, y2⟩]).toArray 48)
      have hs4 : Sl (w3.alloc (.cells (LNS [⟨2, nm, wArea, bb⟩, ⟨2, nm, wAddr, y2⟩]).toArray 48)) 4 (.slice (some ⟨w3.heap.size, 0, none⟩) 2 2) (LNS [⟨2, nm, wArea, bb⟩, ⟨2, nm, wAddr, y2⟩]) := own_sl (own_made w3 0 48 4 2 (LNS [⟨2, nm, wArea, bb⟩, ⟨2, nm, wAddr, y2⟩]).toArray (LNS [⟨2, nm, wArea, bb⟩, ⟨2, nm, wAddr, y2⟩]) (Nat.zero_le _) rfl rfl (by omega) (by omega))
      have ho4 := own_below ho3 hb4
      have hbw4 := hbw3.trans (hb4.mono hbw3.size)
      have HO4 := hid ho4
      have HS4 := hid hs4
      have HB4 := hid hbw4
      have hNb : N ≤ 100 := by have := HN.out; omega
      have hbs := hbw4.size
      have hs3 : w3.heap.size = wr.heap.size + 1 + 1 := by rw [hw3]; simp
      rw [hs3] at HS4
      clear hs3
      rw [hw3] at HO4 HS4 HB4 hbs
      clear ho3 hbw3 hb4 hl4 hs4 ho4 hbw4 h13 hb2 hb3 hl2 hl3 ho hbr hw3
      go_wp2_with (first | refine wpList_build2 rfl (.tmp 38) (.tmp 47) rfl ⟨2, nm, wArea, bb⟩ ⟨2, nm, wAddr, y2⟩ rfl rfl ?_ | (at_builtin; refine wpList_app rfl (.tmp 36) (.tmp 48) st_rls rfl w.heap.size (A := A1) (n := N) (c := c1) (xs := LNS (LG k)) ?_ ?_ (m := 2) (c2 := 2) (A2 := some ⟨wr.heap.size + 1 + 1, 0, none⟩) (news := LNS [⟨2, nm, wArea, bb⟩, ⟨2, nm, wAddr, y2⟩]) ?_ ?_ ?_ ?_ ?_ ?_ ?_))
      · exact HO4.out
      · exact HS4.out
      · exact LNS_one _
      · simp [maxLen]; omega
      · omega
      · exact hbs
      intro A9 c9 w9 ho9 hg9 _
      have hb9 := HB4.out.trans ((grown_below HO4.out hg9 hbs).mono (Nat.le_refl _))
      rw [← LNS_append, ← HLS.out] at ho9
      clear HO4 HS4 HB4 hbs hg9 st1 st2 a1 a2 a3
      go_wp2_with fail
      go_light
      exact ⟨⟨k + 1, N + 2, A9, c9, by omega, by go_num, rfl, by show _ = _; have := HN.out; omega, ho9, hb9⟩, by simp [intOf]; omega⟩
    · obtain rfl : k = n := by omega
      have hN19 : 1 ≤ N ∧ N ≤ 19 ∧ 3 ≤ N := by have := HN.out; omega
      obtain ⟨M, rfl⟩ : ∃ M, N = M + 1 := ⟨N - 1, by omega⟩
      obtain ⟨g, rfl, hgB, hgl⟩ := own_some ho (by omega)
      have hc3 : M + 1 ≤ c1 := (sl_lns (own_sl ho)).2.1
      have hc1n : ¬ c1 = 1 := by omega
      have hc1n' : ¬ (c1 : Int) = 1 := by omega
      -- the three configurations
      have HS := hid (own_sl ho)
      have HS1 := hid (sl_drop1 (own_sl ho) (by omega))
      have HOW := hid ho
      have HT1 := hid (text1 k hn1 hn9)
      have HT2 := hid (text2 k hn1 hn9)
      have HT3 := hid (fun j hj => text3 k j hn1 hn9 hj)
      have HBD := hid (fun w' (hb : Below wr.heap.size wr w') => build_any (LG k) (some ⟨g, 0, none⟩) (M + 1) c1 w' (HS.out.below hb) (LG_ok k) (HEN.out w' (hbr.trans (hb.mono hbr.size))))
      have HBD2 := hid (fun w' (hb : Below wr.heap.size wr w') => build_any ((LG k).drop 1) (some ⟨g, 0 + 4, none⟩) M (c1 - 1) w' (HS1.out.below hb) (fun l hl => LG_ok k l (List.mem_of_mem_drop hl)) (HEN.out w' (hbr.trans (hb.mono hbr.size))))
      rw [show (0 + 4 : Nat) = 4 from rfl] at HBD2
      have HBR := hid hbr
      have HR1 := hid (show RightC (buildC (LG k)) = true from build_right _ 100)
      have HR2 := hid (show RightC (buildC ((LG k).drop 1)) = true from build_right _ 100)
      have HO1b : Hid (∀ x ∈ buildC (LG k), LnOk x) := fun x hx => lnb_ok (build_lnb (LG k) x hx)
      have HO2b : Hid (∀ x ∈ buildC ((LG k).drop 1), LnOk x) := fun x hx => lnb_ok (build_lnb ((LG k).drop 1) x hx)
      have hC64 := right_len HR1.out
      have hC64b := right_len HR2.out
      have hnb64 : M ≤ 20 := by omega
      clear ho HO1 hbr HS HS1
      have HB0 := hid (HBD.out wr (Below.refl _ _))
      generalize buildC (LG k) = C1 at *
      generalize buildC ((LG k).drop 1) = C2 at *
      go_wp2_with fail
      refine HB0.out.mono ?_
      rintro e w2 ⟨⟨A2, c2, rfl, hs2⟩, hb2⟩
      have HTO := hid (to_any C1 A2 C1.length c2 w2 hs2 (by omega))
      clear HB0 hs2 HBD
      go_wp2_with fail
      refine HTO.out.mono ?_
      rintro e w3 ⟨A3, c3, rfl, ho3, hb3⟩
      have hb23 := hb2.trans (hb3.mono hb2.size)
      have HCK := hid (Check_yes C1 A3 C1.length c3 w3 (own_sl ho3) HO1b.out (HEN.out w3 (HBR.out.trans (hb23.mono HBR.out.size))) HR1.out)
      clear HTO ho3 hb2 hb3
      go_wp2_with fail
      refine HCK.out.mono ?_
      rintro e w4 ⟨⟨Fa, ca, rfl, hof⟩, hb4⟩
      have hb24 := hb23.trans (hb4.mono hb23.size)
      have HFa := hid (own_sl hof)
      have HFan : Hid (∀ ad, Fa = some ad → ad.block ≠ g) := fun ad had => by subst had; have h1 := (hof.lt ad.block rfl).1; have h2 := hb23.size; omega
      have HTA : Hid (∀ w', Sl w' 2 (.slice Fa (checkC C1).length ca) (FTS (checkC C1)) → Calls Tryz.prog 41 #[.slice Fa (checkC C1).length ca] w' fun e w'' => e = .returned (.string (S8 (want1 k))) ∧ Below w'.heap.size w' w'') := fun w' hs => by
        have := Text8_any (checkC C1) Fa _ ca w' hs (checkC_names HO1b.out) (checkC_len hC64)
        rwa [HT1.out] at this
      have HB1 := hid (HBD2.out w4 hb24)
      have HB24 := hid hb24
      clear HCK hb23 hb4 hof hb24 HBD2 HT1
      go_wp2_with fail
      refine HB1.out.mono ?_
      rintro e w5 ⟨⟨A5, c5, rfl, hs5⟩, hb5⟩
      have hb25 := HB24.out.trans (hb5.mono HB24.out.size)
      have HTO2 := hid (to_any C2 A5 C2.length c5 w5 hs5 (by omega))
      clear HB1 hs5
      go_wp2_with fail
      refine HTO2.out.mono ?_
      rintro e w6 ⟨A6, c6, rfl, ho6, hb6⟩
      have hb26 := hb25.trans (hb6.mono hb25.size)
      have HCK2 := hid (Check_yes C2 A6 C2.length c6 w6 (own_sl ho6) HO2b.out (HEN.out w6 (HBR.out.trans (hb26.mono HBR.out.size))) HR2.out)
      have h46 := hb5.trans (hb6.mono hb5.size)
      clear HTO2 ho6 hb5 hb6 hb25
      have en2 : IntKind.u64.wrap (k : Int) = (k : Int) := by rw [IntKind.wrap_u64]; omega
      obtain ⟨j, hj, ej, ej2⟩ : ∃ j : Nat, j < k ∧ (IntKind.u64.wrap x1).tmod (k : Int) = (j : Int) ∧ wrap64 ((IntKind.u64.wrap x1).tmod (k : Int)) = (j : Int) := by
        have h1 := Int.emod_nonneg (IntKind.u64.wrap x1) (show (k : Int) ≠ 0 by omega)
        have h2 := Int.emod_lt_of_pos (IntKind.u64.wrap x1) (show 0 < (k : Int) by omega)
        have h3 : (IntKind.u64.wrap x1).tmod (k : Int) = (((IntKind.u64.wrap x1) % k).toNat : Int) := by
          rw [Int.tmod_eq_emod_of_nonneg (by rw [IntKind.wrap_u64]; omega)]
          omega
        refine ⟨((IntKind.u64.wrap x1) % k).toNat, by omega, h3, ?_⟩
        rw [h3]
        unfold wrap64
        omega
      have HT3j := hid (HT3.out j hj)
      clear HT3
      go_wp2_with fail
      refine HCK2.out.mono ?_
      rintro e w7 ⟨⟨Fb, cb, rfl, hofb⟩, hb7⟩
      have hb27 := hb26.trans (hb7.mono hb26.size)
      have h47 := h46.trans (hb7.mono h46.size)
      have HFb := hid (own_sl hofb)
      have HFbn : Hid (∀ ad, Fb = some ad → ad.block ≠ g) := fun ad had => by subst had; have h1 := (hofb.lt ad.block rfl).1; have h2 := hb26.size; omega
      have HTB : Hid (∀ w', Sl w' 2 (.slice Fb (checkC C2).length cb) (FTS (checkC C2)) → Calls Tryz.prog 41 #[.slice Fb (checkC C2).length cb] w' fun e w'' => e = .returned (.string (S8 (norou ++ want1 k))) ∧ Below w'.heap.size w' w'') := fun w' hs => by
        have := Text8_any (checkC C2) Fb _ cb w' hs (checkC_names HO2b.out) (checkC_len hC64b)
        rwa [HT2.out] at this
      have HFa7 := hid (HFa.out.below h47)
      have ho7 := own_below HOW.out hb27
      have hbw7 := HBR.out.trans (hb27.mono HBR.out.size)
      have HW7 := hid hbw7
      clear HCK2 hb26 hb7 h46 h47 hofb HFa HB24 HOW HR1 HR2 HO1b HO2b HBR HT2
      have eu : IntKind.u8.wrap (48 + (j : Int)) = 48 + (j : Int) := by rw [IntKind.wrap_u8]; omega
      have st1 := dig_str w7 j (by omega)
      obtain ⟨y1, hy1⟩ : ∃ z, z = [49, 48, 46] ++ [dg8 j] := ⟨_, rfl⟩
      obtain ⟨y2, hy2⟩ : ∃ z, z = zNet j := ⟨_, rfl⟩
      have a2 := fun w' : World => cat8 (w := w') [49, 48, 46] [dg8 j] y1 hy1 (by simp)
      have a3 := fun w' : World => cat8 (w := w') y1 [46, 50, 48, 48, 46, 49, 47, 50, 52] y2 (by rw [hy2, hy1]; rfl) (by rw [hy1]; simp)
      rw [show S8 [49, 48, 46] = (⟨#[49, 48, 46]⟩ : ByteArray) from rfl] at a2
      rw [show S8 [46, 50, 48, 48, 46, 49, 47, 50, 52] = (⟨#[46, 50, 48, 48, 46, 49, 47, 50, 52]⟩ : ByteArray) from rfl] at a3
      have HLS : Hid (LZ k j = LG k ++ [⟨2, [122], wArea, bb⟩, ⟨2, [122], wAddr, y2⟩]) := by show _ = _; rw [hy2]; rfl
      generalize [dg8 j] = dk at *
      clear hy1 hy2
      obtain ⟨hb8, _, hl8⟩ := box1 w7 (.cells #[.int .u8 (48 + (j : Int))] 5)
      obtain ⟨w8, hw8⟩ : ∃ z, z = w7.alloc (.cells #[.int .u8 (48 + (j : Int))] 5) := ⟨_, rfl⟩
      have ho8 := own_below ho7 hb8
      have hbw8 := hbw7.trans (hb8.mono hbw7.size)
      have hfa8 := HFa7.out.below hb8
      have hfb8 := HFb.out.below hb8
      rw [← hw8] at ho8 hbw8 hfa8 hfb8
      obtain ⟨hb9, _, hl9⟩ := box1 w8 (.cells (LNS [⟨2, [122], wArea, bb⟩, ⟨2, [122], wAddr, y2⟩]).toArray 48)
      have hs9 : Sl (w8.alloc (.cells (LNS [⟨2, [122], wArea, bb⟩, ⟨2, [122], wAddr, y2⟩]).toArray 48)) 4 (.slice (some ⟨w8.heap.size, 0, none⟩) 2 2) (LNS [⟨2, [122], wArea, bb⟩, ⟨2, [122], wAddr, y2⟩]) := own_sl (own_made w8 0 48 4 2 (LNS [⟨2, [122], wArea, bb⟩, ⟨2, [122], wAddr, y2⟩]).toArray (LNS [⟨2, [122], wArea, bb⟩, ⟨2, [122], wAddr, y2⟩]) (Nat.zero_le _) rfl rfl (by omega) (by omega))
      have HO9 := hid (own_below ho8 hb9)
      have HS9 := hid hs9
      have HB9 := hid (hbw8.trans (hb9.mono hbw8.size))
      have hbs := HB9.out.size
      have HFa9 := hid (hfa8.below hb9)
      have HFb9 := hid (hfb8.below hb9)
      have hs8z : w8.heap.size = w7.heap.size + 1 := by rw [hw8]; simp
      rw [hs8z] at HS9
      rw [hw8] at HO9 HS9 HB9 hbs HFa9 HFb9
      clear hb8 hl8 ho8 hbw8 hfa8 hfb8 hb9 hl9 hs9 hs8z hw8 ho7 hbw7 HFa7 HFb hb27
      go_wp2_with (first | refine wpList_build2 rfl (.tmp 73) (.tmp 81) rfl ⟨2, [122], wArea, bb⟩ ⟨2, [122], wAddr, y2⟩ rfl rfl ?_ | (at_builtin; refine wpList_app rfl (.tmp 72) (.tmp 82) st_rls rfl w.heap.size (A := some ⟨g, 0, none⟩) (n := M + 1) (c := c1) (xs := LNS (LG k)) ?_ ?_ (m := 2) (c2 := 2) (A2 := some ⟨w7.heap.size + 1, 0, none⟩) (news := LNS [⟨2, [122], wArea, bb⟩, ⟨2, [122], wAddr, y2⟩]) ?_ ?_ ?_ ?_ ?_ ?_ ?_))
      · exact HO9.out
      · exact HS9.out
      · exact LNS_one _
      · simp [maxLen]; omega
      · omega
      · exact hbs
      intro Al cl wa hoa hga _
      have hba := HB9.out.trans ((grown_below HO9.out hga hbs).mono (Nat.le_refl _))
      have kS := Kept.of_grown (S := fun b => Value.ownBlock (.slice (some ⟨g, 0, none⟩) (M + 1) c1) = some b) hga (fun g' h => h)
      have HFaa := hid (sl_kept HFa9.out kS (fun ad had h => HFan.out ad had (by simp [Value.ownBlock] at h; exact h.symm)))
      have HFba := hid (sl_kept HFb9.out kS (fun ad had h => HFbn.out ad had (by simp [Value.ownBlock] at h; exact h.symm)))
      rw [← LNS_append, ← HLS.out] at hoa
      have HB3 := hid (build_any (LZ k j) Al (M + 1 + 2) cl wa (own_sl hoa) (LZ_ok k j) (HEN.out wa hba))
      have HR3 := hid (show RightC (buildC (LZ k j)) = true from build_right _ 100)
      have HO3b : Hid (∀ x ∈ buildC (LZ k j), LnOk x) := fun x hx => lnb_ok (build_lnb (LZ k j) x hx)
      have hC64c := right_len HR3.out
      have HBA := hid hba
      generalize buildC (LZ k j) = C3 at *
      clear hoa hga kS hba HO9 HS9 HB9 hbs HFa9 HFb9 HFan HFbn HLS st1 a2 a3
      go_wp2_with fail
      refine HB3.out.mono ?_
      rintro e wb ⟨⟨A7, c7, rfl, hs7⟩, hb10⟩
      have HTO3 := hid (to_any C3 A7 C3.length c7 wb hs7 (by omega))
      clear HB3 hs7
      go_wp2_with fail
      refine HTO3.out.mono ?_
      rintro e wd ⟨A8, c8, rfl, ho8, hb11⟩
      have hbd := hb10.trans (hb11.mono hb10.size)
      have HCK3 := hid (Check_yes C3 A8 C3.length c8 wd (own_sl ho8) HO3b.out (HEN.out wd (HBA.out.trans (hbd.mono HBA.out.size))) HR3.out)
      clear HTO3 ho8 hb10 hb11
      go_wp2_with fail
      refine HCK3.out.mono ?_
      rintro e we ⟨⟨Fc, cc, rfl, hofc⟩, hb12⟩
      have hbe := hbd.trans (hb12.mono hbd.size)
      have HTC : Hid (∀ w', Sl w' 2 (.slice Fc (checkC C3).length cc) (FTS (checkC C3)) → Calls Tryz.prog 41 #[.slice Fc (checkC C3).length cc] w' fun e w'' => e = .returned (.string (S8 (want3 k))) ∧ Below w'.heap.size w' w'') := fun w' hs => by
        have := Text8_any (checkC C3) Fc _ cc w' hs (checkC_names HO3b.out) (checkC_len hC64c)
        rwa [HT3j.out] at this
      have HFc := hid (own_sl hofc)
      have HFae := hid (HFaa.out.below hbe)
      have HFbe := hid (HFba.out.below hbe)
      have HBE := hid (HBA.out.trans (hbe.mono HBA.out.size))
      clear HCK3 hofc hb12 hbd hbe HFaa HFba HBA HO3b HR3 HT3j
      generalize checkC C1 = G1 at *
      generalize checkC C2 = G2 at *
      generalize checkC C3 = G3 at *
      have HTE := hid (tells8_any we (HEN.out we HBE.out))
      by_cases h8 : 8 < k
      · have i8 : (8 : Int) < (k : Int) := by omega
        have i7 : (7 : Int) < (k : Int) := by omega
        have h7 : 7 < k := by omega
        have e1 : want1 k = many := by unfold want1; rw [if_pos h8]
        have e3 : want3 k = (over ++ many) := by unfold want3; rw [if_pos h7]
        rw [e1] at HTA HTB
        rw [e3] at HTC
        rw [show S8 many = (⟨#[116, 111, 111, 109, 97, 110, 121, 10]⟩ : ByteArray) from rfl] at HTA
        rw [show S8 (norou ++ many) = (⟨#[110, 111, 114, 111, 117, 116, 101, 114, 10, 116, 111, 111, 109, 97, 110, 121, 10]⟩ : ByteArray) from rfl] at HTB
        rw [show S8 (over ++ many) = (⟨#[111, 118, 101, 114, 108, 97, 112, 32, 122, 10, 116, 111, 111, 109, 97, 110, 121, 10]⟩ : ByteArray) from rfl] at HTC
        have a6 := fun w' : World => cat8 (w := w') norou many (norou ++ many) rfl (by decide)
        rw [show S8 norou = (⟨#[110, 111, 114, 111, 117, 116, 101, 114, 10]⟩ : ByteArray) from rfl, show S8 many = (⟨#[116, 111, 111, 109, 97, 110, 121, 10]⟩ : ByteArray) from rfl, show S8 (norou ++ many) = (⟨#[110, 111, 114, 111, 117, 116, 101, 114, 10, 116, 111, 111, 109, 97, 110, 121, 10]⟩ : ByteArray) from rfl] at a6
        have a5 := fun w' : World => cat8 (w := w') over many (over ++ many) rfl (by decide)
        rw [show S8 over = (⟨#[111, 118, 101, 114, 108, 97, 112, 32, 122, 10]⟩ : ByteArray) from rfl, show S8 many = (⟨#[116, 111, 111, 109, 97, 110, 121, 10]⟩ : ByteArray) from rfl, show S8 (over ++ many) = (⟨#[111, 118, 101, 114, 108, 97, 112, 32, 122, 10, 116, 111, 111, 109, 97, 110, 121, 10]⟩ : ByteArray) from rfl] at a5
        clear e1 e3
        go_wp2_with fail
        refine HTE.out.mono ?_
        rintro e wf ⟨rfl, hbf⟩
        have H1 := hid (HTA.out wf (HFae.out.below hbf))
        clear HTE HTA
        go_wp2_with fail
        refine H1.out.mono ?_
        rintro e wg ⟨rfl, hbg⟩
        have hfg := hbf.trans (hbg.mono hbf.size)
        have H2 := hid (HTB.out wg (HFbe.out.below hfg))
        clear H1 HTB
        go_wp2_with fail
        refine H2.out.mono ?_
        rintro e wh ⟨rfl, hbh⟩
        have hfh := hfg.trans (hbh.mono hfg.size)
        have H3 := hid (HTC.out wh (HFc.out.below hfh))
        clear H2 HTC
        go_wp2_with fail
        refine H3.out.mono ?_
        rintro e wi ⟨rfl, hbi⟩
        have hfi := hfh.trans (hbi.mono hfh.size)
        have hend := HBE.out.trans (hfi.mono HBE.out.size)
        clear H3 hbf hbg hbh hbi hfg hfh hfi
        go_wp2_with fail
        go_ret
        exact ⟨rfl, hend⟩
      · by_cases h7 : 7 < k
        · have i8 : ¬ (8 : Int) < (k : Int) := by omega
          have i7 : (7 : Int) < (k : Int) := by omega
          have e1 : want1 k = [] := by unfold want1; rw [if_neg h8]
          have e3 : want3 k = (over ++ many) := by unfold want3; rw [if_pos h7]
          rw [e1] at HTA HTB
          rw [e3] at HTC
          rw [show S8 [] = (⟨#[]⟩ : ByteArray) from rfl] at HTA
          rw [show S8 (norou ++ []) = (⟨#[110, 111, 114, 111, 117, 116, 101, 114, 10]⟩ : ByteArray) from rfl] at HTB
          rw [show S8 (over ++ many) = (⟨#[111, 118, 101, 114, 108, 97, 112, 32, 122, 10, 116, 111, 111, 109, 97, 110, 121, 10]⟩ : ByteArray) from rfl] at HTC
          have a6 := fun w' : World => cat8 (w := w') norou [] (norou ++ []) rfl (by decide)
          rw [show S8 norou = (⟨#[110, 111, 114, 111, 117, 116, 101, 114, 10]⟩ : ByteArray) from rfl, show S8 [] = (⟨#[]⟩ : ByteArray) from rfl, show S8 (norou ++ []) = (⟨#[110, 111, 114, 111, 117, 116, 101, 114, 10]⟩ : ByteArray) from rfl] at a6
          have a5 := fun w' : World => cat8 (w := w') over many (over ++ many) rfl (by decide)
          rw [show S8 over = (⟨#[111, 118, 101, 114, 108, 97, 112, 32, 122, 10]⟩ : ByteArray) from rfl, show S8 many = (⟨#[116, 111, 111, 109, 97, 110, 121, 10]⟩ : ByteArray) from rfl, show S8 (over ++ many) = (⟨#[111, 118, 101, 114, 108, 97, 112, 32, 122, 10, 116, 111, 111, 109, 97, 110, 121, 10]⟩ : ByteArray) from rfl] at a5
          clear e1 e3
          go_wp2_with fail
          refine HTE.out.mono ?_
          rintro e wf ⟨rfl, hbf⟩
          have H1 := hid (HTA.out wf (HFae.out.below hbf))
          clear HTE HTA
          go_wp2_with fail
          refine H1.out.mono ?_
          rintro e wg ⟨rfl, hbg⟩
          have hfg := hbf.trans (hbg.mono hbf.size)
          have H2 := hid (HTB.out wg (HFbe.out.below hfg))
          clear H1 HTB
          go_wp2_with fail
          refine H2.out.mono ?_
          rintro e wh ⟨rfl, hbh⟩
          have hfh := hfg.trans (hbh.mono hfg.size)
          have H3 := hid (HTC.out wh (HFc.out.below hfh))
          clear H2 HTC
          go_wp2_with fail
          refine H3.out.mono ?_
          rintro e wi ⟨rfl, hbi⟩
          have hfi := hfh.trans (hbi.mono hfh.size)
          have hend := HBE.out.trans (hfi.mono HBE.out.size)
          clear H3 hbf hbg hbh hbi hfg hfh hfi
          go_wp2_with fail
          go_ret
          exact ⟨rfl, hend⟩
        · have i8 : ¬ (8 : Int) < (k : Int) := by omega
          have i7 : ¬ (7 : Int) < (k : Int) := by omega
          have e1 : want1 k = [] := by unfold want1; rw [if_neg h8]
          have e3 : want3 k = (over ++ []) := by unfold want3; rw [if_neg h7]
          rw [e1] at HTA HTB
          rw [e3] at HTC
          rw [show S8 [] = (⟨#[]⟩ : ByteArray) from rfl] at HTA
          rw [show S8 (norou ++ []) = (⟨#[110, 111, 114, 111, 117, 116, 101, 114, 10]⟩ : ByteArray) from rfl] at HTB
          rw [show S8 (over ++ []) = (⟨#[111, 118, 101, 114, 108, 97, 112, 32, 122, 10]⟩ : ByteArray) from rfl] at HTC
          have a6 := fun w' : World => cat8 (w := w') norou [] (norou ++ []) rfl (by decide)
          rw [show S8 norou = (⟨#[110, 111, 114, 111, 117, 116, 101, 114, 10]⟩ : ByteArray) from rfl, show S8 [] = (⟨#[]⟩ : ByteArray) from rfl, show S8 (norou ++ []) = (⟨#[110, 111, 114, 111, 117, 116, 101, 114, 10]⟩ : ByteArray) from rfl] at a6
          clear e1 e3
          go_wp2_with fail
          refine HTE.out.mono ?_
          rintro e wf ⟨rfl, hbf⟩
          have H1 := hid (HTA.out wf (HFae.out.below hbf))
          clear HTE HTA
          go_wp2_with fail
          refine H1.out.mono ?_
          rintro e wg ⟨rfl, hbg⟩
          have hfg := hbf.trans (hbg.mono hbf.size)
          have H2 := hid (HTB.out wg (HFbe.out.below hfg))
          clear H1 HTB
          go_wp2_with fail
          refine H2.out.mono ?_
          rintro e wh ⟨rfl, hbh⟩
          have hfh := hfg.trans (hbh.mono hfg.size)
          have H3 := hid (HTC.out wh (HFc.out.below hfh))
          clear H2 HTC
          go_wp2_with fail
          refine H3.out.mono ?_
          rintro e wi ⟨rfl, hbi⟩
          have hfi := hfh.trans (hbi.mono hfh.size)
          have hend := HBE.out.trans (hfi.mono HBE.out.size)
          clear H3 hbf hbg hbh hbi hfg hfh hfi
          go_wp2_with fail
          go_ret
          exact ⟨rfl, hend⟩
end RL
end Go.Proofs.YtecfkhgocjbocaaGreatDoor
namespace Go.Proofs.YtecfkhgocjbocaaGreatDoor.rulesGood
open Go.ChangeShapes Go.WideShapes Go.ChangeAt Go.RowKit
open Go.ChangeMaps (open_string shut_string)
set_option linter.unusedVariables false

theorem own : ownKnob Tryz.prog.godebug = none := by kernel_rfl
theorem laidOut : laidOutB Tryz.prog = true := by kernel_rfl
theorem one_laid : Rows.rulesGoodRow.laid.filter (fun x => x.1 == "internal/strconv.uint64pow10") = [("internal/strconv.uint64pow10", Lib.tabData .u64 Lib.pow10Tab)] := by kernel_rfl
theorem tab_of {W : World} (hL : laidMetH Tryz.prog Rows.rulesGoodRow.laid W) : Lib.TabIs Tryz.prog W "internal/strconv.uint64pow10" .u64 Lib.pow10Tab := by
  have h1 := laidMetH.filter (fun x => x.1 == "internal/strconv.uint64pow10") hL
  rw [one_laid, MakeChecks.laidMetH_plain _ _ _ (by kernel_rfl)] at h1
  exact Lib.tabIs_of_head (g := (Tryz.prog.globalNamed "internal/strconv.uint64pow10").getD 0) (t := 230) (e := 30) (n := 20) (by kernel_rfl) (by kernel_rfl) Tryz.underlying230 Tryz.underlying30 (by kernel_rfl) (by kernel_rfl) h1
set_option maxRecDepth 100000 in
theorem lifted (os : Os) (started : os.Started) (H : Type) (enc : TypeId × Value → H) :
    ReturnsInHanded {} Tryz.checked os 9 .any (fun w args => (Rows.rulesGoodSpec.pre enc Tryz.prog Tryz.f9 [] false w args ∧ laidMetH Tryz.prog Rows.rulesGoodRow.laid w) ∧ sizedMet enc Tryz.prog Tryz.f9 (OpenSpec.ofChange Rows.rulesGoodSpec) false w args)
      (Rows.rulesGoodSpec.post enc Tryz.prog Tryz.f9 false true false false) := by
  refine wrap_laid (C := Tryz.checked) (X := fun w _ => laidMetH Tryz.prog Rows.rulesGoodRow.laid w) (fun _ _ _ hh h => h.of_heap hh) own started (by kernel_rfl) Tryz.func9
    (ChangeSpec.witness_shaped (enc := enc) (C := Tryz.checked) (os := os) (X := fun w _ => laidMetH Tryz.prog Rows.rulesGoodRow.laid w) false (World.laidAll Tryz.prog os Rows.rulesGoodRow.laid) #[.int .i64 0, .int .i64 0] 8 (World.laidAll_os _ _ _)
      (World.shaped_of_ZipB (by kernel_rfl) (by kernel_rfl)) (by kernel_rfl) (by kernel_rfl) (by kernel_rfl)
      (by rw [MakeChecks.laidMetH_plain _ _ _ (by kernel_rfl)]; exact laidMet_laidAll _ (by kernel_rfl) (by kernel_rfl))) ?_
  intro W base args ds gs before hval0 hW hsz0 hL hsh
  have hval : ∀ (j : Nat) t v, Tryz.f9.params[j]? = some t → args[j]? = some v → Value.okWide Tryz.prog W .any base t v := hval0
  have hen : Env W := ⟨hsh, tab_of hL⟩
  have hW' := hW
  obtain ⟨p, q, hA0, hV, rfl, _, _⟩ := hW
  have hA : DataW.TrodAll enc Tryz.prog W 0 (fun _ => true) true Tryz.f9.params.toList args.toList ds p := hA0
  rw [Tryz.params9] at hA hval
  obtain ⟨v0, vs0, d0, ds0, p0, q0, hargs, rfl, rfl, h0, r0⟩ := trodAll_cons hA
  obtain ⟨v1, vs1, d1, ds1, p1, q1, rfl, rfl, rfl, h1, r1⟩ := trodAll_cons r0
  obtain ⟨rfl, rfl, rfl⟩ := trodAll_nil r1
  obtain rfl : args = #[v0, v1] := by cases args; simp_all
  obtain ⟨rfl, rfl⟩ := trodVars_none hV
  have k0 := h0
  have lt0 : ∀ x ∈ p0, x.block < W.heap.size := by obtain ⟨m, hm⟩ := k0; exact DataW.trod_lt m _ _ _ hm
  have k1 := h1
  have lt1 : ∀ x ∈ p1, x.block < W.heap.size := by obtain ⟨m, hm⟩ := k1; exact DataW.trod_lt m _ _ _ hm
  obtain ⟨x0, rfl, rfl, rfl, wx0⟩ := open_int Tryz.underlying3 (hval 0 3 v0 rfl rfl) h0
  obtain ⟨x1, rfl, rfl, rfl, wx1⟩ := open_int Tryz.underlying3 (hval 1 3 v1 rfl rfl) h1
  clear hA0 hval0
  refine (RL.rulesGood_walk x0 x1 W hen).mono fun e W' ⟨he, bel⟩ => ?_
  subst he
  exact ⟨_, rfl, _, _, _, [], _, [], hW', trodAll_mk1 (shut_bool Tryz.underlying4 _), (trodAll_cons_mk (Below.trod laidOut (by kernel_rfl) (of_decide_eq_true (by kernel_rfl)) k0 bel lt0) (trodAll_cons_mk (Below.trod laidOut (by kernel_rfl) (of_decide_eq_true (by kernel_rfl)) k1 bel lt1) trodAll_mk0)), rfl, bel.frame _, fun h => by cases h⟩

theorem holds : Rows.RulesGoodSaid :=
  OpenClaim.holds_of_wide 9 Tryz.f9 rfl rfl rfl rfl rfl rfl rfl ⟨rfl, rfl, rfl, rfl, rfl⟩ rfl rfl rfl rfl rfl (by kernel_rfl) Tryz.func9 (by kernel_rfl)
    (of_decide_eq_true (by kernel_rfl)) (by unfold Func.isWrapper; first | (rw [if_pos (by decide +kernel)]; kernel_rfl) | (rw [if_neg (by decide +kernel)]; exact ⟨rfl, rfl⟩))
    (fun os started H enc _ => lifted os started H enc)
/-- THE STATEMENT -/
theorem proved : Rows.RulesGoodCardSaid :=
  Claim7.holds_tied_plain_at .later [] Rows.rulesGoodCard.laidKinds true Rows.rulesGoodCard.stood.harness Rows.rulesGoodCard.stood.looks holds (fun _ h => by cases h) (by kernel_rfl) (fun _ h => by cases h) rulesGood_row_tie rfl ⟨rfl, rfl⟩ (by kernel_rfl) rfl
    (fun f fn hf hfn => by
      obtain rfl : f = 9 := Option.some.inj ((show Tryz.prog.funcNamed "waystone/waystonelaw08.RulesGood" = some 9 by kernel_rfl).symm.trans hf) |>.symm
      obtain rfl : fn = Tryz.f9 := (Option.some.inj (Tryz.func9.symm.trans hfn)).symm
      exact ⟨by kernel_rfl, fun j t ht => by
        rw [Tryz.params9] at ht
        have hm : t ∈ [3, 3] := by simpa using Array.mem_of_getElem? ht
        have hall : ([3, 3].all fun u => !Tryz.prog.wantsStandIn u) = true := by kernel_rfl
        exact (show Tryz.prog.wantsStandIn t = false by simpa using List.all_eq_true.1 hall t hm)⟩)
    (by kernel_rfl)
#print axioms proved
end Go.Proofs.YtecfkhgocjbocaaGreatDoor.rulesGood
