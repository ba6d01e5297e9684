/-
  Plain: a header's bytes out of its fields; contract of the law's puts.
-/
import Derived.Test.YtaajhkdifliblaaLsa11
namespace Go.Proofs.Ytaajhkdifliblaa
set_option linter.unusedVariables false
set_option linter.unusedSimpArgs false
open Go Go.RowKit SM LM

theorem be_mod (k x : Nat) : be k (x % 256 ^ k) = be k x := by
  have key : ∀ (j m : Nat), j ≤ m → be j (x % 256 ^ m) = be j x := by
    intro j
    induction j with
    | zero => intro m _; rfl
    | succ j ih =>
      intro m hm
      simp only [be]
      rw [ih m (by omega)]
      congr 2
      rw [pow8]
      have e : 256 ^ m = 256 ^ j * 256 ^ (m - j) := by rw [← Nat.pow_add]; congr 1; omega
      rw [e, Nat.mod_mul_right_div_self]
      have e2 : 256 ^ (m - j) = 256 * 256 ^ (m - j - 1) := by rw [← Nat.pow_succ']; congr 1; omega
      rw [e2, Nat.mod_mul_right_mod]
  exact key k k (Nat.le_refl _)
theorem be_snoc (k x : Nat) (c : UInt8) : be (k + 1) (x * 256 + c.toNat) = be k x ++ [c] := by
  induction k generalizing x with
  | zero => simp [be]
  | succ k ih =>
    have e : be (k + 1 + 1) (x * 256 + c.toNat) = UInt8.ofNat ((x * 256 + c.toNat) / 2 ^ (8 * (k + 1)) % 256) :: be (k + 1) (x * 256 + c.toNat) := rfl
    rw [e, ih]
    have e2 : be (k + 1) x = UInt8.ofNat (x / 2 ^ (8 * k) % 256) :: be k x := rfl
    rw [e2]
    have e3 : (x * 256 + c.toNat) / 2 ^ (8 * (k + 1)) = x / 2 ^ (8 * k) := by
      rw [pow8, pow8, Nat.pow_succ', ← Nat.div_div_eq_div_mul]
      congr 1
      have := c.toNat_lt
      omega
    rw [e3]
    rfl
theorem be_nv (l : List UInt8) (k : Nat) (h : k ≤ l.length) : be k (nv l k) = l.take k := by
  induction k with
  | zero => simp [be]
  | succ k ih =>
    have e : nv l (k + 1) = nv l k * 256 + byt l k := rfl
    rw [e, List.take_succ_eq_append_getElem (by omega)]
    have e2 : byt l k = (l[k]'(by omega)).toNat := by simp [byt, List.getD_eq_getElem?_getD, List.getElem?_eq_getElem (show k < l.length by omega)]
    rw [e2, be_snoc, ih (by omega)]
theorem be_fld (l : List UInt8) (o k : Nat) (h : o + k ≤ l.length) : be k (fld l o k) = (l.drop o).take k := be_nv _ _ (by rw [List.length_drop]; omega)
theorem take_cut (l : List UInt8) (a b : Nat) : l.take a ++ (l.drop a).take b = l.take (a + b) := by rw [List.take_add]
theorem w64_mod (z : Int) : (w64 z).toNat % 4294967296 = (z % 4294967296).toNat := by unfold w64; rw [IntKind.wrap_u64]; omega
theorem wrap32_mod (n : Nat) (h : n < 4294967296) : (wrap32 (n : Int) % 4294967296).toNat = n := by unfold wrap32; omega
/-- a header's bytes, out of its fields -/
theorem hdrB_head (l : List UInt8) (h : 20 ≤ l.length) (h2 : byt l 2 = 2) : hdrB (fld l 0 2 : Nat) (fld l 3 1 : Nat) (fld l 4 4 : Nat) (fld l 8 4 : Nat) (sq l) (fld l 16 2 : Nat) (fld l 18 2 : Nat) = l.take 20 := by
  unfold hdrB
  have b0 := fld_bd l 0 2 (by omega)
  have b3 : fld l 3 1 = byt l 3 := by unfold fld; rw [nv1, byt_drop]
  have b12 := fld_bd l 12 4 (by omega)
  have b18 := fld_bd l 18 2 (by omega)
  have w0 : w64 ((fld l 0 2 : Nat) : Int) = (fld l 0 2 : Nat) := IntWalk.u64_in _ (by omega)
  have w18 : w64 ((fld l 18 2 : Nat) : Int) = (fld l 18 2 : Nat) := IntWalk.u64_in _ (by omega)
  have wq : be 4 (w64 (sq l)).toNat = be 4 (fld l 12 4) := by
    have e : (w64 (sq l)).toNat % 256 ^ 4 = fld l 12 4 := by
      show (w64 (sq l)).toNat % 4294967296 = _
      rw [w64_mod]
      exact wrap32_mod _ b12
    rw [← be_mod 4 (w64 (sq l)).toNat, e]
  rw [w0, w18, wq]
  simp only [Int.toNat_natCast]
  rw [be_fld l 0 2 (by omega), be_fld l 4 4 (by omega), be_fld l 8 4 (by omega), be_fld l 12 4 (by omega), be_fld l 16 2 (by omega), be_fld l 18 2 (by omega)]
  have e23 : ([2, UInt8.ofNat (((fld l 3 1 : Nat) : Int) % 256).toNat] : List UInt8) = (l.drop 2).take 2 := by
    rw [b3]
    have h3 := byt_lt l 3
    have g2 : l[2]'(by omega) = 2 := by
      have : byt l 2 = (l[2]'(by omega)).toNat := by simp [byt, List.getD_eq_getElem?_getD, List.getElem?_eq_getElem (show 2 < l.length by omega)]
      rw [h2] at this
      exact UInt8.toNat_inj.1 (by rw [← this]; rfl)
    have g3 : UInt8.ofNat (((byt l 3 : Nat) : Int) % 256).toNat = l[3]'(by omega) := by
      have : byt l 3 = (l[3]'(by omega)).toNat := by simp [byt, List.getD_eq_getElem?_getD, List.getElem?_eq_getElem (show 3 < l.length by omega)]
      apply UInt8.toNat_inj.1
      rw [← this]
      simp
      omega
    rw [g3]
    have e2 : l.drop 2 = l[2] :: l[3] :: l.drop 4 := by
      rw [List.drop_eq_getElem_cons (by omega), List.drop_eq_getElem_cons (by omega)]
    rw [e2, g2]
    rfl
  rw [e23, List.drop_zero, take_cut, take_cut, take_cut, take_cut, take_cut, take_cut]
theorem putB_two (L : Lsa) : byt (putB L) 2 = 2 := by
  rw [byt_putB, if_neg (by omega), if_neg (by omega)]
  exact (fld_hdr L.age L.kty L.kid L.kadv L.seq 0 (20 + (tellB L).length : Nat) (tellB L)).2.2.2.2.2.2.2
theorem putB_len (L : Lsa) (hr : L.right = true) : fld (putB L) 18 2 = (putB L).length := by
  have e0 : fld (putB L) 18 2 = fld (hdrB L.age L.kty L.kid L.kadv L.seq 0 (20 + (tellB L).length : Nat) ++ tellB L) 18 2 :=
    fld_congr _ _ _ _ fun j h1 h2 => by rw [byt_putB, if_neg (by omega), if_neg (by omega)]; rfl
  rw [e0, (fld_hdr L.age L.kty L.kid L.kadv L.seq 0 (20 + (tellB L).length : Nat) (tellB L)).2.2.2.2.2.2.1, putB_length]
  have := tellB_length L hr
  have w1 : w64 ((20 + (tellB L).length : Nat) : Int) = (20 + (tellB L).length : Nat) := IntWalk.u64_in _ (by omega)
  rw [w1]
  omega
theorem putB_getL (L : Lsa) (hw : WfL L) (hr : L.right = true) : getL (putB L) = L := by
  unfold getL
  rw [if_pos (putB_getE L hw hr), putB_back L hw hr]

def putsL : Lsa := ⟨0, 1, 5, 5, -2147483647, [], 0, [], 0⟩
theorem putsL_right : putsL.right = true := by decide
theorem putsL_wf : WfL putsL := ⟨by simp [putsL], by simp [putsL], by simp [putsL], by simp [putsL], by simp [putsL]⟩
theorem putsL_len : (putB putsL).length = 24 := by rw [putB_length]; rfl

set_option maxRecDepth 100000 in
set_option maxHeartbeats 1600000 in
theorem puts_any (w : World) : Calls Try.prog 43 #[] w fun e w' => e = .returned (.bool true) ∧ Below w.heap.size w w' := by
  have hg0 := hid (putB_getE putsL putsL_wf putsL_right)
  have hgl := hid (putB_getL putsL putsL_wf putsL_right)
  have HL := hid putsL_len
  go_enter Try.func43, Try.ntmps43
  go_wp2_with fail
  refine (put_yes putsL none 0 0 none 0 0 w ⟨sl_nil w 4, sl_nil w 1⟩ putsL_wf putsL_right (by omega) (by omega)).mono ?_
  rintro e w1 ⟨A, c, n, rfl, hown, hb1⟩
  have hn := (own_sl hown).len.1
  rw [HL.out] at hn
  subst hn
  go_wp2_with fail
  refine (get_any A 24 c (putB putsL) w1 (own_sl hown) (by omega)).mono ?_
  rintro e w2 ⟨A1, n1, c1, A2, n2, c2, rfl, hI, hb2⟩
  rw [hg0.out, hgl.out]
  have hbb := hb1.trans (hb2.mono hb1.size)
  clear hI
  go_wp2_with fail
  go_ret
  refine ⟨rfl, ?_⟩
  have hsz := hbb.size
  (repeat (first | with_reducible exact Below.refl _ _ | with_reducible assumption | with_reducible refine Below.drew ?_ | with_reducible refine below_drewN ?_ _ | (with_reducible refine Below.alloc ?_ ?_ _; rotate_left; · (first | (simp; done) | omega | (simp at *; omega))) | (with_reducible refine Below.setCell ?_ ?_ _; rotate_left; · (first | (simp only []; omega) | (simp; done) | (simp; omega))) | with_reducible refine Below.trans ?_ (by with_reducible assumption)))
end Go.Proofs.Ytaajhkdifliblaa
