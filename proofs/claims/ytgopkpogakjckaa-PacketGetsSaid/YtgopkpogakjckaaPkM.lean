/-
  Plain words of layer 11: packets as bytes, and read back.
-/
import Derived.Test.YtgopkpogakjckaaLsaP
namespace Go.Proofs.Ytgopkpogakjckaa.PK
set_option linter.unusedVariables false
set_option linter.unusedSimpArgs false
open Go.RowKit SM LM

structure Hdr where
  age : Int
  ty : Int
  id : Int
  adv : Int
  seq : Int
  sum : Int
  len : Int
structure Ky where
  ty : Int
  id : Int
  adv : Int
structure Pkt where
  ty : Int
  router : Nat
  area : Nat
  auth : ByteArray
  mask : Nat
  intv : Int
  dead : Int
  prio : Int
  dr : Nat
  bdr : Nat
  nbs : List Nat
  flags : Int
  seq : Nat
  heads : List Hdr
  keys : List Ky
  lsas : List Lsa

def isI (z : Int) : Prop := -9223372036854775808 ≤ z ∧ z ≤ 9223372036854775807
def isU (z : Int) : Prop := 0 ≤ z ∧ z < 4294967296
def Hdr.wf (h : Hdr) : Prop := isI h.age ∧ isI h.ty ∧ isU h.id ∧ isU h.adv ∧ isI h.seq ∧ (0 ≤ h.sum ∧ h.sum < 65536) ∧ isI h.len
def Ky.wf (k : Ky) : Prop := isI k.ty ∧ isU k.id ∧ isU k.adv
structure WfP (P : Pkt) : Prop where
  ty : isI P.ty
  router : P.router < 4294967296
  area : P.area < 4294967296
  mask : P.mask < 4294967296
  intv : isI P.intv
  dead : isI P.dead
  prio : isI P.prio
  dr : P.dr < 4294967296
  bdr : P.bdr < 4294967296
  nbs : ∀ x ∈ P.nbs, x < 4294967296
  flags : isI P.flags
  seq : P.seq < 4294967296
  heads : ∀ x ∈ P.heads, x.wf
  keys : ∀ x ∈ P.keys, x.wf
  lsas : ∀ x ∈ P.lsas, WfL x

/-! ### may one be? -/
def Hdr.ok (h : Hdr) : Bool := decide (0 ≤ h.age ∧ h.age ≤ 65535) && decide (0 ≤ h.len ∧ h.len ≤ 65535) && decide (-2147483648 ≤ h.seq ∧ h.seq ≤ 2147483647) && decide (0 ≤ h.ty ∧ h.ty ≤ 255)
def Ky.ok (k : Ky) : Bool := decide (0 ≤ k.ty ∧ k.ty ≤ 255)
def noHello (P : Pkt) : Bool := P.mask == 0 && P.intv == 0 && P.dead == 0 && P.prio == 0 && P.dr == 0 && P.bdr == 0 && P.nbs.length == 0
def plainP (P : Pkt) : Bool :=
  (P.ty == 1 || noHello P) && (P.ty == 2 || P.flags == 0 && P.seq == 0) && (P.ty == 2 || P.ty == 5 || P.heads.length == 0) && (P.ty == 3 || P.keys.length == 0) && (P.ty == 4 || P.lsas.length == 0)
def greetsP (P : Pkt) : Bool := decide (1 ≤ P.intv ∧ P.intv ≤ 65535) && decide (1 ≤ P.dead ∧ P.dead ≤ 65535) && decide (0 ≤ P.prio ∧ P.prio ≤ 255) && decide (P.nbs.length ≤ 20)
def noZero (s : ByteArray) : Bool := s.data.toList.all (· != 0)
/-- but for its Lsas -/
def rightP (P : Pkt) : Bool :=
  decide (1 ≤ P.ty ∧ P.ty ≤ 5) && decide (P.auth.size ≤ 8) && noZero P.auth && plainP P && (P.ty != 1 || greetsP P) &&
    decide (P.heads.length ≤ 20) && decide (P.keys.length ≤ 20) && decide (P.lsas.length ≤ 20) && P.keys.all Ky.ok && decide (0 ≤ P.flags ∧ P.flags ≤ 7) && P.heads.all Hdr.ok
def rightR (P : Pkt) : Bool := rightP P && P.lsas.all Lsa.right

/-! ### as bytes -/
def u8 (z : Int) : UInt8 := UInt8.ofNat (z % 256).toNat
def Hdr.bytes (h : Hdr) : List UInt8 := hdrB h.age h.ty h.id h.adv h.seq h.sum h.len
def Ky.bytes (k : Ky) : List UInt8 := be 4 (w64 k.ty).toNat ++ be 4 k.id.toNat ++ be 4 k.adv.toNat
def greetB (P : Pkt) : List UInt8 := be 4 P.mask ++ be 2 (w64 P.intv).toNat ++ [2, u8 P.prio] ++ be 4 (w64 P.dead).toNat ++ be 4 P.dr ++ be 4 P.bdr ++ P.nbs.flatMap (be 4)
def mainB (P : Pkt) : List UInt8 :=
  if P.ty = 1 then greetB P
  else if P.ty = 2 then [5, 220, 2, u8 P.flags] ++ be 4 P.seq
  else if P.ty = 3 then P.keys.flatMap Ky.bytes
  else if P.ty = 4 then be 4 P.lsas.length ++ P.lsas.flatMap putB
  else []
def bodyB (P : Pkt) : List UInt8 := mainB P ++ P.heads.flatMap Hdr.bytes
def kindP (s : ByteArray) : Nat := if s.size = 0 then 0 else 1
def key8 (s : ByteArray) : List UInt8 := (s.data.toList ++ List.replicate 8 0).take 8
def sumL (l : List UInt8) : List UInt8 := ((l.take 16 ++ l.drop 24).set 12 0).set 13 0
def sumP (l : List UInt8) : Nat := inet (sumL l)
def frontB (P : Pkt) (n : Nat) : List UInt8 := [2, u8 P.ty] ++ be 2 (24 + n) ++ be 4 P.router ++ be 4 P.area ++ be 2 0 ++ be 2 (kindP P.auth)
def rawP (P : Pkt) : List UInt8 := frontB P (bodyB P).length ++ key8 P.auth ++ bodyB P
def fixP (l : List UInt8) : List UInt8 := (l.set 12 (UInt8.ofNat (sumP l / 256))).set 13 (UInt8.ofNat (sumP l % 256))
def putP (P : Pkt) : List UInt8 := fixP (rawP P)

/-! ### read back -/
def hdOf (l : List UInt8) : Hdr := ⟨(fld l 0 2 : Nat), (fld l 3 1 : Nat), (fld l 4 4 : Nat), (fld l 8 4 : Nat), sq l, (fld l 16 2 : Nat), (fld l 18 2 : Nat)⟩
def headsOf (l : List UInt8) : List Hdr :=
  if h : 20 ≤ l.length then hdOf l :: headsOf (l.drop 20) else []
  termination_by l.length
  decreasing_by simp; omega
theorem headsOf_yes (l : List UInt8) (h : 20 ≤ l.length) : headsOf l = hdOf l :: headsOf (l.drop 20) := by
  rw [headsOf, dif_pos h]
theorem headsOf_no (l : List UInt8) (h : l.length < 20) : headsOf l = [] := by
  rw [headsOf, dif_neg (by omega)]
def keysOf (l : List UInt8) : List Ky :=
  if h : 12 ≤ l.length then ⟨(nv l 4 : Nat), (nv (l.drop 4) 4 : Nat), (nv (l.drop 8) 4 : Nat)⟩ :: keysOf (l.drop 12) else []
  termination_by l.length
  decreasing_by simp; omega
theorem keysOf_yes (l : List UInt8) (h : 12 ≤ l.length) : keysOf l = ⟨(nv l 4 : Nat), (nv (l.drop 4) 4 : Nat), (nv (l.drop 8) 4 : Nat)⟩ :: keysOf (l.drop 12) := by
  rw [keysOf, dif_pos h]
theorem keysOf_no (l : List UInt8) (h : l.length < 12) : keysOf l = [] := by
  rw [keysOf, dif_neg (by omega)]
/-- so many Lsas: the error, and they -/
def lsasOf : Nat → List UInt8 → Int × List Lsa
  | 0, _ => (0, [])
  | n + 1, y =>
    if y.length < 20 ∨ fld y 18 2 < 20 ∨ y.length < fld y 18 2 then (3, [])
    else if getE (y.take (fld y 18 2)) ≠ 0 then (getE (y.take (fld y 18 2)), [])
    else ((lsasOf n (y.drop (fld y 18 2))).1, bodyL (y.take (fld y 18 2)) :: (lsasOf n (y.drop (fld y 18 2))).2)
def helloP (y : List UInt8) (P : Pkt) : Pkt :=
  { P with
    mask := takeV y 4, intv := (takeV (takeR y 4) 2 : Nat), prio := (takeV (takeR (takeR (takeR y 4) 2) 1) 1 : Nat),
    dead := (takeV (takeR (takeR (takeR (takeR y 4) 2) 1) 1) 4 : Nat),
    dr := takeV (takeR (takeR (takeR (takeR (takeR y 4) 2) 1) 1) 4) 4,
    bdr := takeV (takeR (takeR (takeR (takeR (takeR (takeR y 4) 2) 1) 1) 4) 4) 4,
    nbs := routersOf (takeR (takeR (takeR (takeR (takeR (takeR (takeR y 4) 2) 1) 1) 4) 4) 4) }
def dataP (y : List UInt8) (P : Pkt) : Pkt :=
  { P with flags := (takeV (takeR y 3) 1 : Nat), seq := takeV (takeR (takeR y 3) 1) 4, heads := headsOf (takeR (takeR (takeR y 3) 1) 4) }
def lsasE (y : List UInt8) : Int := if y.length < 4 ∨ 20 < nv y 4 then 3 else (lsasOf (nv y 4) (y.drop 4)).1
def tellsE (y : List UInt8) (P : Pkt) : Int := if P.ty = 4 then lsasE y else 0
def tellsP (y : List UInt8) (P : Pkt) : Pkt :=
  if P.ty = 1 then helloP y P
  else if P.ty = 2 then dataP y P
  else if P.ty = 3 then { P with keys := keysOf y }
  else if P.ty = 4 then { P with lsas := (lsasOf (nv y 4) (y.drop 4)).2 }
  else if P.ty = 5 then { P with heads := headsOf y }
  else P
def framedE (l : List UInt8) (s : ByteArray) : Int :=
  if l.length < 24 then 4
  else if byt l 0 ≠ 2 ∨ fld l 2 2 ≠ l.length then 3
  else if fld l 12 2 ≠ sumP l then 8
  else if fld l 14 2 ≠ kindP s ∨ (l.drop 16).take 8 ≠ key8 s ∨ 8 < s.size then 9
  else 0
def emptyS : ByteArray := ⟨#[]⟩
def zeroP : Pkt := ⟨0, 0, 0, emptyS, 0, 0, 0, 0, 0, 0, [], 0, 0, [], [], []⟩
def frontP (l : List UInt8) (s : ByteArray) : Pkt := ⟨(byt l 1 : Nat), fld l 4 4, fld l 8 4, s, 0, 0, 0, 0, 0, 0, [], 0, 0, [], [], []⟩
def wholeP (l : List UInt8) (s : ByteArray) : Pkt := tellsP (l.drop 24) (frontP l s)
/-- the error -/
def getPE (l : List UInt8) (s : ByteArray) : Int :=
  if framedE l s ≠ 0 then framedE l s
  else if tellsE (l.drop 24) (frontP l s) ≠ 0 then tellsE (l.drop 24) (frontP l s)
  else if rightR (wholeP l s) = true ∧ putP (wholeP l s) = l then 0 else 3
def getP (l : List UInt8) (s : ByteArray) : Pkt := if getPE l s = 0 then wholeP l s else zeroP

/-! ### what is laid is read back -/
theorem hdr_back (h : Hdr) (r : List UInt8) (hw : h.wf) (hk : h.ok = true) : headsOf (h.bytes ++ r) = h :: headsOf r := by
  obtain ⟨age, ty, id, adv, seq, sum, len⟩ := h
  obtain ⟨_, _, h1, h2, _, h3, _⟩ := hw
  simp only [isU] at h1 h2 h3
  simp [Hdr.ok] at hk
  obtain ⟨⟨⟨k1, k2⟩, k3⟩, k4⟩ := hk
  have hl : (Hdr.bytes ⟨age, ty, id, adv, seq, sum, len⟩).length = 20 := hdrB_length _ _ _ _ _ _ _
  rw [headsOf_yes _ (by rw [List.length_append, hl]; omega), List.drop_left' hl]
  congr 1
  obtain ⟨f1, f2, f3, f4, f5, f6, f7, _⟩ := fld_hdr age ty id adv seq sum len r
  have ea : w64 age = age := IntWalk.u64_in _ (by omega)
  have el : w64 len = len := IntWalk.u64_in _ (by omega)
  have es : sq (Hdr.bytes ⟨age, ty, id, adv, seq, sum, len⟩ ++ r) = seq := by
    unfold sq
    show wrap32 ((fld (hdrB age ty id adv seq sum len ++ r) 12 4 : Nat) : Int) = seq
    rw [f5]
    unfold w64
    rw [IntKind.wrap_u64]
    unfold wrap32
    omega
  unfold hdOf
  rw [es]
  show (⟨((fld (hdrB age ty id adv seq sum len ++ r) 0 2 : Nat) : Int), ((fld (hdrB age ty id adv seq sum len ++ r) 3 1 : Nat) : Int), ((fld (hdrB age ty id adv seq sum len ++ r) 4 4 : Nat) : Int), ((fld (hdrB age ty id adv seq sum len ++ r) 8 4 : Nat) : Int), seq, ((fld (hdrB age ty id adv seq sum len ++ r) 16 2 : Nat) : Int), ((fld (hdrB age ty id adv seq sum len ++ r) 18 2 : Nat) : Int)⟩ : Hdr) = _
  rw [f1, f2, f3, f4, f6, f7, ea, el]
  congr 1 <;> omega
theorem heads_back (l : List Hdr) (hw : ∀ x ∈ l, x.wf) (hk : l.all Hdr.ok = true) : headsOf (l.flatMap Hdr.bytes) = l := by
  induction l with
  | nil => exact headsOf_no _ (by simp)
  | cons x l ih =>
    simp only [List.all_cons, Bool.and_eq_true] at hk
    rw [List.flatMap_cons, hdr_back x _ (hw x (by simp)) hk.1, ih (fun y hy => hw y (by simp [hy])) hk.2]
theorem key_back (k : Ky) (r : List UInt8) (hw : k.wf) (hk : k.ok = true) : keysOf (k.bytes ++ r) = k :: keysOf r := by
  obtain ⟨ty, id, adv⟩ := k
  obtain ⟨_, h1, h2⟩ := hw
  simp only [isU] at h1 h2
  simp [Ky.ok] at hk
  have e4 : (Ky.bytes ⟨ty, id, adv⟩ ++ r).drop 4 = be 4 id.toNat ++ (be 4 adv.toNat ++ r) := by
    simp only [Ky.bytes, List.append_assoc]
    rw [List.drop_left' (be_length 4 _)]
  have e8 : (Ky.bytes ⟨ty, id, adv⟩ ++ r).drop 8 = be 4 adv.toNat ++ r := by
    rw [show 8 = 4 + 4 from rfl, ← List.drop_drop, e4, List.drop_left' (be_length 4 _)]
  have e12 : (Ky.bytes ⟨ty, id, adv⟩ ++ r).drop 12 = r := by
    rw [show 12 = 8 + 4 from rfl, ← List.drop_drop, e8, List.drop_left' (be_length 4 _)]
  have hl : (Ky.bytes ⟨ty, id, adv⟩).length = 12 := by simp [Ky.bytes, be_length]
  rw [keysOf_yes _ (by rw [List.length_append, hl]; omega), e4, e8, e12]
  have n0 : nv (Ky.bytes ⟨ty, id, adv⟩ ++ r) 4 = (w64 ty).toNat := by
    simp only [Ky.bytes, List.append_assoc]
    refine nv_be 4 _ _ ?_
    have : w64 ty = ty := IntWalk.u64_in _ (by omega)
    rw [this]
    simp
    omega
  have et : w64 ty = ty := IntWalk.u64_in _ (by omega)
  rw [n0, et, nv_be 4 _ _ (by simp; omega), nv_be 4 _ _ (by simp; omega)]
  congr 2 <;> omega
theorem keys_back (l : List Ky) (hw : ∀ x ∈ l, x.wf) (hk : l.all Ky.ok = true) : keysOf (l.flatMap Ky.bytes) = l := by
  induction l with
  | nil => exact keysOf_no _ (by simp)
  | cons x l ih =>
    simp only [List.all_cons, Bool.and_eq_true] at hk
    rw [List.flatMap_cons, key_back x _ (hw x (by simp)) hk.1, ih (fun y hy => hw y (by simp [hy])) hk.2]
theorem putB_len18 (L : Lsa) (hr : L.right = true) (r : List UInt8) : fld (putB L ++ r) 18 2 = (putB L).length := by
  have hl := tellB_length L hr
  have h1 : fld (putB L ++ r) 18 2 = fld (rawB L ++ r) 18 2 := by
    refine fld_congr _ _ _ _ fun j h1 h2 => ?_
    have hp := putB_length L
    have hq := rawB_length L
    rw [byt_append_l _ _ _ (by omega), byt_append_l _ _ _ (by omega), byt_putB, if_neg (by omega), if_neg (by omega)]
  rw [h1]
  unfold rawB
  rw [List.append_assoc]
  obtain ⟨_, _, _, _, _, _, f7, _⟩ := fld_hdr L.age L.kty L.kid L.kadv L.seq 0 (20 + (tellB L).length : Nat) (tellB L ++ r)
  rw [f7, putB_length]
  have e : w64 ((20 + (tellB L).length : Nat) : Int) = ((20 + (tellB L).length : Nat) : Int) := IntWalk.u64_in _ (by omega)
  rw [e]
  omega
theorem lsas_back (l : List Lsa) (hw : ∀ x ∈ l, WfL x) (hk : l.all Lsa.right = true) (r : List UInt8) : lsasOf l.length (l.flatMap putB ++ r) = (0, l) := by
  induction l with
  | nil => rfl
  | cons x l ih =>
    simp only [List.all_cons, Bool.and_eq_true] at hk
    have h18 := putB_len18 x hk.1 (l.flatMap putB ++ r)
    have hp := putB_length x
    have e1 : (x :: l).flatMap putB ++ r = putB x ++ (l.flatMap putB ++ r) := by rw [List.flatMap_cons, List.append_assoc]
    rw [e1, List.length_cons]
    have ht : (putB x ++ (l.flatMap putB ++ r)).take (fld (putB x ++ (l.flatMap putB ++ r)) 18 2) = putB x := by rw [h18]; exact List.take_left' rfl
    have hd : (putB x ++ (l.flatMap putB ++ r)).drop (fld (putB x ++ (l.flatMap putB ++ r)) 18 2) = l.flatMap putB ++ r := by rw [h18]; exact List.drop_left' rfl
    unfold lsasOf
    rw [if_neg (by rw [h18, List.length_append]; omega), ht, hd, if_neg (by rw [putB_getE x (hw x (by simp)) hk.1]; simp), ih (fun y hy => hw y (by simp [hy])) hk.2, putB_back x (hw x (by simp)) hk.1]
end Go.Proofs.Ytgopkpogakjckaa.PK
