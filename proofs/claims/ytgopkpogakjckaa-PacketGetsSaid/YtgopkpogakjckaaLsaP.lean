/-
  Plain law of layer 10: what is laid as bytes is read back.
-/
import Derived.Test.YtgopkpogakjckaaLsa7
namespace Go.Proofs.Ytgopkpogakjckaa
set_option linter.unusedVariables false
set_option linter.unusedSimpArgs false
open Go.RowKit SM LM

theorem byt_cons0 (x : UInt8) (l : List UInt8) : byt (x :: l) 0 = x.toNat := rfl
theorem byt_consS (x : UInt8) (l : List UInt8) (k : Nat) : byt (x :: l) (k + 1) = byt l k := by simp [byt]
theorem byt_append_l (l r : List UInt8) (k : Nat) (h : k < l.length) : byt (l ++ r) k = byt l k := by
  simp [byt, List.getD_eq_getElem?_getD, List.getElem?_append_left h]
theorem byt_append_r (l r : List UInt8) (k : Nat) : byt (l ++ r) (l.length + k) = byt r k := by
  simp only [byt, List.getD_eq_getElem?_getD]
  rw [List.getElem?_append_right (by omega)]
  simp
theorem byt_drop (l : List UInt8) (n k : Nat) : byt (l.drop n) k = byt l (n + k) := by
  simp [byt, List.getD_eq_getElem?_getD]
theorem byt_be (k x j : Nat) (r : List UInt8) (h : j < k) : byt (be k x ++ r) j = x / 2 ^ (8 * (k - 1 - j)) % 256 := by
  rw [byt_append_l _ _ _ (by rw [be_length]; exact h)]
  simp [byt, List.getD_eq_getElem?_getD, be_get k x j h]
theorem pow8 (k : Nat) : 2 ^ (8 * k) = 256 ^ k := by rw [Nat.pow_mul]
theorem nv_be_to (k x : Nat) (r : List UInt8) (j : Nat) (h : j ≤ k) : nv (be k x ++ r) j = x / 256 ^ (k - j) % 256 ^ j := by
  induction j with
  | zero => simp [nv, Nat.mod_one]
  | succ j ih =>
    simp only [nv]
    rw [ih (by omega), byt_be k x j r (by omega), pow8]
    have e1 : k - j = (k - 1 - j) + 1 := by omega
    have e2 : k - (j + 1) = k - 1 - j := by omega
    rw [e1, e2, Nat.pow_succ, ← Nat.div_div_eq_div_mul]
    generalize x / 256 ^ (k - 1 - j) = y
    rw [Nat.pow_succ, Nat.mul_comm (256 ^ j) 256, Nat.mod_mul (x := y) (a := 256) (b := 256 ^ j)]
    omega
theorem nv_be (k x : Nat) (r : List UInt8) (h : x < 256 ^ k) : nv (be k x ++ r) k = x := by
  rw [nv_be_to k x r k (Nat.le_refl _)]
  simp [Nat.mod_eq_of_lt h]

/-- the links that bytes tell -/
def linksOf (l : List UInt8) : List Link :=
  if h : 12 ≤ l.length then ⟨nv l 4, nv (l.drop 4) 4, (nv (l.drop 8) 1 : Nat), (nv (l.drop 10) 2 : Nat)⟩ :: linksOf (l.drop 12) else []
  termination_by l.length
  decreasing_by simp; omega
theorem linksOf_yes (l : List UInt8) (h : 12 ≤ l.length) : linksOf l = ⟨nv l 4, nv (l.drop 4) 4, (nv (l.drop 8) 1 : Nat), (nv (l.drop 10) 2 : Nat)⟩ :: linksOf (l.drop 12) := by
  rw [linksOf, dif_pos h]
theorem linksOf_no (l : List UInt8) (h : l.length < 12) : linksOf l = [] := by
  rw [linksOf, dif_neg (by omega)]
def routersOf (l : List UInt8) : List Nat :=
  if h : 4 ≤ l.length then nv l 4 :: routersOf (l.drop 4) else []
  termination_by l.length
  decreasing_by simp; omega
theorem routersOf_yes (l : List UInt8) (h : 4 ≤ l.length) : routersOf l = nv l 4 :: routersOf (l.drop 4) := by
  rw [routersOf, dif_pos h]
theorem routersOf_no (l : List UInt8) (h : l.length < 4) : routersOf l = [] := by
  rw [routersOf, dif_neg (by omega)]

theorem nv1 (l : List UInt8) : nv l 1 = byt l 0 := by simp [nv]
theorem link_back (x : Link) (r : List UInt8) (hw : x.wf) (hk : x.ok = true) : linksOf (linkB x ++ r) = x :: linksOf r := by
  obtain ⟨h1, h2, _, _⟩ := hw
  simp [Link.ok] at hk
  obtain ⟨id, data, ty, cost⟩ := x
  obtain ⟨⟨h3, h4⟩, h5, h6⟩ := hk
  simp only at h1 h2 h3 h4 h5 h6
  have e4 : (linkB ⟨id, data, ty, cost⟩ ++ r).drop 4 = be 4 data ++ ([UInt8.ofNat (ty % 256).toNat, 0] ++ (be 2 (w64 cost).toNat ++ r)) := by
    simp only [linkB, List.append_assoc]
    rw [List.drop_left' (be_length 4 _)]
  have e8 : (linkB ⟨id, data, ty, cost⟩ ++ r).drop 8 = [UInt8.ofNat (ty % 256).toNat, 0] ++ (be 2 (w64 cost).toNat ++ r) := by
    rw [show 8 = 4 + 4 from rfl, ← List.drop_drop, e4, List.drop_left' (be_length 4 _)]
  have e10 : (linkB ⟨id, data, ty, cost⟩ ++ r).drop 10 = be 2 (w64 cost).toNat ++ r := by
    rw [show 10 = 8 + 2 from rfl, ← List.drop_drop, e8]
    rfl
  have e12 : (linkB ⟨id, data, ty, cost⟩ ++ r).drop 12 = r := by
    rw [show 12 = 10 + 2 from rfl, ← List.drop_drop, e10, List.drop_left' (be_length 2 _)]
  rw [linksOf_yes _ (by rw [List.length_append, linkB_length]; omega), e4, e8, e10, e12]
  have n0 : nv (linkB ⟨id, data, ty, cost⟩ ++ r) 4 = id := by
    simp only [linkB, List.append_assoc]
    exact nv_be 4 id _ (by simpa using h1)
  rw [n0, nv_be 4 data _ (by simpa using h2), nv1]
  have hc : w64 cost = cost := IntWalk.u64_in _ (by omega)
  rw [hc, nv_be 2 cost.toNat _ (by simp; omega)]
  congr 2
  · show ((UInt8.ofNat (ty % 256).toNat).toNat : Int) = ty
    simp
    omega
  · omega
theorem links_back (l : List Link) (hw : ∀ x ∈ l, x.wf) (hk : l.all Link.ok = true) : linksOf (l.flatMap linkB) = l := by
  induction l with
  | nil => exact linksOf_no _ (by simp)
  | cons x l ih =>
    simp only [List.all_cons, Bool.and_eq_true] at hk
    rw [List.flatMap_cons, link_back x _ (hw x (by simp)) hk.1, ih (fun y hy => hw y (by simp [hy])) hk.2]
theorem routers_back (l : List Nat) (hw : ∀ x ∈ l, x < 4294967296) : routersOf (l.flatMap (be 4)) = l := by
  induction l with
  | nil => exact routersOf_no _ (by simp)
  | cons x l ih =>
    rw [List.flatMap_cons, routersOf_yes _ (by rw [List.length_append, be_length]; omega), List.drop_left' (be_length 4 _), ih (fun y hy => hw y (by simp [hy])), nv_be 4 x _ (by simpa using hw x (by simp))]

/-- what bytes tell -/
def bodyOf (x : List UInt8) (L : Lsa) : Lsa :=
  if L.kty = 1 then { L with links := linksOf (takeR x 4) }
  else if L.kty = 2 then { L with mask := takeV x 4, routers := routersOf (takeR x 4) }
  else if L.kty = 3 then { L with mask := takeV x 4, cost := (takeV (takeR x 4) 4 : Nat) }
  else L
def headL (l : List UInt8) : Lsa := ⟨(fld l 0 2 : Nat), (fld l 3 1 : Nat), fld l 4 4, fld l 8 4, sq l, [], 0, [], 0⟩
def bodyL (l : List UInt8) : Lsa := bodyOf (l.drop 20) (headL l)
/-- the error: 0, 3, 4, 8 -/
def getE (l : List UInt8) : Int :=
  if l.length < 20 then 4
  else if right (l.drop 2) = false ∨ byt l 16 = 255 ∨ byt l 17 = 255 then 8
  else if (bodyL l).right = true ∧ putB (bodyL l) = l then 0 else 3

theorem linksOf_wf (l : List UInt8) : ∀ x ∈ linksOf l, x.wf := by
  generalize hn : l.length = n
  induction n using Nat.strongRecOn generalizing l with
  | ind n ih =>
    by_cases h : 12 ≤ l.length
    · rw [linksOf_yes l h]
      intro x hx
      rcases List.mem_cons.1 hx with rfl | hx
      · have h1 := nv_bd (l.drop 8) 1 (by omega)
        have h2 := nv_bd (l.drop 10) 2 (by omega)
        exact ⟨nv_bd _ _ (by omega), nv_bd _ _ (by omega), by simp only; omega, by simp only; omega⟩
      · exact ih (n - 12) (by omega) (l.drop 12) (by simp; omega) x hx
    · rw [linksOf_no l (by omega)]
      simp
theorem routersOf_wf (l : List UInt8) : ∀ x ∈ routersOf l, x < 4294967296 := by
  generalize hn : l.length = n
  induction n using Nat.strongRecOn generalizing l with
  | ind n ih =>
    by_cases h : 4 ≤ l.length
    · rw [routersOf_yes l h]
      intro x hx
      rcases List.mem_cons.1 hx with rfl | hx
      · exact nv_bd _ _ (by omega)
      · exact ih (n - 4) (by omega) (l.drop 4) (by simp; omega) x hx
    · rw [routersOf_no l (by omega)]
      simp
theorem fld_bd (l : List UInt8) (o k : Nat) (h : k ≤ 4) : fld l o k < 4294967296 := nv_bd _ _ h
theorem headL_wf (l : List UInt8) : WfL (headL l) := ⟨by simp [headL], by simp [headL], by simp [headL], fld_bd _ _ _ (by omega), fld_bd _ _ _ (by omega)⟩
theorem bodyOf_wf (x : List UInt8) (L : Lsa) (h : WfL L) : WfL (bodyOf x L) := by
  unfold bodyOf
  split
  · exact ⟨linksOf_wf _, h.routers, h.mask, h.kid, h.kadv⟩
  · split
    · exact ⟨h.links, routersOf_wf _, takeV_bd _ _ (by omega), h.kid, h.kadv⟩
    · split
      · exact ⟨h.links, h.routers, takeV_bd _ _ (by omega), h.kid, h.kadv⟩
      · exact h
theorem bodyL_wf (l : List UInt8) : WfL (bodyL l) := bodyOf_wf _ _ (headL_wf l)

theorem fld_append (A B : List UInt8) (k : Nat) : fld (A ++ B) A.length k = nv B k := by
  unfold fld
  rw [List.drop_left]
/-- the fields of a header's bytes -/
theorem fld_hdr (age ty id adv seq sum len : Int) (r : List UInt8) :
    let l := hdrB age ty id adv seq sum len ++ r
    fld l 0 2 = (w64 age).toNat % 65536 ∧ fld l 3 1 = (ty % 256).toNat ∧ fld l 4 4 = id.toNat % 4294967296 ∧ fld l 8 4 = adv.toNat % 4294967296 ∧
    fld l 12 4 = (w64 seq).toNat % 4294967296 ∧ fld l 16 2 = sum.toNat % 65536 ∧ fld l 18 2 = (w64 len).toNat % 65536 ∧ byt l 2 = 2 := by
  have key : ∀ (k x : Nat) (r : List UInt8), nv (be k x ++ r) k = x % 256 ^ k := fun k x r => by
    rw [nv_be_to k x r k (Nat.le_refl _)]; simp
  have dr : ∀ (k x : Nat) (r : List UInt8), (be k x ++ r).drop k = r := fun k x r => List.drop_left' (be_length k x)
  intro l
  have d0 : l = be 2 (w64 age).toNat ++ ([2, UInt8.ofNat (ty % 256).toNat] ++ (be 4 id.toNat ++ (be 4 adv.toNat ++ (be 4 (w64 seq).toNat ++ (be 2 sum.toNat ++ (be 2 (w64 len).toNat ++ r)))))) := by
    simp [l, hdrB, List.append_assoc]
  have d2 : l.drop 2 = [2, UInt8.ofNat (ty % 256).toNat] ++ (be 4 id.toNat ++ (be 4 adv.toNat ++ (be 4 (w64 seq).toNat ++ (be 2 sum.toNat ++ (be 2 (w64 len).toNat ++ r))))) := by
    rw [d0, dr]
  have d3 : l.drop 3 = UInt8.ofNat (ty % 256).toNat :: (be 4 id.toNat ++ (be 4 adv.toNat ++ (be 4 (w64 seq).toNat ++ (be 2 sum.toNat ++ (be 2 (w64 len).toNat ++ r))))) := by
    rw [show 3 = 2 + 1 from rfl, ← List.drop_drop, d2]; rfl
  have d4 : l.drop 4 = be 4 id.toNat ++ (be 4 adv.toNat ++ (be 4 (w64 seq).toNat ++ (be 2 sum.toNat ++ (be 2 (w64 len).toNat ++ r)))) := by
    rw [show 4 = 2 + 2 from rfl, ← List.drop_drop, d2]; rfl
  have d8 : l.drop 8 = be 4 adv.toNat ++ (be 4 (w64 seq).toNat ++ (be 2 sum.toNat ++ (be 2 (w64 len).toNat ++ r))) := by
    rw [show 8 = 4 + 4 from rfl, ← List.drop_drop, d4, dr]
  have d12 : l.drop 12 = be 4 (w64 seq).toNat ++ (be 2 sum.toNat ++ (be 2 (w64 len).toNat ++ r)) := by
    rw [show 12 = 8 + 4 from rfl, ← List.drop_drop, d8, dr]
  have d16 : l.drop 16 = be 2 sum.toNat ++ (be 2 (w64 len).toNat ++ r) := by
    rw [show 16 = 12 + 4 from rfl, ← List.drop_drop, d12, dr]
  have d18 : l.drop 18 = be 2 (w64 len).toNat ++ r := by
    rw [show 18 = 16 + 2 from rfl, ← List.drop_drop, d16, dr]
  refine ⟨?_, ?_, ?_, ?_, ?_, ?_, ?_, ?_⟩
  · unfold fld; rw [List.drop_zero, d0, key]
  · unfold fld; rw [d3, nv1, byt_cons0]; simp
    omega
  · unfold fld; rw [d4, key]
  · unfold fld; rw [d8, key]
  · unfold fld; rw [d12, key]
  · unfold fld; rw [d16, key]
  · unfold fld; rw [d18, key]
  · have : byt (l.drop 2) 0 = 2 := by rw [d2]; rfl
    rw [byt_drop] at this
    exact this

theorem nv_congr (l l' : List UInt8) (k : Nat) (h : ∀ j, j < k → byt l j = byt l' j) : nv l k = nv l' k := by
  induction k with
  | zero => rfl
  | succ k ih => simp only [nv]; rw [ih (fun j hj => h j (by omega)), h k (by omega)]
theorem fld_congr (l l' : List UInt8) (o k : Nat) (h : ∀ j, o ≤ j → j < o + k → byt l j = byt l' j) : fld l o k = fld l' o k := by
  unfold fld
  refine nv_congr _ _ _ fun j hj => ?_
  rw [byt_drop, byt_drop]
  exact h _ (by omega) (by omega)
theorem putB_length (L : Lsa) : (putB L).length = 20 + (tellB L).length := by
  unfold putB
  rw [List.length_set, List.length_set, rawB_length]
theorem byt_putB (L : Lsa) (i : Nat) : byt (putB L) i = if i = 17 then (fY ((rawB L).drop 2) 14).toNat else if i = 16 then (fX ((rawB L).drop 2) 14).toNat else byt (rawB L) i := by
  have hX := fX_bd ((rawB L).drop 2) 14
  have hY := fY_bd ((rawB L).drop 2) 14
  have hl := rawB_length L
  unfold putB
  rw [byt_set _ _ _ _ (by rw [List.length_set]; omega), byt_set _ _ _ _ (by omega)]
  have e1 : ∀ n : Int, 0 ≤ n → n < 255 → (UInt8.ofNat n.toNat).toNat = n.toNat := fun n h1 h2 => by simp; omega
  rw [e1 _ hX.1 hX.2, e1 _ hY.1 hY.2]
theorem putB_lay (L : Lsa) : (putB L).drop 2 = lay ((rawB L).drop 2) 14 := by
  unfold putB lay
  rw [List.drop_set, List.drop_set]
  simp
theorem putB_right (L : Lsa) : right ((putB L).drop 2) = true := by
  rw [putB_lay]
  refine right_lay _ _ ?_
  have := rawB_length L
  simp
  omega
theorem putB_tell (L : Lsa) : (putB L).drop 20 = tellB L := by
  unfold putB
  rw [List.drop_set, List.drop_set]
  simp only [show 17 < 20 from by omega, show 16 < 20 from by omega, if_true]
  unfold rawB
  rw [List.drop_left' (hdrB_length _ _ _ _ _ _ _)]
theorem putB_16 (L : Lsa) : byt (putB L) 16 < 255 ∧ byt (putB L) 17 < 255 := by
  have hX := fX_bd ((rawB L).drop 2) 14
  have hY := fY_bd ((rawB L).drop 2) 14
  rw [byt_putB, byt_putB]
  simp
  omega

/-- what a right one has, field by field -/
theorem right_spec (L : Lsa) (h : L.right = true) : (0 ≤ L.age ∧ L.age ≤ 3600) ∧ (-2147483647 ≤ L.seq ∧ L.seq ≤ 2147483647) ∧
    ((L.kty = 1 ∧ L.links.length ≤ 40 ∧ L.links.all Link.ok = true ∧ L.mask = 0 ∧ L.routers = [] ∧ L.cost = 0) ∨
     (L.kty = 2 ∧ L.links = [] ∧ 1 ≤ L.routers.length ∧ L.routers.length ≤ 40 ∧ L.cost = 0) ∨
     (L.kty = 3 ∧ L.links = [] ∧ L.routers = [] ∧ 0 ≤ L.cost ∧ L.cost ≤ 16777215)) := by
  unfold Lsa.right at h
  by_cases h1 : L.kty = 1
  · simp [h1, linksOk] at h
    refine ⟨h.1.1, h.1.2, .inl ⟨h1, ?_⟩⟩
    obtain ⟨_, ⟨⟨⟨a, b⟩, c⟩, d⟩, e⟩ := h
    refine ⟨a, ?_, c, ?_, e⟩
    · rw [List.all_eq_true]; exact b
    · simpa using d
  · by_cases h2 : L.kty = 2
    · simp [h1, h2] at h
      exact ⟨h.1.1, h.1.2, .inr (.inl ⟨h2, h.2.1.1, h.2.1.2.1, h.2.1.2.2, h.2.2⟩)⟩
    · by_cases h3 : L.kty = 3
      · simp [h1, h2, h3] at h
        exact ⟨h.1.1, h.1.2, .inr (.inr ⟨h3, h.2.1.1, h.2.1.2, h.2.2.1, h.2.2.2⟩)⟩
      · simp [h1, h2, h3] at h
theorem putB_head (L : Lsa) (hw : WfL L) (hr : L.right = true) : headL (putB L) = ⟨L.age, L.kty, L.kid, L.kadv, L.seq, [], 0, [], 0⟩ := by
  obtain ⟨ha, hs, hk⟩ := right_spec L hr
  have ht : 1 ≤ L.kty ∧ L.kty ≤ 3 := by rcases hk with ⟨h, _⟩ | ⟨h, _⟩ | ⟨h, _⟩ <;> omega
  have hf := fld_hdr L.age L.kty L.kid L.kadv L.seq 0 (20 + (tellB L).length : Nat) (tellB L)
  have e0 : ∀ o k, o + k ≤ 16 → fld (putB L) o k = fld (hdrB L.age L.kty L.kid L.kadv L.seq 0 (20 + (tellB L).length : Nat) ++ tellB L) o k := fun o k h =>
    fld_congr _ _ _ _ fun j h1 h2 => by rw [byt_putB, if_neg (by omega), if_neg (by omega)]; rfl
  simp only at hf
  obtain ⟨f0, f3, f4, f8, f12, _⟩ := hf
  have k1 := hw.kid
  have k2 := hw.kadv
  have w1 : w64 L.age = L.age := IntWalk.u64_in _ (by omega)
  have w2 : ((w64 L.seq).toNat : Int) % 4294967296 = L.seq % 4294967296 := by unfold w64; rw [IntKind.wrap_u64]; omega
  unfold headL
  unfold sq
  rw [e0 0 2 (by omega), e0 3 1 (by omega), e0 4 4 (by omega), e0 8 4 (by omega), e0 12 4 (by omega), f0, f3, f4, f8, f12, w1]
  congr 1
  · omega
  · omega
  · simp; omega
  · simp; omega
  · have : (((w64 L.seq).toNat % 4294967296 : Nat) : Int) = L.seq % 4294967296 := by rw [← w2]; omega
    rw [this]
    unfold wrap32
    omega

theorem takeR_be (x : Nat) (r : List UInt8) : takeR (be 4 x ++ r) 4 = r := by
  unfold takeR
  rw [if_neg (by rw [List.length_append, be_length]; omega), List.drop_left' (be_length 4 x)]
theorem takeV_be (x : Nat) (r : List UInt8) (h : x < 4294967296) : takeV (be 4 x ++ r) 4 = x := by
  unfold takeV
  rw [if_neg (by rw [List.length_append, be_length]; omega), nv_be 4 x r (by simpa using h)]
/-- **what was laid is read back** -/
theorem putB_back (L : Lsa) (hw : WfL L) (hr : L.right = true) : bodyL (putB L) = L := by
  unfold bodyL
  rw [putB_tell, putB_head L hw hr]
  obtain ⟨ha, hs, hk⟩ := right_spec L hr
  obtain ⟨age, kty, kid, kadv, seq, links, mask, routers, cost⟩ := L
  simp only at hk
  rcases hk with ⟨rfl, _, hok, rfl, rfl, rfl⟩ | ⟨rfl, rfl, _, _, rfl⟩ | ⟨rfl, rfl, rfl, hc⟩
  · unfold bodyOf tellB
    simp only [if_true]
    congr 1
    have : takeR (be 2 0 ++ be 2 links.length ++ links.flatMap linkB) 4 = links.flatMap linkB := by
      unfold takeR
      rw [if_neg (by simp [be_length]; omega), List.drop_left' (by simp [be_length])]
    rw [this]
    exact links_back links hw.links hok
  · unfold bodyOf tellB
    simp only [show ((2 : Int) = 1) = False from by simp, if_true, if_false]
    rw [takeR_be, takeV_be _ _ hw.mask, routers_back _ hw.routers]
  · unfold bodyOf tellB
    simp only [show ((3 : Int) = 1) = False from by simp, show ((3 : Int) = 2) = False from by simp, if_true, if_false]
    rw [takeR_be, takeV_be _ _ hw.mask]
    congr 1
    have hcc : w64 cost = cost := IntWalk.u64_in _ (by omega)
    rw [hcc]
    have := takeV_be cost.toNat [] (by omega)
    rw [List.append_nil] at this
    rw [this]
    omega
theorem putB_getE (L : Lsa) (hw : WfL L) (hr : L.right = true) : getE (putB L) = 0 := by
  unfold getE
  have h1 := putB_length L
  have h2 := putB_16 L
  rw [if_neg (by omega), if_neg (by rw [putB_right]; simp; omega), putB_back L hw hr, if_pos ⟨hr, rfl⟩]
theorem getE_zero (l : List UInt8) (h : getE l = 0) : 20 ≤ l.length ∧ (bodyL l).right = true ∧ putB (bodyL l) = l := by
  unfold getE at h
  split at h
  · omega
  · split at h
    · omega
    · split at h
      · rename_i h1 _ h2
        exact ⟨by omega, h2⟩
      · omega

end Go.Proofs.Ytgopkpogakjckaa
