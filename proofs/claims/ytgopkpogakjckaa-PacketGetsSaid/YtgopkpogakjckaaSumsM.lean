/-
  Plain arithmetic of the two sums: no program in sight.
-/
import Derived.Test.YtgopkpogakjckaaBase
namespace Go.Proofs.Ytgopkpogakjckaa.SM
set_option linter.unusedVariables false
set_option linter.unusedSimpArgs false

/-- the Internet sum before folding: even places count 256 times -/
def isumAt (l : List UInt8) (i : Nat) : Nat := if i % 2 = 0 then byt l i * 256 else byt l i
def isum (l : List UInt8) : Nat → Nat
  | 0 => 0
  | k + 1 => isum l k + isumAt l k

/-- the number with the same rest by 65535, nought for nought alone -/
def fold (n : Nat) : Nat := if n = 0 then 0 else (n - 1) % 65535 + 1
/-- the answer -/
def inet (l : List UInt8) : Nat := 65535 - fold (isum l l.length)

theorem isumAt_le (l : List UInt8) (i : Nat) : isumAt l i ≤ 65280 := by
  unfold isumAt
  have := byt_lt l i
  split <;> omega
theorem isum_le (l : List UInt8) (k : Nat) : isum l k ≤ 65280 * k := by
  induction k with
  | zero => simp [isum]
  | succ k ih => have := isumAt_le l k; simp only [isum]; omega
theorem fold_le (n : Nat) : fold n ≤ 65535 := by unfold fold; split <;> omega
theorem fold_small {n : Nat} (h : n ≤ 65535) : fold n = n := by unfold fold; split <;> omega
theorem fold_step {n : Nat} (h : 65535 < n) : fold (n / 65536 + n % 65536) = fold n := by unfold fold; split <;> split <;> omega
theorem fold_less {n : Nat} (h : 65535 < n) : n / 65536 + n % 65536 < n := by omega
/-- the wide number of the reference -/
def wide (l : List UInt8) (k : Nat) : Nat := fold (isum l k)
theorem wide_succ (l : List UInt8) (k : Nat) : wide l (k + 1) = if wide l k + isumAt l k > 65535 then wide l k + isumAt l k - 65535 else wide l k + isumAt l k := by
  have h1 := isumAt_le l k
  unfold wide
  simp only [isum]
  unfold fold
  split <;> split <;> split <;> omega
theorem isumAt_append (l r : List UInt8) (k : Nat) (h : k < l.length) : isumAt (l ++ r) k = isumAt l k := by
  have : (l ++ r).getD k 0 = l.getD k 0 := by simp [List.getD_eq_getElem?_getD, List.getElem?_append_left h]
  unfold isumAt byt
  rw [this]
theorem isum_append (l r : List UInt8) (k : Nat) (h : k ≤ l.length) : isum (l ++ r) k = isum l k := by
  induction k with
  | zero => rfl
  | succ k ih => simp only [isum]; rw [ih (by omega), isumAt_append l r k (by omega)]
theorem fold_zero (s : Nat) : fold (s + (65535 - fold s)) = 65535 := by
  by_cases h : s = 0
  · subst h; simp [fold]
  · have e : fold s = (s - 1) % 65535 + 1 := by unfold fold; rw [if_neg h]
    rw [e]
    have : s + (65535 - ((s - 1) % 65535 + 1)) ≠ 0 := by omega
    unfold fold
    rw [if_neg this]
    omega
theorem isum_two (l : List UInt8) (x y : UInt8) (he : l.length % 2 = 0) : isum (l ++ [x, y]) (l.length + 2) = isum l l.length + (x.toNat * 256 + y.toNat) := by
  have h0 : isum (l ++ [x, y]) (l.length + 2) = isum (l ++ [x, y]) l.length + isumAt (l ++ [x, y]) l.length + isumAt (l ++ [x, y]) (l.length + 1) := rfl
  rw [h0, isum_append l _ _ (Nat.le_refl _)]
  unfold isumAt byt
  rw [if_pos he, if_neg (by omega)]
  simp [List.getD_eq_getElem?_getD]
  omega
theorem inet_le (l : List UInt8) : inet l ≤ 65535 := by unfold inet; omega
theorem inet_zero (l : List UInt8) (he : l.length % 2 = 0) : inet (l ++ [UInt8.ofNat (inet l / 256), UInt8.ofNat (inet l % 256)]) = 0 := by
  have h2 := inet_le l
  have h1 := isum_two l (UInt8.ofNat (inet l / 256)) (UInt8.ofNat (inet l % 256)) he
  have h3 : (UInt8.ofNat (inet l / 256)).toNat = inet l / 256 := by rw [UInt8.toNat_ofNat']; exact Nat.mod_eq_of_lt (by omega)
  have h4 : (UInt8.ofNat (inet l % 256)).toNat = inet l % 256 := by rw [UInt8.toNat_ofNat']; exact Nat.mod_eq_of_lt (by omega)
  rw [h3, h4] at h1
  have h5 : isum l l.length + (inet l / 256 * 256 + inet l % 256) = isum l l.length + inet l := by omega
  rw [h5] at h1
  have h6 : (l ++ [UInt8.ofNat (inet l / 256), UInt8.ofNat (inet l % 256)]).length = l.length + 2 := by simp
  have h7 : inet (l ++ [UInt8.ofNat (inet l / 256), UInt8.ofNat (inet l % 256)]) = 65535 - fold (isum (l ++ [UInt8.ofNat (inet l / 256), UInt8.ofNat (inet l % 256)]) (l.length + 2)) := by
    show 65535 - fold (isum _ (List.length _)) = _
    rw [h6]
  rw [h7, h1]
  have := fold_zero (isum l l.length)
  have h8 : inet l = 65535 - fold (isum l l.length) := rfl
  rw [h8, this]

/-! Fletcher's -/
def c0 (l : List UInt8) : Nat → Nat
  | 0 => 0
  | k + 1 => (c0 l k + byt l k) % 255
def c1 (l : List UInt8) : Nat → Nat
  | 0 => 0
  | k + 1 => (c1 l k + c0 l (k + 1)) % 255
theorem c0_lt (l : List UInt8) (k : Nat) : c0 l k < 255 := by cases k <;> simp only [c0] <;> omega
theorem c1_lt (l : List UInt8) (k : Nat) : c1 l k < 255 := by cases k <;> simp only [c1] <;> omega
def right (l : List UInt8) : Bool := c0 l l.length == 0 && c1 l l.length == 0

/-- a sum of so many -/
def su (f : Nat → Nat) : Nat → Nat
  | 0 => 0
  | k + 1 => su f k + f k
theorem su_congr {f g : Nat → Nat} (k : Nat) (h : ∀ i, i < k → f i = g i) : su f k = su g k := by
  induction k with
  | zero => rfl
  | succ k ih => simp only [su]; rw [ih (fun i hi => h i (by omega)), h k (by omega)]
/-- one place turned -/
theorem su_turn {f g : Nat → Nat} (k a : Nat) (ha : a < k) (h : ∀ i, i < k → i ≠ a → g i = f i) : su g k + f a = su f k + g a := by
  induction k with
  | zero => omega
  | succ k ih =>
    simp only [su]
    by_cases hk : a = k
    · subst hk
      have := su_congr (f := g) (g := f) a (fun i hi => h i (by omega) (by omega))
      omega
    · have := ih (by omega) (fun i hi hne => h i (by omega) hne)
      have := h k (by omega) (by omega)
      omega
theorem c0_su (l : List UInt8) (k : Nat) : c0 l k = su (byt l) k % 255 := by
  induction k with
  | zero => rfl
  | succ k ih => simp only [c0, su, ih]; omega
/-- weights -/
def wt (l : List UInt8) (n : Nat) : Nat → Nat := fun i => (n - i) * byt l i
theorem su_wt_succ (l : List UInt8) (n k : Nat) (h : k ≤ n) : su (wt l (n + 1)) k = su (wt l n) k + su (byt l) k := by
  induction k with
  | zero => rfl
  | succ k ih =>
    simp only [su]
    rw [ih (by omega)]
    have e : wt l (n + 1) k = wt l n k + byt l k := by
      unfold wt
      rw [show n + 1 - k = (n - k) + 1 from by omega, Nat.add_mul]
      omega
    omega
theorem c1_su (l : List UInt8) (k : Nat) : c1 l k = su (wt l k) k % 255 := by
  induction k with
  | zero => rfl
  | succ k ih =>
    simp only [c1, ih, c0_su]
    have h1 := su_wt_succ l k k (Nat.le_refl _)
    have h2 : wt l (k + 1) k = byt l k := by unfold wt; rw [show k + 1 - k = 1 from by omega]; omega
    simp only [su]
    rw [h1, h2]
    omega
/-- the list with two noughts -/
def zap (l : List UInt8) (k : Nat) : List UInt8 := (l.set k 0).set (k + 1) 0
theorem byt_set (l : List UInt8) (k i : Nat) (x : UInt8) (h : k < l.length) : byt (l.set k x) i = if i = k then x.toNat else byt l i := by
  unfold byt
  rw [List.getD_eq_getElem?_getD, List.getElem?_set]
  by_cases e : k = i
  · subst e; simp [h]
  · rw [if_neg e, if_neg (by omega), List.getD_eq_getElem?_getD]
/-- the reference's sums -/
def rs (l : List UInt8) (at_ : Nat) : Nat → Nat
  | 0 => 0
  | k + 1 => if k = at_ ∨ k = at_ + 1 then rs l at_ k else (rs l at_ k + byt l k) % 255
def rt (l : List UInt8) (at_ n : Nat) : Nat → Nat
  | 0 => 0
  | k + 1 => if k = at_ ∨ k = at_ + 1 then rt l at_ n k else (rt l at_ n k + byt l k * ((n - k) % 255)) % 255
theorem rs_lt (l : List UInt8) (a k : Nat) : rs l a k < 255 := by
  induction k with
  | zero => simp [rs]
  | succ k ih => simp only [rs]; split <;> omega
theorem rt_lt (l : List UInt8) (a n k : Nat) : rt l a n k < 255 := by
  induction k with
  | zero => simp [rt]
  | succ k ih => simp only [rt]; split <;> omega
theorem byt_zap (l : List UInt8) (a i : Nat) (h : a + 1 < l.length) : byt (zap l a) i = if i = a ∨ i = a + 1 then 0 else byt l i := by
  unfold zap
  rw [byt_set _ _ _ _ (by simpa using h), byt_set _ _ _ _ (by omega)]
  by_cases h1 : i = a + 1
  · simp [h1]
  · by_cases h2 : i = a
    · simp [h2]
    · simp [h1, h2]
theorem rs_zap (l : List UInt8) (a k : Nat) (h : a + 1 < l.length) : rs l a k = su (byt (zap l a)) k % 255 := by
  induction k with
  | zero => rfl
  | succ k ih =>
    simp only [rs, su, ih, byt_zap l a k h]
    split <;> omega
theorem rt_zap (l : List UInt8) (a n k : Nat) (h : a + 1 < l.length) : rt l a n k = su (wt (zap l a) n) k % 255 := by
  induction k with
  | zero => rfl
  | succ k ih =>
    have e : wt (zap l a) n k = if k = a ∨ k = a + 1 then 0 else byt l k * (n - k) := by
      unfold wt
      rw [byt_zap l a k h]
      split
      · omega
      · rw [Nat.mul_comm]
    simp only [rt, su, ih, e]
    split
    · omega
    · rw [Nat.add_mod, Nat.mul_mod, Nat.mod_mod, Nat.mod_mod, ← Nat.mul_mod, ← Nat.add_mod]
theorem length_zap (l : List UInt8) (a : Nat) : (zap l a).length = l.length := by simp [zap]

/-- the two bytes that are told, as the program reckons them -/
def fX (l : List UInt8) (a : Nat) : Int := ((((l.length - a - 1) % 255 : Nat) : Int) * (c0 (zap l a) l.length : Int) - (c1 (zap l a) l.length : Int)) % 255
def fY (l : List UInt8) (a : Nat) : Int := (-(c0 (zap l a) l.length : Int) - ((((l.length - a - 1) % 255 : Nat) : Int) * (c0 (zap l a) l.length : Int) - (c1 (zap l a) l.length : Int))) % 255
theorem fX_bd (l : List UInt8) (a : Nat) : 0 ≤ fX l a ∧ fX l a < 255 := by unfold fX; omega
theorem fY_bd (l : List UInt8) (a : Nat) : 0 ≤ fY l a ∧ fY l a < 255 := by unfold fY; omega
/-- the reference's test at x -/
theorem tried (s t p q x : Int) (hp : p = q + 1 ∨ p = q + 1 - 255) : (t + x * p + (510 - s - x) % 255 * q) % 255 = (t + x - s * q) % 255 := by
  obtain ⟨j, hj⟩ : ∃ j : Int, (510 - s - x) % 255 = 510 - s - x - 255 * j := ⟨(510 - s - x) / 255, by omega⟩
  rw [hj]
  have e1 : (510 - s - x - 255 * j) * q = 510 * q - s * q - x * q - 255 * (j * q) := by
    rw [Int.sub_mul, Int.sub_mul, Int.sub_mul, Int.mul_assoc]
  rw [e1]
  rcases hp with rfl | rfl
  · have e2 : x * (q + 1) = x * q + x := by rw [Int.mul_add, Int.mul_one]
    rw [e2]
    omega
  · have e2 : x * (q + 1 - 255) = x * q + x - 255 * x := by rw [Int.mul_sub, Int.mul_add, Int.mul_one]; omega
    rw [e2]
    omega
theorem fX_ref (l : List UInt8) (a : Nat) (h : a + 1 < l.length) :
    fX l a = ((rs l a l.length : Int) * (((l.length - a - 1) % 255 : Nat) : Int) - (rt l a l.length l.length : Int)) % 255 := by
  unfold fX
  rw [c0_su, c1_su, rs_zap l a _ h, rt_zap l a _ _ h, Int.mul_comm]
theorem fY_ref (l : List UInt8) (a : Nat) (h : a + 1 < l.length) : fY l a = (510 - (rs l a l.length : Int) - fX l a) % 255 := by
  rw [fX_ref l a h]
  unfold fY
  rw [c0_su, c1_su, ← rs_zap l a _ h, ← rt_zap l a _ _ h, Int.mul_comm]
  omega
/-- with the two bytes the sum is right -/
def lay (l : List UInt8) (a : Nat) : List UInt8 := (l.set a (UInt8.ofNat (fX l a).toNat)).set (a + 1) (UInt8.ofNat (fY l a).toNat)
theorem ofNat_toNat_of (n : Int) (h : 0 ≤ n ∧ n < 255) : ((UInt8.ofNat n.toNat).toNat : Int) = n := by
  rw [UInt8.toNat_ofNat', Nat.mod_eq_of_lt (by omega)]; omega
theorem lay_cells (l : List UInt8) (a : Nat) : ((B8 l).set a (.int .u8 (fX l a))).set (a + 1) (.int .u8 (fY l a)) = B8 (lay l a) := by
  unfold lay
  rw [← B8_set, ← B8_set, ofNat_toNat_of _ (fX_bd l a), ofNat_toNat_of _ (fY_bd l a)]
theorem length_lay (l : List UInt8) (a : Nat) : (lay l a).length = l.length := by simp [lay]
theorem byt_lay (l : List UInt8) (a i : Nat) (h : a + 1 < l.length) : byt (lay l a) i = if i = a then (fX l a).toNat else if i = a + 1 then (fY l a).toNat else byt l i := by
  have h1 := fX_bd l a
  have h2 := fY_bd l a
  unfold lay
  rw [byt_set _ _ _ _ (by simpa using h), byt_set _ _ _ _ (by omega), UInt8.toNat_ofNat', UInt8.toNat_ofNat', Nat.mod_eq_of_lt (by omega), Nat.mod_eq_of_lt (by omega)]
  by_cases e1 : i = a + 1
  · subst e1; simp
  · simp [e1]
/-- the sums where two noughts become x and y -/
theorem su_two (f g : Nat → Nat) (n a : Nat) (h : a + 1 < n) (ha : f a = 0) (hb : f (a + 1) = 0) (hne : ∀ i, i ≠ a → i ≠ a + 1 → g i = f i) : su g n = su f n + g a + g (a + 1) := by
  have h1 := su_turn (f := f) (g := fun i => if i = a then g a else f i) n a (by omega) (fun i _ hi => if_neg hi)
  have h2 := su_turn (f := fun i => if i = a then g a else f i) (g := g) n (a + 1) (by omega) (fun i _ hi => by
    by_cases e : i = a
    · simp [e]
    · simp [e, hne i e hi])
  simp at h1 h2
  omega
theorem right_lay (l : List UInt8) (a : Nat) (h : a + 1 < l.length) : right (lay l a) = true := by
  have hx := fX_bd l a
  have hy := fY_bd l a
  have hX := fX_ref l a h
  have hY := fY_ref l a h
  have z0 : byt (zap l a) a = 0 := by rw [byt_zap l a a h]; simp
  have z1 : byt (zap l a) (a + 1) = 0 := by rw [byt_zap l a _ h]; simp
  have la : byt (lay l a) a = (fX l a).toNat := by rw [byt_lay l a a h]; simp
  have lb : byt (lay l a) (a + 1) = (fY l a).toNat := by rw [byt_lay l a _ h]; simp
  have lo : ∀ i, i ≠ a → i ≠ a + 1 → byt (lay l a) i = byt (zap l a) i := fun i h1 h2 => by
    rw [byt_lay l a i h, byt_zap l a i h]; simp [h1, h2]
  have e0 := su_two (byt (zap l a)) (byt (lay l a)) l.length a h z0 z1 lo
  have e1 := su_two (wt (zap l a) l.length) (wt (lay l a) l.length) l.length a h (by simp [wt, z0]) (by simp [wt, z1]) (fun i h1 h2 => by simp only [wt]; rw [lo i h1 h2])
  simp only [wt] at e1
  rw [la, lb] at e0 e1
  have r0 : c0 (lay l a) (lay l a).length = 0 := by
    rw [c0_su, length_lay, e0]
    have := rs_zap l a l.length h
    omega
  have r1 : c1 (lay l a) (lay l a).length = 0 := by
    rw [c1_su, length_lay]
    have e1' : su (wt (lay l a) l.length) l.length = su (wt (zap l a) l.length) l.length + (l.length - a) * (fX l a).toNat + (l.length - (a + 1)) * (fY l a).toNat := e1
    rw [e1']
    have ht := rt_zap l a l.length l.length h
    have hm := tried (rs l a l.length) (rt l a l.length l.length) ((l.length - a : Nat) : Int) (((l.length - a - 1 : Nat)) : Int) (fX l a) (.inl (by omega))
    rw [← hY] at hm
    generalize hq : l.length - a - 1 = q at *
    have hqe : ((q : Nat) : Int) = ((q % 255 : Nat) : Int) + 255 * ((q / 255 : Nat) : Int) := by omega
    have hsq : ((rs l a l.length : Int) * (q : Int)) = (rs l a l.length : Int) * ((q % 255 : Nat) : Int) + 255 * ((rs l a l.length : Int) * ((q / 255 : Nat) : Int)) := by
      have : ((rs l a l.length : Int) * (q : Int)) = (rs l a l.length : Int) * (((q % 255 : Nat) : Int) + 255 * ((q / 255 : Nat) : Int)) := by rw [← hqe]
      rw [this, Int.mul_add, Int.mul_left_comm]
    have g1 : (((l.length - a) * (fX l a).toNat : Nat) : Int) = fX l a * ((l.length - a : Nat) : Int) := by
      rw [Int.natCast_mul, Int.toNat_of_nonneg hx.1, Int.mul_comm]
    have g2 : ((q * (fY l a).toNat : Nat) : Int) = fY l a * (q : Int) := by
      rw [Int.natCast_mul, Int.toNat_of_nonneg hy.1, Int.mul_comm]
    generalize (l.length - a) * (fX l a).toNat = A at *
    generalize q * (fY l a).toNat = B at *
    generalize fX l a * ((l.length - a : Nat) : Int) = C at *
    generalize fY l a * (q : Int) = D at *
    generalize (rs l a l.length : Int) * (q : Int) = E at *
    generalize (rs l a l.length : Int) * ((q % 255 : Nat) : Int) = F at *
    generalize (rs l a l.length : Int) * ((q / 255 : Nat) : Int) = G at *
    omega
  unfold right
  rw [r0, r1]
  rfl
/-- one byte turned -/
theorem right_turn (l : List UInt8) (i : Nat) (x : UInt8) (h : i < l.length) (hr : right l = true) : right (l.set i x) = (byt l i % 255 == x.toNat % 255) := by
  have b0 : ∀ j, j < l.length → j ≠ i → byt (l.set i x) j = byt l j := fun j _ hj => by rw [byt_set l i j x h, if_neg hj]
  have bi : byt (l.set i x) i = x.toNat := by rw [byt_set l i i x h, if_pos rfl]
  have e0 := su_turn (f := byt l) (g := byt (l.set i x)) l.length i h b0
  rw [bi] at e0
  have e1 := su_turn (f := wt l l.length) (g := wt (l.set i x) l.length) l.length i h (fun j hj hne => by simp only [wt]; rw [b0 j hj hne])
  have f1 : wt l l.length i = (l.length - i) * byt l i := rfl
  have f2 : wt (l.set i x) l.length i = (l.length - i) * x.toNat := by simp only [wt]; rw [bi]
  rw [f1, f2] at e1
  unfold right at hr ⊢
  simp only [Bool.and_eq_true, beq_iff_eq] at hr
  rw [c0_su, c1_su] at hr
  rw [c0_su, c1_su, List.length_set]
  obtain ⟨r0, r1⟩ := hr
  rw [Bool.eq_iff_iff]
  simp only [Bool.and_eq_true, beq_iff_eq]
  constructor
  · rintro ⟨g0, _⟩; omega
  · intro hb
    refine ⟨by omega, ?_⟩
    have key : ((l.length - i) * byt l i) % 255 = ((l.length - i) * x.toNat) % 255 := by rw [Nat.mul_mod, hb, ← Nat.mul_mod]
    omega

end Go.Proofs.Ytgopkpogakjckaa.SM
