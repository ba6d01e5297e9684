/-
  Contract of read.
-/
import Derived.Test.YtfhlidlmipleaaaJnB
import Derived.Deep.AppendSrc
namespace Go.Proofs.Ytfhlidlmipleaaa
set_option linter.unusedVariables false
set_option linter.unusedSimpArgs false
open Go Go.RowKit LM

theorem app_full {P : Program} (w : World) {t e : TypeId} (hT : ST P t e 1 1) (ty : TypeId) {A : Option Addr} {n c : Nat} {xs : List Value} (hs : Sl w 1 (.slice A n c) xs) (h1s : ∀ u ∈ xs, u.oneCell' = true)
    {A2 : Option Addr} {m c2 : Nat} {news : List Value} (hr : Sl w 1 (.slice A2 m c2) news) (h1 : ∀ u ∈ news, u.oneCell' = true) (hroom : c < n + m) (hm : 0 < m) (hby : n + m ≤ 140737488355328) :
    ∃ c' w', (Builtin.append_ #[t, t] ty #[.slice A n c, .slice A2 m c2]).run P w = .ok (.slice (some ⟨w.heap.size, 0, none⟩) (n + m) c') w' ∧ w'.ownsRow w.heap.size e 1 (.slice (some ⟨w.heap.size, 0, none⟩) (n + m) c') (n + m) (xs ++ news) ∧ Below w.heap.size w w' := by
  obtain ⟨ht, hsz, i, z, hi, hz, hsi, hb, hzs⟩ := hT
  have hs0 := hs
  obtain ⟨A', n', c', he, hl, hnc, hcm, hc⟩ := hs
  injection he with e1 e2 e3
  subst e1; subst e2; subst e3
  obtain ⟨A2', m', c2', he, hl2, _, _, hc2⟩ := hr
  injection he with e1 e2 e3
  subst e1; subst e2; subst e3
  obtain ⟨b2, off2, rfl, _, hcell2⟩ := hc2 hm
  have hsrc : Src P i.size t (.slice (some ⟨b2, off2, none⟩) m c2) m news w := Src.ofSlice w ht _ _ _ _ (by rw [hsi]; exact hl2) (fun j u hu => by
    have hj : j < m * 1 := by rw [← hl2]; exact (List.getElem?_eq_some_iff.1 hu).1
    rw [addr_add, hcell2 j hj, hu]) h1
  have hold : (Builtin.firstCells i.size n (.slice A n c)).run P w.drew = .ok xs.toArray w.drew := by
    rcases A with _ | ad
    · have hn0 : n = 0 := by
        rcases Nat.eq_zero_or_pos n with h | h
        · exact h
        · obtain ⟨_, _, h2, _⟩ := hc h
          cases h2
      subst hn0
      have : xs = [] := List.eq_nil_of_length_eq_zero (by omega)
      subst this
      exact run_firstCells_none w.drew i.size 0 0 c
    · refine run_firstCells_some w.drew i.size n ad n c xs (by rw [hsi]; exact hl) (fun j u hu => ?_)
      have hj : j < n * 1 := by rw [← hl]; exact (List.getElem?_eq_some_iff.1 hu).1
      obtain ⟨b, off, hA, _, hcell⟩ := hc (by omega)
      injection hA with hA
      subst hA
      rw [addr_add]
      exact (hcell j hj).trans hu
  have hr := run_append_grow_src (P := P) w t t ty e i z ht hi hz A n c xs hold _ m news hsrc hroom (by simp [maxLen] at *; omega) (by rw [hb]; exact growslice_fits hroom (by omega))
  refine ⟨_, _, hr, ?_, ?_⟩
  · have hge := grownCap_ge w (n + m) c e
    have hcm2 : grownCap w (n + m) c e ≤ maxLen := grownCap_le_maxLen w (n + m) c e (by simp [maxLen]; omega)
    refine ⟨by simp; omega, .inr ⟨w.heap.size, _, _, rfl, Nat.le_refl _, heap_alloc_new w.drew _, hge, hcm2, ?_, ?_⟩⟩
    · simp only [Array.size_append, List.size_toArray, size_zeroCells, hzs, List.length_append]
      omega
    · simp only [Array.toList_append, List.toList_toArray]
      rw [List.take_left' (by simp; omega)]
  · exact (Below.refl _ _).drew.alloc (by simp) _
theorem wpList_app_rb {P : Program} {w : World} {ops : Array Oper} {rest : List Oper} {o : Oper} {a : Act} {Q : Exit → Act → World → Prop} (hgd : o.guard = none) (s x : Operand)
    {t e : TypeId} (hT : ST P t e 1 1) (ho : o.op = .call { callee := .builtin .append, args := #[s, x], argTypes := #[t, t] })
    (base : Nat) {n c : Nat} {A : Option Addr} {xs : List Value} (hs : a.eval s = .slice A n c) {m c2 : Nat} {A2 : Option Addr} {news : List Value}
    (hown : (c < n + m ∧ Sl w 1 (.slice A n c) xs) ∨ w.ownsRow base e 1 (.slice A n c) n xs) (h1s : ∀ u ∈ xs, u.oneCell' = true) (hx : a.eval x = .slice A2 m c2) (hr : Sl w 1 (.slice A2 m c2) news) (h1 : ∀ u ∈ news, u.oneCell' = true)
    (hm : 0 < m) (hby : n + m ≤ 140737488355328) (hbase : base ≤ w.heap.size)
    (h : ∀ A' c' w', w'.ownsRow base e 1 (.slice A' (n + m) c') (n + m) (xs ++ news) → Below base w w' → wpList P ops Q rest (a.put o.dst (.slice A' (n + m) c')) w') : wpList P ops Q (o :: rest) a w := by
  rcases hown with ⟨hroom, hsl⟩ | hown
  · obtain ⟨c', w', hrun, h2, h3⟩ := app_full (P := P) w hT o.type hsl h1s hr h1 hroom hm hby
    refine wpList_plain hgd fun _ hK => ?_
    unfold Oper.wp execOp
    simp only [ho, resolve, invoke, builtin, Sem.run_bind, Sem.run_pure, Result.andThen_ok, List.map_toArray, List.map_cons, List.map_nil, hs, hx, hrun]
    exact hK _ _ (h _ c' w' (own_base h2 hbase) (h3.mono hbase))
  · exact wpList_app hgd s x hT ho base hs hown hx hr h1 (by simp [maxLen]; omega) (by omega) hbase (fun A' c' w' h2 h3 _ => h A' c' w' h2 (grown_below hown h3 hbase))
theorem dsk_read_on (base : Nat) (w : World) (D : Dk) (d : Nat) (I : Nat → Prop) (i : Nat) (h : Dsk base w D d I) (ho : D.off = false) (hi : i < D.stay.length) :
    Calls Try.prog 15 #[.pointer (some ⟨d, 0, none⟩), .int .i64 (i : Int)] w fun e w' => ∃ g, e = .returned (.tuple #[.slice (some ⟨g, 0, none⟩) 64 64, .int .i64 0]) ∧ w.heap.size ≤ g ∧ g < w'.heap.size ∧ Sl w' 1 (.slice (some ⟨g, 0, none⟩) 64 64) (B8 (readB D i)) ∧ Below w.heap.size w w' := by
  obtain ⟨gs, cs, r, Ao, co, h, _⟩ := h
  exact read_any base w D d gs cs r Ao co i h hi ho
/-- what Read tells, as a region's fact -/
def IsRd (v : Value) : Prop := ∃ g, v = .tuple #[.slice (some ⟨g, 0, none⟩) 64 64, .int .i64 0]
theorem isRd_any : ∃ v, IsRd v := ⟨_, 0, rfl⟩
def RdkF (l : List UInt8) (v : Value) : Fact := fun S w => ∃ g, v = .tuple #[.slice (some ⟨g, 0, none⟩) 64 64, .int .i64 0] ∧ S g ∧ Sl w 1 (.slice (some ⟨g, 0, none⟩) 64 64) (B8 l)
theorem good_rdk (l : List UInt8) (v : Value) : Good (RdkF l v) := fun S S' w w' h1 h2 ⟨g, e, h3, h4⟩ => ⟨g, e, h1 g h3, sl_sameJ h4 (fun ad had => by injection had with had; subst had; exact h2 g h3)⟩
theorem getN_two (l : List UInt8) (h : l.length ≤ 2) : getN l < 65536 := by
  rcases l with _ | ⟨a, _ | ⟨b, _ | ⟨c, l⟩⟩⟩
  · simp [getN]
  · have := a.toNat_lt; simp [getN]; omega
  · have := a.toNat_lt; have := b.toNat_lt; simp [getN]; omega
  · simp at h
def fullJ (D : Dk) (nx : Nat) : Nat → List UInt8
  | 0 => []
  | k + 1 => fullJ D nx k ++ readB D (nx + k)
def lenJ (D : Dk) (J : Jn) : Nat := getN (((readB D (nextJ D J)).drop 13).take 2)
def entJ (D : Dk) (J : Jn) : List UInt8 := ((fullJ D (nextJ D J) (takesN (lenJ D J))).drop 19).take (lenJ D J)
def readN (D : Dk) (J : Jn) : Option (List UInt8) :=
  if sizeJ D - J.used = 0 then none
  else if lenJ D J = 0 ∨ 8192 < lenJ D J ∨ sizeJ D - J.used < takesN (lenJ D J) then none
  else if fullJ D (nextJ D J) (takesN (lenJ D J)) = frameJ J.gen J.all.length (entJ D J) then some (entJ D J) else none
theorem fullJ_len {base : Nat} {w : World} {D : Dk} {d : Nat} {I : Nat → Prop} (h : Dsk base w D d I) (nx k : Nat) (hk : nx + k ≤ D.stay.length) : (fullJ D nx k).length = 64 * k := by
  induction k with
  | zero => rfl
  | succ k ih =>
    unfold fullJ
    rw [List.length_append, ih (by omega), readB_len h (nx + k) (by omega)]
    omega
theorem nextJ_room {D : Dk} {J : Jn} (h4 : 2 ≤ D.stay.length) (hh : J.half < 2) (k : Nat) (hk : k ≤ sizeJ D - J.used) (hu : J.used ≤ sizeJ D) : nextJ D J + k ≤ D.stay.length := by
  unfold nextJ
  have : 2 * sizeJ D ≤ D.stay.length - 2 := by unfold sizeJ; omega
  rcases (by omega : J.half = 0 ∨ J.half = 1) with h | h <;> rw [h] <;> omega
set_option maxRecDepth 100000 in
set_option maxHeartbeats 6400000 in
theorem readj_any (base : Nat) (w : World) (D : Dk) (J : Jn) (j d : Nat) (I K : Nat → Prop) (h : Jd base w D J j d I K) (h2 : 2 ≤ D.stay.length) (h3 : D.stay.length ≤ 1024) (ho : D.off = false) (hO : JOk J) (hu : J.used ≤ sizeJ D) :
    Calls Try.prog 121 #[.pointer (some ⟨j, 0, none⟩)] w fun e w' => ∃ v, e = .returned (.tuple #[v, .int .i64 0]) ∧ Below w.heap.size w w' ∧ ((readN D J = none ∧ v = .slice none 0 0) ∨ ∃ l g c, readN D J = some l ∧ v = .slice (some ⟨g, 0, none⟩) l.length c ∧ 1 ≤ l.length ∧ l.length ≤ 8192 ∧ w'.ownsRow w.heap.size 5 1 (.slice (some ⟨g, 0, none⟩) l.length c) l.length (B8 l) ∧ w.heap.size ≤ g ∧ g < w'.heap.size) := by
  obtain ⟨Aa, ca, hjl, _, _, q0, q1, q2, q3, q4, q5⟩ := h.jn.cells
  have z4 := fun (z : WK (fun _ => False) w) => (wat_cell (p := ⟨j, 4, none⟩) hjl (fun e => e) z).trans q4
  clear q1 q2 q3 q4 q5
  have hsz := sizeJ_le h3
  have hhalf := hO.half
  go_enter Try.func121, Try.ntmps121
  go_wp2_with fail
  refine wp_region_loud (fun _ => False) [(1, plainL [] (.int .i64 (sizeJ D)))] (fun _ => Fact.none) (by kernel_rfl) (by kernel_rfl) (.cons (plainL_ok _ _) .nil) good_nothing sat_none (WX.out ?_)
  repeat (first | (refine wx_quietU (by rfl) (by rfl) (by rfl) (fun K hK => ?_); go_big_quiet_op; refine hK _ ?_; clear hK K) | (refine wx_quietG (by rfl) (by rfl) (by rfl) (by rfl) (by rfl) (fun K hK => ?_); go_big_quiet_op; refine hK _ ?_; clear hK K) | (refine wx_skipG (by rfl) (by rfl) (by rfl) (fun K hK => ?_); go_simp; refine hK _ ?_; clear hK K) | (refine wx_skipN (by rfl) (by rfl) (by rfl) (fun K hK => ?_); go_simp; refine hK _ ?_; clear hK K))
  refine wx_loudU (us := []) (by rfl) (by rfl) (fun S wS hC hS hU => runs_enter (f := 122) (by go_simp <;> rfl) ?_) (fun v hv K hK => ?_)
  · refine (size_any' base wS D J j d I K (h.dk.below hC.below) (h.jn.below hC.below) h2 h3).mono ?_
    rintro e w9 ⟨rfl, rfl⟩
    exact ⟨_, rfl, rfl, Kept.refl _ _, trivial⟩
  obtain rfl := hv; (go_simp; refine hK _ ?_; clear hK K)
  have ex : (sizeJ D : Int) - (J.used : Int) = ((sizeJ D - J.used : Nat) : Int) := by omega
  repeat (first | (refine wx_quietU (by rfl) (by rfl) (by rfl) (fun K hK => ?_); go_big_quiet_op; refine hK _ ?_; clear hK K) | (refine wx_quietG (by rfl) (by rfl) (by rfl) (by rfl) (by rfl) (fun K hK => ?_); go_big_quiet_op; refine hK _ ?_; clear hK K) | (refine wx_skipG (by rfl) (by rfl) (by rfl) (fun K hK => ?_); go_simp; refine hK _ ?_; clear hK K) | (refine wx_skipN (by rfl) (by rfl) (by rfl) (fun K hK => ?_); go_simp; refine hK _ ?_; clear hK K))
  refine wx_nil fun w1 hsat => ?_
  have hb1 := sat_below hsat
  have h1 := h.below hb1
  have q01 := (hb1.cell (p := ⟨j, 0, none⟩) hjl).trans q0
  have hjl1 := Nat.lt_of_lt_of_le hjl hb1.size
  clear hsat z4 q0
  obtain ⟨lf, hlf⟩ : ∃ lf, sizeJ D - J.used = lf := ⟨_, rfl⟩
  rw [hlf]
  clear ex
  by_cases h0 : lf = 0
  · have HN : Hid (readN D J = none) := hid (by unfold readN; rw [hlf, if_pos h0])
    subst h0
    go_wp2_with fail
    refine bodyPost_ret (v := .tuple #[.slice none 0 0, .int .i64 0]) (by simp [results, Try.results121, go_sem]) rfl ⟨_, rfl, hb1, Or.inl ⟨HN.out, rfl⟩⟩
  · have qz : ((lf : Int) == 0) = false := by simpa using h0
    have hroom := nextJ_room (J := J) h2 hhalf lf (by omega) hu
    have z0 := fun (z : WK (fun _ => False) w1) => (wat_cell (p := ⟨j, 0, none⟩) hjl1 (fun e => e) z).trans q01
    go_wp2_with fail
    refine wp_region_loud (fun _ => False) [(5, plainL [] (.int .i64 (nextJ D J))), (6, factL [] IsRd (RdkF (readB D (nextJ D J))))] (fun _ => Fact.none) (by kernel_rfl) (by kernel_rfl) (.cons (plainL_ok _ _) (.cons (factL_ok isRd_any (good_rdk _)) .nil)) good_nothing sat_none (WX.out ?_)
    repeat (first | (refine wx_quietU (by rfl) (by rfl) (by rfl) (fun K hK => ?_); go_big_quiet_op; refine hK _ ?_; clear hK K) | (refine wx_quietG (by rfl) (by rfl) (by rfl) (by rfl) (by rfl) (fun K hK => ?_); go_big_quiet_op; refine hK _ ?_; clear hK K) | (refine wx_skipG (by rfl) (by rfl) (by rfl) (fun K hK => ?_); go_simp; refine hK _ ?_; clear hK K) | (refine wx_skipN (by rfl) (by rfl) (by rfl) (fun K hK => ?_); go_simp; refine hK _ ?_; clear hK K))
    refine wx_loudU (us := []) (by rfl) (by rfl) (fun S wS hC hS hU => runs_enter (f := 117) (by go_simp <;> rfl) ?_) (fun v hv K hK => ?_)
    · refine (next_any base wS D J j d I K (h1.dk.below hC.below) (h1.jn.below hC.below) h2 h3 hhalf (by omega)).mono ?_
      rintro e w9 ⟨rfl, hb9⟩
      exact ⟨_, rfl, rfl, Kept.of_below hb9, trivial⟩
    obtain rfl := hv; (go_simp; refine hK _ ?_; clear hK K)
    repeat (first | (refine wx_quietU (by rfl) (by rfl) (by rfl) (fun K hK => ?_); go_big_quiet_op; refine hK _ ?_; clear hK K) | (refine wx_quietG (by rfl) (by rfl) (by rfl) (by rfl) (by rfl) (fun K hK => ?_); go_big_quiet_op; refine hK _ ?_; clear hK K) | (refine wx_skipG (by rfl) (by rfl) (by rfl) (fun K hK => ?_); go_simp; refine hK _ ?_; clear hK K) | (refine wx_skipN (by rfl) (by rfl) (by rfl) (fun K hK => ?_); go_simp; refine hK _ ?_; clear hK K))
    refine wx_loudU (us := []) (by rfl) (by rfl) (fun S wS hC hS hU => runs_enter (f := 15) (by go_simp <;> rfl) ?_) (fun v hv K hK => ?_)
    · refine (dsk_read_on base wS D d I (nextJ D J) (h1.dk.below hC.below) ho (by omega)).mono ?_
      rintro e w9 ⟨g, rfl, hg1, hg2, hsl, hb9⟩
      exact ⟨_, rfl, ⟨g, rfl⟩, Kept.of_below hb9, g, rfl, .inr ⟨hg1, hg2⟩, hsl⟩
    obtain ⟨g, rfl⟩ := hv; (go_simp; refine hK _ ?_; clear hK K)
    repeat (first | (refine wx_quietU (by rfl) (by rfl) (by rfl) (fun K hK => ?_); go_big_quiet_op; refine hK _ ?_; clear hK K) | (refine wx_quietG (by rfl) (by rfl) (by rfl) (by rfl) (by rfl) (fun K hK => ?_); go_big_quiet_op; refine hK _ ?_; clear hK K) | (refine wx_skipG (by rfl) (by rfl) (by rfl) (fun K hK => ?_); go_simp; refine hK _ ?_; clear hK K) | (refine wx_skipN (by rfl) (by rfl) (by rfl) (fun K hK => ?_); go_simp; refine hK _ ?_; clear hK K))
    refine wx_nil fun w2 hsat => ?_
    obtain ⟨S, hS, hfin⟩ := sat_get hsat 6
    obtain ⟨g', eg, hSg, hrd⟩ := hfin
    obtain rfl : g = g' := by simpa using eg
    have hb12 := sat_below hsat
    have hb2 := hb1.trans (hb12.mono hb1.size)
    have hgf : w.heap.size ≤ g := by have := hb1.size; have := (hS g hSg).1.elim False.elim id; omega
    have hj2 := h1.below hb12
    have hlen1 := readB_len h1.dk (nextJ D J) (by omega)
    have hmid := sl_mid hrd 13 15 (by omega) (by omega) (by omega)
    have hgn : getN (((readB D (nextJ D J)).drop 13).take (15 - 13)) = lenJ D J := rfl
    have hn16 : lenJ D J < 65536 := by rw [← hgn]; exact getN_two _ (by simp; omega)
    have HRN : Hid (readN D J = if lenJ D J = 0 ∨ 8192 < lenJ D J ∨ lf < takesN (lenJ D J) then none else if fullJ D (nextJ D J) (takesN (lenJ D J)) = frameJ J.gen J.all.length (entJ D J) then some (entJ D J) else none) := hid (by unfold readN; rw [hlf, if_neg h0])
    have hf1 : fullJ D (nextJ D J) 1 = readB D (nextJ D J) := by simp [fullJ]
    rw [← hf1] at hrd
    have HEJ : Hid (entJ D J = ((fullJ D (nextJ D J) (takesN (lenJ D J))).drop 19).take (lenJ D J)) := hid rfl
    clear hsat hS hSg eg h1 q01 z0 hb12 hf1 hlen1
    go_wp2_with fail
    refine (get_any _ 2 (64 - 13) _ w2 hmid).mono ?_
    rintro e w3 ⟨rfl, rfl⟩
    rw [hgn]
    generalize lenJ D J = n at *
    clear hgn hmid
    by_cases c0 : n = 0
    · have HN : Hid (readN D J = none) := hid (by rw [HRN.out, if_pos (.inl c0)])
      subst c0
      clear HRN
      go_wp2_with fail
      refine bodyPost_ret (v := .tuple #[.slice none 0 0, .int .i64 0]) (by simp [results, Try.results121, go_sem]) rfl ⟨_, rfl, hb2, Or.inl ⟨HN.out, rfl⟩⟩
    · have qn0 : ((n : Int) == 0) = false := by simpa using c0
      by_cases c1 : 8192 < n
      · have HN : Hid (readN D J = none) := hid (by rw [HRN.out, if_pos (.inr (.inl c1))])
        clear HRN
        go_wp2_with fail
        refine bodyPost_ret (v := .tuple #[.slice none 0 0, .int .i64 0]) (by simp [results, Try.results121, go_sem]) rfl ⟨_, rfl, hb2, Or.inl ⟨HN.out, rfl⟩⟩
      · have htk : 1 ≤ takesN n ∧ takesN n ≤ 130 ∧ n + 19 ≤ takesN n * 64 := by unfold takesN; omega
        by_cases c2 : lf < takesN n
        · have HN : Hid (readN D J = none) := hid (by rw [HRN.out, if_pos (.inr (.inr c2))])
          clear HRN
          go_wp2_with fail
          refine (takes_any n (by omega) w3).mono ?_
          rintro e w4 ⟨rfl, rfl⟩
          go_wp2_with fail
          refine bodyPost_ret (v := .tuple #[.slice none 0 0, .int .i64 0]) (by simp [results, Try.results121, go_sem]) rfl ⟨_, rfl, hb2, Or.inl ⟨HN.out, rfl⟩⟩
        · have HRM : Hid (readN D J = if fullJ D (nextJ D J) (takesN n) = frameJ J.gen J.all.length (entJ D J) then some (entJ D J) else none) := hid (by rw [HRN.out, if_neg (by omega)])
          clear HRN
          go_wp2_with fail
          refine (takes_any n (by omega) w3).mono ?_
          rintro e w4 ⟨rfl, rfl⟩
          have hbs4 := hb2.size
          go_wp2_with fail
          go_loopw [5, 8] (fun v i wr => ∃ (k g : Nat) (c : Nat), 1 ≤ k ∧ k ≤ takesN n ∧ i = .int .i64 k ∧ v = .slice (some ⟨g, 0, none⟩) (64 * k) c ∧ ((c < 64 * k + 64 ∧ Sl wr 1 (.slice (some ⟨g, 0, none⟩) (64 * k) c) (B8 (fullJ D (nextJ D J) k))) ∨ wr.ownsRow w.heap.size 5 1 (.slice (some ⟨g, 0, none⟩) (64 * k) c) (64 * k) (B8 (fullJ D (nextJ D J) k))) ∧ Below w.heap.size w wr) (fun _ i _ => takesN n - (intOf i).toNat)
          case atStart => exact ⟨1, g, 64, by omega, by omega, rfl, rfl, .inl ⟨by omega, hrd⟩, hb2⟩
          case round =>
            clear hrd
            obtain ⟨k, g1, c1', hk1, hk2, rfl, rfl, hrow, hbr⟩ := hrel
            have hrs : Sl wr 1 (.slice (some ⟨g1, 0, none⟩) (64 * k) c1') (B8 (fullJ D (nextJ D J) k)) := by
              rcases hrow with e | e
              · exact e.2
              · exact own_sl e
            by_cases hkt : k < takesN n
            · have hjr := h.below hbr
              obtain ⟨_, _, hjlr, _, _, qr, _⟩ := hjr.jn.cells
              have zr := fun (z : WK (fun _ => False) wr) => (wat_cell (p := ⟨j, 0, none⟩) hjlr (fun e => e) z).trans qr
              have hrsz := hbr.size
              have HFJ : Hid (fullJ D (nextJ D J) (k + 1) = fullJ D (nextJ D J) k ++ readB D (nextJ D J + k)) := hid rfl
              obtain ⟨ix, hix⟩ : ∃ ix : Nat, nextJ D J + k = ix := ⟨_, rfl⟩
              have eix : (nextJ D J : Int) + (k : Int) = (ix : Int) := by omega
              rw [hix] at HFJ
              have hrl := readB_len hjr.dk ix (by omega)
              clear qr hj2 hb1 hb2
              go_wp2_with fail
              refine (takes_any n (by omega) wr).mono ?_
              rintro e w5 ⟨rfl, rfl⟩
              go_wp2_with fail
              refine wp_region_loud (fun _ => False) [(5, plainL [] (.int .i64 (nextJ D J))), (8, factL [] IsRd (RdkF (readB D ix)))] (fun _ => Fact.none) (by kernel_rfl) (by kernel_rfl) (.cons (plainL_ok _ _) (.cons (factL_ok isRd_any (good_rdk _)) .nil)) good_nothing sat_none (WX.out ?_)
              repeat (first | (refine wx_quietU (by rfl) (by rfl) (by rfl) (fun K hK => ?_); go_big_quiet_op; refine hK _ ?_; clear hK K) | (refine wx_quietG (by rfl) (by rfl) (by rfl) (by rfl) (by rfl) (fun K hK => ?_); go_big_quiet_op; refine hK _ ?_; clear hK K) | (refine wx_skipG (by rfl) (by rfl) (by rfl) (fun K hK => ?_); go_simp; refine hK _ ?_; clear hK K) | (refine wx_skipN (by rfl) (by rfl) (by rfl) (fun K hK => ?_); go_simp; refine hK _ ?_; clear hK K))
              refine wx_loudU (us := []) (by rfl) (by rfl) (fun S wS hC hS hU => runs_enter (f := 117) (by go_simp <;> rfl) ?_) (fun v hv K hK => ?_)
              · refine (next_any base wS D J j d I K (hjr.dk.below hC.below) (hjr.jn.below hC.below) h2 h3 hhalf (by omega)).mono ?_
                rintro e w9 ⟨rfl, hb9⟩
                exact ⟨_, rfl, rfl, Kept.of_below hb9, trivial⟩
              obtain rfl := hv; (go_simp; refine hK _ ?_; clear hK K)
              repeat (first | (refine wx_quietU (by rfl) (by rfl) (by rfl) (fun K hK => ?_); go_big_quiet_op; refine hK _ ?_; clear hK K) | (refine wx_quietG (by rfl) (by rfl) (by rfl) (by rfl) (by rfl) (fun K hK => ?_); go_big_quiet_op; refine hK _ ?_; clear hK K) | (refine wx_skipG (by rfl) (by rfl) (by rfl) (fun K hK => ?_); go_simp; refine hK _ ?_; clear hK K) | (refine wx_skipN (by rfl) (by rfl) (by rfl) (fun K hK => ?_); go_simp; refine hK _ ?_; clear hK K))
              refine wx_loudU (us := []) (by rfl) (by rfl) (fun S wS hC hS hU => runs_enter (f := 15) (by go_simp <;> rfl) ?_) (fun v hv K hK => ?_)
              · refine (dsk_read_on base wS D d I ix (hjr.dk.below hC.below) ho (by omega)).mono ?_
                rintro e w9 ⟨g, rfl, hg1, hg2, hsl, hb9⟩
                exact ⟨_, rfl, ⟨g, rfl⟩, Kept.of_below hb9, g, rfl, .inr ⟨hg1, hg2⟩, hsl⟩
              obtain ⟨g6, rfl⟩ := hv; (go_simp; refine hK _ ?_; clear hK K)
              repeat (first | (refine wx_quietU (by rfl) (by rfl) (by rfl) (fun K hK => ?_); go_big_quiet_op; refine hK _ ?_; clear hK K) | (refine wx_quietG (by rfl) (by rfl) (by rfl) (by rfl) (by rfl) (fun K hK => ?_); go_big_quiet_op; refine hK _ ?_; clear hK K) | (refine wx_skipG (by rfl) (by rfl) (by rfl) (fun K hK => ?_); go_simp; refine hK _ ?_; clear hK K) | (refine wx_skipN (by rfl) (by rfl) (by rfl) (fun K hK => ?_); go_simp; refine hK _ ?_; clear hK K))
              refine wx_nil fun w6 hsat => ?_
              obtain ⟨S, hS, hfin⟩ := sat_get hsat 8
              obtain ⟨g', eg, hSg, hrd⟩ := hfin
              obtain rfl : g6 = g' := by simpa using eg
              have hb6 := sat_below hsat
              have hbr6 := hbr.trans (hb6.mono hrsz)
              have hrow6 : (c1' < 64 * k + 64 ∧ Sl w6 1 (.slice (some ⟨g1, 0, none⟩) (64 * k) c1') (B8 (fullJ D (nextJ D J) k))) ∨ w6.ownsRow w.heap.size 5 1 (.slice (some ⟨g1, 0, none⟩) (64 * k) c1') (64 * k) (B8 (fullJ D (nextJ D J) k)) := by
                rcases hrow with e | e
                · exact .inl ⟨e.1, e.2.below hb6⟩
                · exact .inr (own_below e hb6)
              have hsz6 := hbr6.size
              clear hsat hS hSg eg zr hrow hrs hbr hb6 hjr
              go_wp2_with (at_builtin; refine wpList_app_rb rfl (.tmp 71) (.tmp 72) st_bytes rfl w.heap.size rfl hrow6 (B8_one _) rfl hrd (B8_one _) (by omega) (by omega) hsz6 ?_)
              intro A7 c7 w7 hown7 hb7
              have hbr7 := hbr6.trans hb7
              rw [← B8_append, ← HFJ.out, show 64 * k + 64 = 64 * (k + 1) by omega] at hown7
              rw [show 64 * k + 64 = 64 * (k + 1) by omega]
              obtain ⟨g7, rfl, hg7, hg7'⟩ := own_some hown7 (by omega)
              clear hrow6 hrd hbr6 hb7 HFJ
              go_wp2_with fail
              go_light
              exact ⟨⟨k + 1, g7, c7, by omega, by omega, by go_num, rfl, .inr hown7, hbr7⟩, by simp [intOf]; omega⟩
            · obtain rfl : k = takesN n := by omega
              have hmid := sl_mid hrs 19 (19 + n) (by omega) (by omega) (by omega)
              rw [show 19 + n - 19 = n by omega, ← HEJ.out] at hmid
              have hrl := hrs.len.1
              have hjr := h.below hbr
              have hgen := hO.gen
              have hfew := hO.few
              have hcap := hrs.len.2
              clear hrow h hj2 hb1 hb2 HEJ
              go_wp2_with fail
              refine (takes_any n (by omega) wr).mono ?_
              rintro e w5 ⟨rfl, rfl⟩
              go_wp2_with fail
              refine (clone_any g1 (0 + 19) n (c1' - 19) (entJ D J) w5 hmid (by omega)).mono ?_
              rintro e w6 ⟨A6, c6, rfl, hown6, hb6⟩
              obtain ⟨g6, rfl, hg6, hg6'⟩ := own_some hown6 (by omega)
              have hs6 := own_sl hown6
              have hl6 := hs6.len.1
              have hr6 := hrs.below hb6
              have hj6 := hjr.below hb6
              have hbr6 := hbr.trans (hb6.mono hbr.size)
              have hbrs := hbr.size
              clear hmid hrs hjr hbr hb6
              go_wp2_with fail
              refine (frame_any base w6 J j d K hj6.jn (by omega) (by omega) _ n c6 (entJ D J) hs6 (by omega)).mono ?_
              rintro e w7 ⟨A7, c7, rfl, hown7, hb7⟩
              have hr7 := hr6.below hb7
              have hbr7 := hbr6.trans (hb7.mono hbr6.size)
              have hown6' := own_below hown6 hb7
              have hf7 := own_sl hown7
              have hsz7 := hb7.size
              clear hown7 hr6 hbr6 hj6 hs6 hown6
              go_wp2_with fail
              refine (bytesEqual_any _ _ _ _ _ _ (fullJ D (nextJ D J) (takesN n)) (frameJ J.gen J.all.length (entJ D J)) w7 hr7 hf7).mono ?_
              rintro e w8 ⟨rfl, rfl⟩
              have hown9 := own_base hown6' hbrs
              by_cases c5 : fullJ D (nextJ D J) (takesN n) = frameJ J.gen J.all.length (entJ D J)
              · rw [beq_iff_eq.2 c5]
                have HN := hid (HRM.out.trans (if_pos c5))
                clear hr7 hf7 HRM c5 hown6'
                go_wp2_with fail
                refine bodyPost_ret (v := .tuple #[.slice (some ⟨g6, 0, none⟩) n c6, .int .i64 0]) (by simp [results, Try.results121, go_sem]) rfl ⟨_, rfl, hbr7, Or.inr ⟨entJ D J, g6, c6, HN.out, by rw [hl6], by omega, by omega, by rw [hl6]; exact hown9, by omega, by omega⟩⟩
              · rw [beq_eq_false_iff_ne.2 c5]
                have HN : Hid (readN D J = none) := hid (HRM.out.trans (if_neg c5))
                clear hr7 hf7 HRM c5 hown6'
                go_wp2_with fail
                refine bodyPost_ret (v := .tuple #[.slice none 0 0, .int .i64 0]) (by simp [results, Try.results121, go_sem]) rfl ⟨_, rfl, hbr7, Or.inl ⟨HN.out, rfl⟩⟩
end Go.Proofs.Ytfhlidlmipleaaa