/-
  Contracts of disk's keep and clear.
-/
import Derived.Test.YtfhlidlmipleaaaDk5
namespace Go.Proofs.Ytfhlidlmipleaaa
set_option linter.unusedVariables false
set_option linter.unusedSimpArgs false
open Go Go.RowKit

/-- cells laid over a list, from a place on -/
def setMany (xs : List Value) (o : Nat) : List Value → List Value
  | [] => xs
  | v :: r => setMany (xs.set o v) (o + 1) r
theorem own_setCells {base g n c : Nat} {e : TypeId} {size : Nat} (vs : List Value) : ∀ (o : Nat) (xs : List Value) (w : World), w.ownsRow base e size (.slice (some ⟨g, 0, none⟩) n c) n xs →
    (w.setCells g o vs).ownsRow base e size (.slice (some ⟨g, 0, none⟩) n c) n (setMany xs o vs) ∧ Kept (fun b => b = g) w (w.setCells g o vs) := by
  induction vs with
  | nil => intro o xs w h; exact ⟨h, Kept.refl _ _⟩
  | cons v r ih =>
    intro o xs w h
    obtain ⟨h1, h2⟩ := ih (o + 1) (xs.set o v) _ (h.stored o v).1
    have hk : Kept (fun b => b = g) w (w.setCell ⟨g, o, none⟩ v) := (Kept.refl (fun b => b = g) w).setCell (p := ⟨g, o, none⟩) (.inl rfl) v
    exact ⟨h1, hk.then (S' := fun b => b = g) h2 (fun b _ hb => hb)⟩
theorem setMany_append (xs ys : List Value) : ∀ (vs : List Value) (o : Nat), setMany (xs ++ ys) (xs.length + o) vs = xs ++ setMany ys o vs := by
  intro vs
  induction vs generalizing ys with
  | nil => intro o; rfl
  | cons v r ih =>
    intro o
    show setMany ((xs ++ ys).set (xs.length + o) v) (xs.length + o + 1) r = xs ++ setMany (ys.set o v) (o + 1) r
    rw [List.set_append_right _ _ (by omega), show xs.length + o - xs.length = o by omega, show xs.length + o + 1 = xs.length + (o + 1) by omega]
    exact ih (ys.set o v) (o + 1)
theorem setMany_head : ∀ (vs ps xs ys : List Value), xs.length = vs.length → setMany (ps ++ xs ++ ys) ps.length vs = ps ++ vs ++ ys := by
  intro vs
  induction vs with
  | nil => intro ps xs ys h; simp at h; subst h; rfl
  | cons v r ih =>
    intro ps xs ys h
    cases xs with
    | nil => simp at h
    | cons x t =>
      have := ih (ps ++ [v]) t ys (by simpa using h)
      show setMany ((ps ++ (x :: t) ++ ys).set ps.length v) (ps.length + 1) r = _
      rw [show ps ++ (x :: t) ++ ys = ps ++ (x :: (t ++ ys)) by simp, List.set_append_right _ _ (Nat.le_refl _)]
      simp only [Nat.sub_self, List.set_cons_zero]
      simp only [List.length_append, List.length_cons, List.length_nil, Nat.zero_add, List.append_assoc, List.cons_append, List.nil_append] at this
      rw [this]
      simp
theorem SEC_set (l : List (List UInt8)) (k : Nat) (v : List UInt8) (hl : ∀ s ∈ l, s.length = 64) (hv : v.length = 64) (hk : k < l.length) : setMany (SEC l) (k * 64) (B8 v) = SEC (l.set k v) := by
  have e : SEC l = SEC (l.take k) ++ B8 l[k] ++ SEC (l.drop (k + 1)) := by
    have e0 : l = l.take k ++ l[k] :: l.drop (k + 1) := (List.take_append_drop k l).symm.trans (by rw [List.drop_eq_getElem_cons hk])
    unfold SEC
    conv => lhs; rw [e0]
    rw [List.flatMap_append, List.flatMap_cons, List.append_assoc]
  have hlen : (SEC (l.take k)).length = k * 64 := by
    rw [SEC_length _ (fun s hs => hl s (List.mem_of_mem_take hs)), List.length_take]
    congr 1
    omega
  rw [e, ← hlen, setMany_head _ _ _ _ (by rw [B8_length, B8_length, hv, hl _ (List.getElem_mem hk)])]
  rw [List.set_eq_take_append_cons_drop, if_pos hk]
  simp [SEC]
theorem there_own {w : World} {base g n c : Nat} {e : TypeId} {xs : List Value} (h : w.ownsRow base e 64 (.slice (some ⟨g, 0, none⟩) n c) n xs) (k : Nat) (hk : k < n) : w.there g (k * 64) 64 := by
  intro j hj
  obtain ⟨h1, h2⟩ := own_cell h (k * 64 + j) (by omega)
  refine ⟨?_, h2⟩
  rw [h1, List.getElem?_eq_getElem (by rw [h.1]; omega)]
  rfl
theorem runs_store_mid {P : Program} {o : Oper} {a : Act} {w : World} {R : Value → World → Prop} (ty : TypeId) (x y : Operand) (ho : o.op = .store ty x y) (b off : Nat) (cells : Array Value) (hx : a.eval x = .pointer (some ⟨b, off, none⟩)) (hy : a.eval y = .agg cells)
    (ht : w.there b off cells.size) (hi : (P.info? ty).map (·.size) = some cells.size) (h1 : cells.all (·.oneCell') = true) (h : R undef (w.setCells b off cells.toList)) : runs P o a w R := by
  unfold runs execOp
  simp only [ho, hx, hy, Sem.run_bind, run_storeAt_mid w b off ty cells ht hi h1, Result.andThen_ok, Sem.run_pure]
  exact h
/-- the sectors' row of a disk, as a region's fact -/
def RowF (base : Nat) (gs n cs : Nat) (xs : List Value) : Fact := OwnF base 146 64 n xs (.slice (some ⟨gs, 0, none⟩) n cs)
theorem DkAt.sets {base : Nat} {w w' : World} {D : Dk} {d gs cs r : Nat} {Ao : Option Addr} {co : Nat} (h : DkAt base w D d gs cs r Ao co) (hk : Kept (fun b => b = gs) w w') (S' : List (List UInt8)) (hlen : S'.length = D.stay.length)
    (ho : w'.ownsRow base 146 64 (.slice (some ⟨gs, 0, none⟩) D.stay.length cs) D.stay.length (SEC S')) (hs : ∀ s ∈ S', s.length = 64) : DkAt base w' { D with stay := S' } d gs cs r Ao co := by
  obtain ⟨es, clk, hm, he⟩ := h.map
  refine ⟨?_, by rw [hlen]; exact ho, ⟨es, clk, blk_kept hm hk (fun e => h.sr e.symm), he⟩, ownsRow_kept h.ord hk (fun g hg e => h.os (by rw [hg, e])), h.ds, h.dr, h.sr, h.od, h.os, h.orr, h.bd, h.br, hs, h.secw, h.arm⟩
  have := blk_kept h.blk hk h.ds
  rw [this]
  unfold dkC
  rw [hlen]
def keepD (D : Dk) (i : Int) : Dk := { D with stay := D.stay.set i.toNat ((lookW D.wait i).getD zero64) }
set_option maxRecDepth 100000 in
set_option maxHeartbeats 1600000 in
theorem keep_any (base : Nat) (w : World) (D : Dk) (d gs cs r : Nat) (Ao : Option Addr) (co : Nat) (i : Nat) (h : DkAt base w D d gs cs r Ao co) (hi : i < D.stay.length) :
    Calls Try.prog 73 #[.pointer (some ⟨d, 0, none⟩), .int .i64 (i : Int)] w fun e w' => e = .returned (.tuple #[]) ∧ DkAt base w' (keepD D i) d gs cs r Ao co ∧ Kept (fun b => b = gs) w w' := by
  have hds := h.ds
  have hsr := h.sr
  obtain ⟨es, clk, hmap, he⟩ := h.map
  have hcap := own_lens h.stay
  have hdl := (Array.getElem?_eq_some_iff.1 h.blk).1
  have hrl := (Array.getElem?_eq_some_iff.1 hmap).1
  have hv64 := lookW_len D.wait (i : Int) h.secw
  obtain ⟨sv, hsv⟩ : ∃ sv, (lookW D.wait (i : Int)).getD zero64 = sv := ⟨_, rfl⟩
  have HV := hid hsv
  rw [hsv] at hv64
  have zd0 := fun (z : WK (fun b => b = gs) w) => (wat_cell (p := ⟨d, 0, none⟩) hdl (fun e => hds e) z).trans ((blk_cells h.blk).1 0)
  have zd1 := fun (z : WK (fun b => b = gs) w) => (wat_cell (p := ⟨d, 1, none⟩) hdl (fun e => hds e) z).trans ((blk_cells h.blk).1 1)
  have zl := fun (z : WK (fun b => b = gs) w) => ilook (P := Try.prog) (w := wat z) false Try.underlying141 Try.underlying3 (z := secV zero64) (by
    have h0 : (Try.prog.info? 146).map (fun i => (i.zero, i.size)) = some (some (secV zero64), 64) := by kernel_rfl
    exact (zero_of_info h0).1 (wat z)) (((wat_kept z).block r hrl (fun e => hsr e.symm)).trans hmap) he (i : Int)
  simp only [Bool.false_eq_true, if_false] at zl
  simp only [wv_look, hsv] at zl
  simp only [secV] at zl
  simp at zd0 zd1
  clear hsv
  go_enter Try.func73, Try.ntmps73
  refine wp_region_loud (fun b => b = gs)
    [(12, keepL [100] (RowF base gs D.stay.length cs (SEC (D.stay.set i sv))))]
    (labelled 100 (RowF base gs D.stay.length cs (SEC D.stay))) (by kernel_rfl) (by kernel_rfl)
    (.cons (keepL_ok _ (good_own _ _ _ _ _ _)) .nil) (good_one 100 (good_own _ _ _ _ _ _)) (sat_one 100 _ (fun g hg => by rw [hg]; exact (h.stay.lt gs rfl).2) ⟨fun g hg => by simp [Value.ownBlock] at hg; exact hg.symm, h.stay⟩) (WX.out ?_)
  repeat (first | (refine wx_quietU (by rfl) (by rfl) (by rfl) (fun K hK => ?_); go_big_quiet_op; refine hK _ ?_; clear hK K) | (refine wx_quietG (by rfl) (by rfl) (by rfl) (by rfl) (by rfl) (fun K hK => ?_); go_big_quiet_op; refine hK _ ?_; clear hK K) | (refine wx_skipG (by rfl) (by rfl) (by rfl) (fun K hK => ?_); go_simp; refine hK _ ?_; clear hK K) | (refine wx_skipN (by rfl) (by rfl) (by rfl) (fun K hK => ?_); go_simp; refine hK _ ?_; clear hK K))
  refine wx_loudU (us := [100]) (by rfl) (by rfl) (fun S wS hC hS hU => ?_) (fun v hv K hK => ?_)
  · have k100 : RowF base gs D.stay.length cs (SEC D.stay) S wS := hU 100 (by simp)
    have hth := there_own k100.2 i hi
    have hset := own_setCells (B8 sv) (i * 64) (SEC D.stay) wS k100.2
    rw [SEC_set D.stay i sv h.sec hv64 hi] at hset
    have hsz : (B8 sv).toArray.size = 64 := by simp [B8_length, hv64]
    refine runs_store_mid 146 (.tmp 15) (.tmp 14) rfl gs (i * 64) (B8 sv).toArray rfl rfl (by rw [hsz]; exact hth) (sec_info sv hv64) (sec_one sv) ⟨trivial, ?_, ?_⟩
    · exact hset.2.wider (fun b hb => by rw [hb]; exact k100.1 gs rfl)
    · exact ⟨fun g hg => Or.inl (k100.1 g hg), hset.1⟩
  (go_simp; refine hK _ ?_; clear hK K)
  repeat (first | (refine wx_quietU (by rfl) (by rfl) (by rfl) (fun K hK => ?_); go_big_quiet_op; refine hK _ ?_; clear hK K) | (refine wx_quietG (by rfl) (by rfl) (by rfl) (by rfl) (by rfl) (fun K hK => ?_); go_big_quiet_op; refine hK _ ?_; clear hK K) | (refine wx_skipG (by rfl) (by rfl) (by rfl) (fun K hK => ?_); go_simp; refine hK _ ?_; clear hK K) | (refine wx_skipN (by rfl) (by rfl) (by rfl) (fun K hK => ?_); go_simp; refine hK _ ?_; clear hK K))
  refine wx_nil fun w4 hsat => ?_
  have hk4 := hsat.1
  obtain ⟨S4, _, hm5⟩ := sat_get hsat 12
  have hm6 : RowF base gs D.stay.length cs (SEC (D.stay.set i sv)) S4 w4 := hm5
  have h4 := h.sets hk4 (D.stay.set i sv) (by simp) hm6.2 (fun s hs => by
    rcases List.mem_or_eq_of_mem_set hs with hs | rfl
    · exact h.sec s hs
    · exact hv64)
  clear hsat zd0 zd1 zl
  go_wp2_with fail
  refine bodyPost_end (v := .tuple #[]) (by simp [results, Try.results73, go_sem]) rfl ⟨rfl, ?_, hk4⟩
  unfold keepD
  rw [HV.out]
  exact h4
set_option maxRecDepth 100000 in
set_option maxHeartbeats 1600000 in
theorem clear_any (base : Nat) (w : World) (D : Dk) (d gs cs r : Nat) (Ao : Option Addr) (co : Nat) (h : DkAt base w D d gs cs r Ao co) (hbase : base ≤ w.heap.size) :
    Calls Try.prog 74 #[.pointer (some ⟨d, 0, none⟩)] w fun e w' => e = .returned (.tuple #[]) ∧ DkAt base w' { D with wait := [], order := [] } d gs cs w.heap.size none 0 ∧ Kept (fun b => b = d) w w' := by
  have hmm := mkMapD w
  have hdl := (Array.getElem?_eq_some_iff.1 h.blk).1
  have hgl := (h.stay.lt gs rfl).2
  have h1 := h.below ((Below.refl w.heap.size w).alloc (Nat.le_refl _) (.map #[] 0))
  obtain ⟨hc, hf⟩ := blk_cells h1.blk
  have q1 := hc 1
  have q2 := hc 2
  simp at q1 q2
  have hk : Kept (fun b => b = d) w (((w.setCell ⟨d, 1, none⟩ (.map (some w.heap.size))).setCell ⟨d, 2, none⟩ (.slice none 0 0)).alloc (.map #[] 0)) := (((Kept.refl (fun b => b = d) w).setCell (p := ⟨d, 1, none⟩) (.inl rfl) _).setCell (p := ⟨d, 2, none⟩) (.inl rfl) _).alloc _
  have hb := blk_set (blk_set h.blk 1 (.map (some w.heap.size))) 2 (.slice none 0 0)
  simp at hb
  have hm : (((w.setCell ⟨d, 1, none⟩ (.map (some w.heap.size))).setCell ⟨d, 2, none⟩ (.slice none 0 0)).alloc (.map #[] 0)).heap[w.heap.size]? = some (.map #[] 0) := heap_alloc_new' _ _ _ (by simp)
  have hD : DkAt base (((w.setCell ⟨d, 1, none⟩ (.map (some w.heap.size))).setCell ⟨d, 2, none⟩ (.slice none 0 0)).alloc (.map #[] 0)) { D with wait := [], order := [] } d gs cs w.heap.size none 0 :=
    ⟨blk_alloc hb _, ownsRow_kept h.stay hk (fun g hg e => by simp [Value.ownBlock] at hg; exact h.ds (by rw [← e, hg])), ⟨#[], 0, hm, rfl⟩, own_nilE _ _ _ _, h.ds, by omega, by omega, by simp [Value.ownBlock], by simp [Value.ownBlock], by simp [Value.ownBlock], h.bd, hbase, h.sec, by simp, h.arm⟩
  obtain ⟨hcw, hfw⟩ := blk_cells h.blk
  have r1 := hcw 1
  have r2 := hcw 2
  simp at r1 r2
  clear hc hb hm h1 hcw
  go_enter Try.func74, Try.ntmps74
  go_wp2_with fail
  refine bodyPost_end (v := .tuple #[]) (by simp [results, Try.results74, go_sem]) rfl ⟨rfl, hD, hk⟩
end Go.Proofs.Ytfhlidlmipleaaa
