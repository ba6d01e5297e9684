/-
  Contract of disk's Write.
-/
import Derived.Test.YtfhlidlmipleaaaDk4
import Derived.Deep.WholeRow
namespace Go.Proofs.Ytfhlidlmipleaaa
set_option linter.unusedVariables false
set_option linter.unusedSimpArgs false
open Go Go.RowKit

def lookW (l : List (Int × List UInt8)) (x : Int) : Option (List UInt8) :=
  match l with
  | [] => none
  | p :: t => if p.1 = x then some p.2 else lookW t x
def putW (l : List (Int × List UInt8)) (x : Int) (v : List UInt8) : List (Int × List UInt8) :=
  match l with
  | [] => [(x, v)]
  | p :: t => if p.1 = x then (x, v) :: t else p :: putW t x v
theorem wv_has (l : List (Int × List UInt8)) (x : Int) : hasI (wv l) x = (lookW l x).isSome := by
  induction l with
  | nil => rfl
  | cons p t ih =>
    unfold lookW
    by_cases h : p.1 = x
    · rw [if_pos h]; simp [hasI, wv, h]
    · rw [if_neg h, ← ih]; simp [hasI, wv, h]
theorem wv_look (l : List (Int × List UInt8)) (x : Int) : lookI (wv l) (secV zero64) x = secV ((lookW l x).getD zero64) := by
  induction l with
  | nil => rfl
  | cons p t ih =>
    unfold lookW
    by_cases h : p.1 = x
    · rw [if_pos h]; simp [wv, lookI, h]
    · rw [if_neg h, ← ih]
      show lookI ((p.1, secV p.2) :: wv t) _ _ = _
      rw [lookI, if_neg h]
theorem wv_put (l : List (Int × List UInt8)) (x : Int) (v : List UInt8) : putI (wv l) x (secV v) = wv (putW l x v) := by
  induction l with
  | nil => rfl
  | cons p t ih =>
    show putI ((p.1, secV p.2) :: wv t) x (secV v) = _
    unfold putW
    by_cases h : p.1 = x
    · rw [putI, if_pos h, if_pos h]; rfl
    · rw [putI, if_neg h, if_neg h, ih]; rfl
theorem putW_mem (l : List (Int × List UInt8)) (x : Int) (v : List UInt8) (hl : ∀ p ∈ l, p.2.length = 64) (hv : v.length = 64) : ∀ p ∈ putW l x v, p.2.length = 64 := by
  induction l with
  | nil => intro p hp; simp [putW] at hp; rw [hp]; exact hv
  | cons q t ih =>
    intro p hp
    unfold putW at hp
    split at hp
    · rcases List.mem_cons.1 hp with rfl | hp
      · exact hv
      · exact hl p (List.mem_cons_of_mem _ hp)
    · rcases List.mem_cons.1 hp with rfl | hp
      · exact hl _ (List.mem_cons_self ..)
      · exact ih (fun p hp => hl p (List.mem_cons_of_mem _ hp)) p hp
theorem lookW_len (l : List (Int × List UInt8)) (x : Int) (hl : ∀ p ∈ l, p.2.length = 64) : ((lookW l x).getD zero64).length = 64 := by
  induction l with
  | nil => simp [lookW, zero64]
  | cons q t ih =>
    unfold lookW
    split
    · simpa using hl q (List.mem_cons_self ..)
    · exact ih (fun p hp => hl p (List.mem_cons_of_mem _ hp))
theorem runs_load_mid {P : Program} {o : Oper} {a : Act} {w : World} {R : Value → World → Prop} (ty : TypeId) (x : Operand) (ho : o.op = .load ty x) (b off : Nat) (hx : a.eval x = .pointer (some ⟨b, off, none⟩)) (cs : List Value) (d : TypeDesc)
    (hc : w.rangeAt b off cs) (hu : P.underlying ty = some d) (hd : d.isRow = true) (hi : (P.info? ty).map (·.size) = some cs.length) (h : R (.agg cs.toArray) w) : runs P o a w R := by
  unfold runs execOp
  simp only [ho, hx, Sem.run_bind, run_loadAt_mid w b off ty cs d hc hu hd hi, Result.andThen_ok, Sem.run_pure]
  exact h
theorem sl_range {w : World} {b off n c : Nat} {l : List UInt8} (h : Sl w 1 (.slice (some ⟨b, off, none⟩) n c) (B8 l)) (hn : 0 < n) : w.rangeAt b off (B8 l) := by
  intro j v hv
  have hj := (List.getElem?_eq_some_iff.1 hv).1
  obtain ⟨A', n', c', he, hlen, _, _, hr⟩ := h
  injection he with h1 h2 h3
  subst h1; subst h2; subst h3
  obtain ⟨b', off', hbo, _, hc⟩ := hr hn
  injection hbo with hbo
  injection hbo with e1 e2
  subst e1; subst e2
  rw [hc j (by omega), hv]
/-- a map by its list, as a region's fact -/
def EntF (r : Nat) (L : List (Int × Value)) : Fact := fun S w => S r ∧ ∃ es clk, w.heap[r]? = some (.map es clk) ∧ Ent es L
theorem good_ent (r : Nat) (L : List (Int × Value)) : Good (EntF r L) := fun S S' w w' h1 h2 ⟨h3, es, clk, h4, h5⟩ => ⟨h1 r h3, es, clk, (h2 r h3).trans h4, h5⟩
theorem kept_setBlockD (w : World) (r : Nat) (o : Obj) : Kept (fun b => b = r) w (Go.ChangeMaps.setBlock w r o) :=
  ⟨rfl, rfl, rfl, by simp [Go.ChangeMaps.setBlock], fun b hb hn => by simp only [Go.ChangeMaps.setBlock]; rw [Array.getElem?_setIfInBounds_ne (fun e => hn e.symm)]⟩
theorem setBlock_atD {w : World} {r : Nat} {o o' : Obj} (h : w.heap[r]? = some o) : (Go.ChangeMaps.setBlock w r o').heap[r]? = some o' := by
  have hlt := (Array.getElem?_eq_some_iff.1 h).1
  simp [Go.ChangeMaps.setBlock, hlt]
theorem DkAt.setm {base : Nat} {w w' : World} {D : Dk} {d gs cs r : Nat} {Ao : Option Addr} {co : Nat} (h : DkAt base w D d gs cs r Ao co) (hk : Kept (fun b => b = r) w w') (W : List (Int × List UInt8)) (hm : ∃ es clk, w'.heap[r]? = some (.map es clk) ∧ Ent es (wv W)) (hw : ∀ p ∈ W, p.2.length = 64) :
    DkAt base w' { D with wait := W } d gs cs r Ao co :=
  ⟨blk_kept h.blk hk h.dr, ownsRow_kept h.stay hk (fun g hg e => h.sr (by simp [Value.ownBlock] at hg; rw [hg, e])), hm, ownsRow_kept h.ord hk (fun g hg e => h.orr (by rw [hg, e])), h.ds, h.dr, h.sr, h.od, h.os, h.orr, h.bd, h.br, h.sec, hw, h.arm⟩
theorem st_ints : ST Try.prog 48 3 1 8 := .mk Try.underlying48 (z := .int .i64 0) (by kernel_rfl) rfl (by omega)
theorem II_one (l : List Int) : ∀ u ∈ II l, u.oneCell' = true := by
  intro u hu
  obtain ⟨c, _, rfl⟩ := List.mem_map.1 hu
  rfl
/-- the order's row grown, and laid into the disk -/
theorem DkAt.appo {base : Nat} {w w' : World} {D : Dk} {d gs cs r : Nat} {Ao : Option Addr} {co : Nat} (h : DkAt base w D d gs cs r Ao co) (O' : List Int) {A9 : Option Addr} {c9 : Nat}
    (ho : w'.ownsRow base 3 1 (.slice A9 O'.length c9) O'.length (II O')) (hg : w.grownBy w' (Value.ownBlock (.slice Ao D.order.length co)))
    (hf : Value.ownBlock (.slice A9 O'.length c9) = Value.ownBlock (.slice Ao D.order.length co) ∨ Value.ownBlock (.slice A9 O'.length c9) = some w.heap.size) :
    DkAt base (w'.setCell ⟨d, 2, none⟩ (.slice A9 O'.length c9)) { D with order := O' } d gs cs r A9 c9 := by
  have hdl := (Array.getElem?_eq_some_iff.1 h.blk).1
  have hgl := (h.stay.lt gs rfl).2
  obtain ⟨es, clk, hm, he⟩ := h.map
  have hrl := (Array.getElem?_eq_some_iff.1 hm).1
  have far : ∀ b, b < w.heap.size → Value.ownBlock (.slice Ao D.order.length co) ≠ some b → Value.ownBlock (.slice A9 O'.length c9) ≠ some b := by
    intro b hb hn e
    rcases hf with hf | hf
    · exact hn (by rw [← hf, e])
    · rw [hf] at e
      injection e with e
      omega
  have n1 := far d hdl h.od
  have n2 := far gs hgl h.os
  have n3 := far r hrl h.orr
  have hk : Kept (fun b => b = d) w' (w'.setCell ⟨d, 2, none⟩ (.slice A9 O'.length c9)) := (Kept.refl (fun b => b = d) w').setCell (p := ⟨d, 2, none⟩) (.inl rfl) _
  have hb := blk_set ((hg.block d hdl (fun e => h.od e.symm)).trans h.blk) 2 (.slice A9 O'.length c9)
  simp at hb
  refine ⟨hb, ?_, ⟨es, clk, blk_kept ((hg.block r hrl (fun e => h.orr e.symm)).trans hm) hk (fun e => h.dr e.symm), he⟩, ownsRow_kept ho hk (fun g hg e => n1 (by rw [hg, e])), h.ds, h.dr, h.sr, n1, n2, n3, h.bd, h.br, h.sec, h.secw, h.arm⟩
  have hs := h.stay.kept hg (by
    right
    show some gs ≠ _
    exact fun e => h.os e.symm)
  exact ownsRow_kept hs hk (fun g hg e => by simp [Value.ownBlock] at hg; exact h.ds (by rw [← e, hg]))
/-- a row's block: as it was, or a new one -/
def RowAt (size : Nat) (Ao Ao' : Option Addr) : Prop := ∀ ad, Ao' = some ad → (∃ a0, Ao = some a0 ∧ a0.block = ad.block) ∨ size ≤ ad.block
/-- a write that may be -/
def laidD (D : Dk) (i : Int) (l : List UInt8) : Dk := { D with order := if (lookW D.wait i).isSome = true then D.order else D.order ++ [i], wait := putW D.wait i l }
theorem wpList_store_new {P : Program} {ops : Array Oper} {rest : List Oper} {op : Oper} {a : Act} {w : World} {Q : Exit → Act → World → Prop} (hgd : op.guard = none) (ty : TypeId) (x y : Operand) (ho : op.op = .store ty x y)
    {c : Array Value} (c' : Array Value) (hx : a.eval x = .pointer (some ⟨w.heap.size, 0, none⟩)) (hy : a.eval y = .agg c') (hi : (P.info? ty).map (·.size) = some c'.size) (hs : c.size = c'.size) (h1 : c'.all (·.oneCell') = true)
    (h : wpList P ops Q rest (a.put op.dst undef) (w.alloc (.cells c' ty))) : wpList P ops Q (op :: rest) a (w.alloc (.cells c ty)) :=
  wpList_plain hgd fun _ hK => by
    unfold Oper.wp execOp
    simp only [ho, hx, hy, Sem.run_bind, run_storeAt_new w ty c c' hi hs h1, Result.andThen_ok]
    exact hK _ _ h
theorem sec_info (l : List UInt8) (h : l.length = 64) : (Try.prog.info? 146).map (·.size) = some (B8 l).toArray.size := by
  have h0 : (Try.prog.info? 146).map (fun i => i.size) = some 64 := by kernel_rfl
  rw [h0]
  simp [B8_length, h]
theorem sec_one (l : List UInt8) : (B8 l).toArray.all (·.oneCell') = true := all_oneCell_toArray (B8_one l)
set_option maxRecDepth 100000 in
set_option maxHeartbeats 1600000 in
theorem write_ok (base : Nat) (w : World) (D E : Dk) (d gs cs r : Nat) (Ao : Option Addr) (co : Nat) (i : Int) (b off c : Nat) (l : List UInt8) (h : DkAt base w D d gs cs r Ao co) (hbase : base ≤ w.heap.size) (hm : mayE D i = 0) (hs : stepD D = (E, 0))
    (hl : Sl w 1 (.slice (some ⟨b, off, none⟩) 64 c) (B8 l)) (hlen : E.order.length ≤ 1000) (hl64 : l.length = 64) (hnb : ¬ (b = d ∨ b = r ∨ Value.ownBlock (.slice Ao E.order.length co) = some b)) :
    Calls Try.prog 17 #[.pointer (some ⟨d, 0, none⟩), .int .i64 i, .slice (some ⟨b, off, none⟩) 64 c] w fun e w' => e = .returned (.int .i64 0) ∧ ∃ Ao' co', DkAt base w' (laidD E i l) d gs cs r Ao' co' ∧
      Kept (fun x => x = d ∨ x = r ∨ Value.ownBlock (.slice Ao E.order.length co) = some x) w w' ∧ RowAt w.heap.size Ao Ao' := by
  have HM := hid hm
  have HS := hid hs
  clear hm hs
  go_enter Try.func17, Try.ntmps17
  go_wp2_with fail
  refine (may_any base w D d gs cs r Ao co i h).mono ?_
  rintro e w1 ⟨rfl, rfl⟩
  rw [HM.out]
  go_wp2_with fail
  refine (step_any base w1 D d gs cs r Ao co h).mono ?_
  rintro e w2 ⟨rfl, h2, hk2⟩
  rw [HS.out] at h2
  rw [HS.out]
  change DkAt base w2 E d gs cs r Ao co at h2
  obtain ⟨es, clk, hmap, he⟩ := h2.map
  have hlk := ilook (P := Try.prog) (w := w2) true Try.underlying141 Try.underlying3 (z := secV zero64) (by
    have h0 : (Try.prog.info? 146).map (fun i => (i.zero, i.size)) = some (some (secV zero64), 64) := by kernel_rfl
    exact (zero_of_info h0).1 w2) hmap he i
  rw [if_pos rfl, wv_look, wv_has] at hlk
  obtain ⟨hcd, hfd⟩ := blk_cells h2.blk
  have q1 := hcd 1
  have q2 := hcd 2
  simp at q1 q2
  cases ho : lookW E.wait i with
  | some old =>
    rw [ho] at hlk
    have hlo : old.length = 64 := by have := lookW_len E.wait i h2.secw; rw [ho] at this; exact this
    simp only [Option.getD_some, Option.isSome_some, secV] at hlk
    have hz64 : (B8 old).toArray.size = 64 := by simp [B8_length, hlo]
    go_wp2_with (refine wpList_store_new rfl 146 (.tmp 9) (.tmp 32) rfl (B8 old).toArray rfl rfl (sec_info old hlo) (by rw [hz64]; rfl) (sec_one old) ?_)
    have hba := (Below.refl w2.heap.size w2).alloc (Nat.le_refl _) (.cells (B8 old).toArray 146)
    have h3 := h2.below hba
    have hk3 : Kept (fun x => x = d ∨ x = r ∨ Value.ownBlock (.slice Ao E.order.length co) = some x) w1 (w2.alloc (.cells (B8 old).toArray 146)) := (hk2.wider (fun b hb => Or.inl hb)).alloc _
    have hl3 := sl_kept hl hk3 (fun ad had => by injection had with had; subst had; exact hnb)
    clear h2 hk2 hba hmap he hlk hcd hfd q1 q2
    change Code.wp _ _ _ _ (w2.alloc (.cells (B8 old).toArray 146))
    generalize w2.alloc (.cells (B8 old).toArray 146) = w3 at *
    have HRW : Hid (RowAt w1.heap.size Ao Ao) := fun ad had => .inl ⟨ad, had, rfl⟩
    obtain ⟨es, clk, hmap, he⟩ := h3.map
    have hd3 := (Array.getElem?_eq_some_iff.1 h3.blk).1
    have hr3 := (Array.getElem?_eq_some_iff.1 hmap).1
    have hdr := h3.dr
    have zd := fun (z : WK (fun b => b = r) w3) => (wat_cell (p := ⟨d, 1, none⟩) hd3 (fun e => hdr e) z).trans ((blk_cells h3.blk).1 1)
    simp at zd
    refine wp_region_loud (fun b => b = r)
      [(6, plainL [] (.pointer (some ⟨b, off, none⟩))), (7, plainL [] (.agg (B8 l).toArray)), (8, keepL [100] (EntF r (wv (putW E.wait i l))))]
      (labelled 100 (EntF r (wv E.wait))) (by kernel_rfl) (by kernel_rfl)
      (.cons (plainL_ok _ _) (.cons (plainL_ok _ _) (.cons (keepL_ok _ (good_ent _ _)) .nil))) (good_one 100 (good_ent _ _)) (sat_one 100 _ (fun g hg => by rw [hg]; exact hr3) ⟨rfl, es, clk, hmap, he⟩) (WX.out ?_)
    repeat (first | (refine wx_quietU (by rfl) (by rfl) (by rfl) (fun K hK => ?_); go_big_quiet_op; refine hK _ ?_; clear hK K) | (refine wx_quietG (by rfl) (by rfl) (by rfl) (by rfl) (by rfl) (fun K hK => ?_); go_big_quiet_op; refine hK _ ?_; clear hK K) | (refine wx_skipG (by rfl) (by rfl) (by rfl) (fun K hK => ?_); go_simp; refine hK _ ?_; clear hK K) | (refine wx_skipN (by rfl) (by rfl) (by rfl) (fun K hK => ?_); go_simp; refine hK _ ?_; clear hK K))
    refine wx_loudU (us := []) (by rfl) (by rfl) (fun S wS hC hS hU => ?_) (fun v hv K hK => ?_)
    · exact runs_value (by go_simp <;> rfl) ⟨rfl, Kept.refl _ _, trivial⟩
    obtain rfl := hv; (go_simp; refine hK _ ?_; clear hK K)
    repeat (first | (refine wx_quietU (by rfl) (by rfl) (by rfl) (fun K hK => ?_); go_big_quiet_op; refine hK _ ?_; clear hK K) | (refine wx_quietG (by rfl) (by rfl) (by rfl) (by rfl) (by rfl) (fun K hK => ?_); go_big_quiet_op; refine hK _ ?_; clear hK K) | (refine wx_skipG (by rfl) (by rfl) (by rfl) (fun K hK => ?_); go_simp; refine hK _ ?_; clear hK K) | (refine wx_skipN (by rfl) (by rfl) (by rfl) (fun K hK => ?_); go_simp; refine hK _ ?_; clear hK K))
    refine wx_loudU (us := []) (by rfl) (by rfl) (fun S wS hC hS hU => ?_) (fun v hv K hK => ?_)
    · have hlS := sl_kept hl3 hC (fun ad had => by injection had with had; subst had; exact fun e => hnb (.inr (.inl e)))
      exact runs_load_mid 146 (.tmp 52) rfl b off rfl (B8 l) _ (sl_range hlS (by omega)) Try.underlying146 rfl (by have := sec_info l hl64; simpa using this) ⟨rfl, Kept.refl _ _, trivial⟩
    obtain rfl := hv; (go_simp; refine hK _ ?_; clear hK K)
    repeat (first | (refine wx_quietU (by rfl) (by rfl) (by rfl) (fun K hK => ?_); go_big_quiet_op; refine hK _ ?_; clear hK K) | (refine wx_quietG (by rfl) (by rfl) (by rfl) (by rfl) (by rfl) (fun K hK => ?_); go_big_quiet_op; refine hK _ ?_; clear hK K) | (refine wx_skipG (by rfl) (by rfl) (by rfl) (fun K hK => ?_); go_simp; refine hK _ ?_; clear hK K) | (refine wx_skipN (by rfl) (by rfl) (by rfl) (fun K hK => ?_); go_simp; refine hK _ ?_; clear hK K))
    refine wx_loudU (us := [100]) (by rfl) (by rfl) (fun S wS hC hS hU => ?_) (fun v hv K hK => ?_)
    · obtain ⟨hSr, es1, clk1, hm1, he1⟩ := (hU 100 (by simp) : EntF r (wv E.wait) S wS)
      obtain ⟨es2, clk2, hup, he2⟩ := iupd (P := Try.prog) (w := wS) Try.underlying141 Try.underlying3 hm1 he1 i (.agg (B8 l).toArray)
      have he3 : Ent es2 (wv (putW E.wait i l)) := by rw [← wv_put]; exact he2
      refine runs_skip (by go_simp <;> rfl) ⟨trivial, ?_, .inl hSr, es2, clk2, ?_, he3⟩
      · exact (kept_setBlockD wS r _).wider (fun b hb => by rw [hb]; exact hSr)
      · exact setBlock_atD hm1
    (go_simp; refine hK _ ?_; clear hK K)
    repeat (first | (refine wx_quietU (by rfl) (by rfl) (by rfl) (fun K hK => ?_); go_big_quiet_op; refine hK _ ?_; clear hK K) | (refine wx_quietG (by rfl) (by rfl) (by rfl) (by rfl) (by rfl) (fun K hK => ?_); go_big_quiet_op; refine hK _ ?_; clear hK K) | (refine wx_skipG (by rfl) (by rfl) (by rfl) (fun K hK => ?_); go_simp; refine hK _ ?_; clear hK K) | (refine wx_skipN (by rfl) (by rfl) (by rfl) (fun K hK => ?_); go_simp; refine hK _ ?_; clear hK K))
    refine wx_nil fun w4 hsat => ?_
    have hk4 := hsat.1
    obtain ⟨S4, _, hm5⟩ := sat_get hsat 8
    have hm6 : EntF r (wv (putW E.wait i l)) S4 w4 := hm5
    have h4 := h3.setm hk4 (putW E.wait i l) hm6.2 (putW_mem E.wait i l h3.secw hl64)
    clear h3
    have hk5 := hk3.then (S' := fun b => b = r) hk4 (fun b _ hb => .inr (.inl hb))
    clear hsat zd
    go_wp2_with fail
    go_ret
    have h6 : DkAt base w4 (laidD E i l) d gs cs r Ao co := by unfold laidD; rw [ho]; exact h4
    first | exact ⟨rfl, Ao, co, h6, hk5, HRW.out⟩ | exact ⟨rfl, Ao, ⟨co, h6⟩, hk5, HRW.out⟩
  | none =>
    rw [ho] at hlk
    simp only [Option.getD_none, Option.isSome_none, secV] at hlk
    have hz64 : (B8 zero64).toArray.size = 64 := by simp [B8_length, zero64]
    have hs2 : base ≤ w2.heap.size := by have := hk2.size; omega
    have hba := (Below.refl w2.heap.size w2).alloc (Nat.le_refl _) (.cells (B8 zero64).toArray 146)
    have hba2 := hba.alloc (by simp) (.cells #[.int .i64 i] 3)
    have h3 := h2.below hba2
    have q3 := (blk_cells (h2.below hba).blk).1 2
    have q4 := (blk_cells h3.blk).1 2
    simp at q3 q4
    have hsl : Sl ((w2.alloc (.cells (B8 zero64).toArray 146)).alloc (.cells #[.int .i64 i] 3)) 1 (.slice (some ⟨w2.heap.size + 1, 0, none⟩) 1 1) (II [i]) := by
      have := own_sl (own_made (w2.alloc (.cells (B8 zero64).toArray 146)) 0 3 1 1 #[.int .i64 i] (II [i]) (Nat.zero_le _) rfl rfl (by omega) (by omega))
      simpa using this
    go_wp2_with (first | (refine wpList_store_new rfl 146 (.tmp 9) (.tmp 32) rfl (B8 zero64).toArray rfl rfl (sec_info zero64 rfl) (by rw [hz64]; rfl) (sec_one zero64) ?_) | (at_builtin; refine wpList_app rfl (.tmp 40) (.tmp 42) st_ints rfl base rfl h3.ord rfl hsl (II_one _) (by simp [maxLen]; omega) (by omega) (by simp; omega) ?_))
    intro A9 c9 w5 ho9 hg9 hf9
    have e9 : E.order.length + 1 = (E.order ++ [i]).length := by simp
    rw [show II E.order ++ II [i] = II (E.order ++ [i]) by simp [II], e9] at ho9
    rw [e9] at hf9
    have HRW : Hid (RowAt w1.heap.size Ao A9) := fun ad had => by
      subst had
      rcases hf9 with e | e
      · cases Ao with
        | none => simp [Value.ownBlock] at e
        | some a0 => simp [Value.ownBlock] at e; exact .inl ⟨a0, rfl, e.symm⟩
      · simp [Value.ownBlock] at e; have := hk2.size; exact .inr (by omega)
    have h5 := h3.appo (E.order ++ [i]) ho9 hg9 (by simpa using hf9)
    have hdl5 := (Array.getElem?_eq_some_iff.1 h3.blk).1
    have hbl5 := (hg9.block d hdl5 (fun e => h3.od e.symm)).trans h3.blk
    obtain ⟨hc5, hf5⟩ := blk_cells hbl5
    have p2 := hc5 2
    simp at p2
    have hk5a : Kept (fun x => x = d ∨ x = r ∨ Value.ownBlock (.slice Ao E.order.length co) = some x) w1 ((w2.alloc (.cells (B8 zero64).toArray 146)).alloc (.cells #[.int .i64 i] 3)) := ((hk2.wider (fun b hb => Or.inl hb)).alloc _).alloc _
    have hk5b : Kept (fun x => x = d ∨ x = r ∨ Value.ownBlock (.slice Ao E.order.length co) = some x) w1 w5 := hk5a.then (S' := fun x => Value.ownBlock (.slice Ao E.order.length co) = some x) (Kept.of_grown hg9 (fun g hg => hg)) (fun b _ hb => .inr (.inr hb))
    have hk3 := hk5b.setCell (p := ⟨d, 2, none⟩) (.inl (.inl rfl)) (.slice A9 (E.order ++ [i]).length c9)
    have hl3 := sl_kept hl hk3 (fun ad had => by injection had with had; subst had; exact hnb)
    clear h2 hk2 hba hba2 hmap he hlk hcd hfd q1 q2 q3 q4 h3 hsl ho9 hg9 hf9 hdl5 hbl5 hk5a hk5b hc5
    rw [← e9] at h5 hk3 hl3
    clear e9
    go_wp2_with fail
    clear p2 hf5
    change Code.wp _ _ _ _ (w5.setCell ⟨d, 2, none⟩ (.slice A9 (E.order.length + 1) c9))
    generalize w5.setCell ⟨d, 2, none⟩ (.slice A9 (E.order.length + 1) c9) = w3 at *
    have h3 := h5
    obtain ⟨es, clk, hmap, he⟩ := h3.map
    have hd3 := (Array.getElem?_eq_some_iff.1 h3.blk).1
    have hr3 := (Array.getElem?_eq_some_iff.1 hmap).1
    have hdr := h3.dr
    have zd := fun (z : WK (fun b => b = r) w3) => (wat_cell (p := ⟨d, 1, none⟩) hd3 (fun e => hdr e) z).trans ((blk_cells h3.blk).1 1)
    simp at zd
    refine wp_region_loud (fun b => b = r)
      [(6, plainL [] (.pointer (some ⟨b, off, none⟩))), (7, plainL [] (.agg (B8 l).toArray)), (8, keepL [100] (EntF r (wv (putW E.wait i l))))]
      (labelled 100 (EntF r (wv E.wait))) (by kernel_rfl) (by kernel_rfl)
      (.cons (plainL_ok _ _) (.cons (plainL_ok _ _) (.cons (keepL_ok _ (good_ent _ _)) .nil))) (good_one 100 (good_ent _ _)) (sat_one 100 _ (fun g hg => by rw [hg]; exact hr3) ⟨rfl, es, clk, hmap, he⟩) (WX.out ?_)
    repeat (first | (refine wx_quietU (by rfl) (by rfl) (by rfl) (fun K hK => ?_); go_big_quiet_op; refine hK _ ?_; clear hK K) | (refine wx_quietG (by rfl) (by rfl) (by rfl) (by rfl) (by rfl) (fun K hK => ?_); go_big_quiet_op; refine hK _ ?_; clear hK K) | (refine wx_skipG (by rfl) (by rfl) (by rfl) (fun K hK => ?_); go_simp; refine hK _ ?_; clear hK K) | (refine wx_skipN (by rfl) (by rfl) (by rfl) (fun K hK => ?_); go_simp; refine hK _ ?_; clear hK K))
    refine wx_loudU (us := []) (by rfl) (by rfl) (fun S wS hC hS hU => ?_) (fun v hv K hK => ?_)
    · exact runs_value (by go_simp <;> rfl) ⟨rfl, Kept.refl _ _, trivial⟩
    obtain rfl := hv; (go_simp; refine hK _ ?_; clear hK K)
    repeat (first | (refine wx_quietU (by rfl) (by rfl) (by rfl) (fun K hK => ?_); go_big_quiet_op; refine hK _ ?_; clear hK K) | (refine wx_quietG (by rfl) (by rfl) (by rfl) (by rfl) (by rfl) (fun K hK => ?_); go_big_quiet_op; refine hK _ ?_; clear hK K) | (refine wx_skipG (by rfl) (by rfl) (by rfl) (fun K hK => ?_); go_simp; refine hK _ ?_; clear hK K) | (refine wx_skipN (by rfl) (by rfl) (by rfl) (fun K hK => ?_); go_simp; refine hK _ ?_; clear hK K))
    refine wx_loudU (us := []) (by rfl) (by rfl) (fun S wS hC hS hU => ?_) (fun v hv K hK => ?_)
    · have hlS := sl_kept hl3 hC (fun ad had => by injection had with had; subst had; exact fun e => hnb (.inr (.inl e)))
      exact runs_load_mid 146 (.tmp 52) rfl b off rfl (B8 l) _ (sl_range hlS (by omega)) Try.underlying146 rfl (by have := sec_info l hl64; simpa using this) ⟨rfl, Kept.refl _ _, trivial⟩
    obtain rfl := hv; (go_simp; refine hK _ ?_; clear hK K)
    repeat (first | (refine wx_quietU (by rfl) (by rfl) (by rfl) (fun K hK => ?_); go_big_quiet_op; refine hK _ ?_; clear hK K) | (refine wx_quietG (by rfl) (by rfl) (by rfl) (by rfl) (by rfl) (fun K hK => ?_); go_big_quiet_op; refine hK _ ?_; clear hK K) | (refine wx_skipG (by rfl) (by rfl) (by rfl) (fun K hK => ?_); go_simp; refine hK _ ?_; clear hK K) | (refine wx_skipN (by rfl) (by rfl) (by rfl) (fun K hK => ?_); go_simp; refine hK _ ?_; clear hK K))
    refine wx_loudU (us := [100]) (by rfl) (by rfl) (fun S wS hC hS hU => ?_) (fun v hv K hK => ?_)
    · obtain ⟨hSr, es1, clk1, hm1, he1⟩ := (hU 100 (by simp) : EntF r (wv E.wait) S wS)
      obtain ⟨es2, clk2, hup, he2⟩ := iupd (P := Try.prog) (w := wS) Try.underlying141 Try.underlying3 hm1 he1 i (.agg (B8 l).toArray)
      have he3 : Ent es2 (wv (putW E.wait i l)) := by rw [← wv_put]; exact he2
      refine runs_skip (by go_simp <;> rfl) ⟨trivial, ?_, .inl hSr, es2, clk2, ?_, he3⟩
      · exact (kept_setBlockD wS r _).wider (fun b hb => by rw [hb]; exact hSr)
      · exact setBlock_atD hm1
    (go_simp; refine hK _ ?_; clear hK K)
    repeat (first | (refine wx_quietU (by rfl) (by rfl) (by rfl) (fun K hK => ?_); go_big_quiet_op; refine hK _ ?_; clear hK K) | (refine wx_quietG (by rfl) (by rfl) (by rfl) (by rfl) (by rfl) (fun K hK => ?_); go_big_quiet_op; refine hK _ ?_; clear hK K) | (refine wx_skipG (by rfl) (by rfl) (by rfl) (fun K hK => ?_); go_simp; refine hK _ ?_; clear hK K) | (refine wx_skipN (by rfl) (by rfl) (by rfl) (fun K hK => ?_); go_simp; refine hK _ ?_; clear hK K))
    refine wx_nil fun w4 hsat => ?_
    have hk4 := hsat.1
    obtain ⟨S4, _, hm5⟩ := sat_get hsat 8
    have hm6 : EntF r (wv (putW E.wait i l)) S4 w4 := hm5
    have h4 := h3.setm hk4 (putW E.wait i l) hm6.2 (putW_mem E.wait i l h3.secw hl64)
    clear h3
    have hk5 := hk3.then (S' := fun b => b = r) hk4 (fun b _ hb => .inr (.inl hb))
    clear hsat zd
    go_wp2_with fail
    go_ret
    have h6 : DkAt base w4 (laidD E i l) d gs cs r A9 c9 := by unfold laidD; rw [ho]; exact h4
    first | exact ⟨rfl, A9, c9, h6, hk5, HRW.out⟩ | exact ⟨rfl, A9, ⟨c9, h6⟩, hk5, HRW.out⟩
theorem write_new (base : Nat) (w : World) (D : Dk) (d gs cs r : Nat) (Ao : Option Addr) (co : Nat) (i : Int) (b off c : Nat) (l : List UInt8) (h : DkAt base w D d gs cs r Ao co) (hbase : base ≤ w.heap.size) (hm : mayE D i = 0) (ha : D.armed = -1)
    (hl : Sl w 1 (.slice (some ⟨b, off, none⟩) 64 c) (B8 l)) (hlen : D.order.length ≤ 1000) (hl64 : l.length = 64) (hnb : ¬ (b = d ∨ b = r ∨ Value.ownBlock (.slice Ao D.order.length co) = some b)) :
    Calls Try.prog 17 #[.pointer (some ⟨d, 0, none⟩), .int .i64 i, .slice (some ⟨b, off, none⟩) 64 c] w fun e w' => e = .returned (.int .i64 0) ∧ ∃ Ao' co', DkAt base w' (laidD D i l) d gs cs r Ao' co' ∧
      Kept (fun x => x = d ∨ x = r ∨ Value.ownBlock (.slice Ao D.order.length co) = some x) w w' ∧ RowAt w.heap.size Ao Ao' :=
  write_ok base w D D d gs cs r Ao co i b off c l h hbase hm (by unfold stepD; rw [if_neg (by omega), if_neg (by omega)]) hl hlen hl64 hnb
end Go.Proofs.Ytfhlidlmipleaaa
