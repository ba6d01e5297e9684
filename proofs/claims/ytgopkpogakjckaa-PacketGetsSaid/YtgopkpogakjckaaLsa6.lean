/-
  Contracts of package lsa: what one tells, as bytes.
-/
import Derived.Test.YtgopkpogakjckaaLsa2
import Derived.Test.YtgopkpogakjckaaLsa4
import Derived.Test.YtgopkpogakjckaaLsa5
namespace Go.Proofs.Ytgopkpogakjckaa
set_option linter.unusedVariables false
set_option linter.unusedSimpArgs false
open Go.RowKit SM LM

theorem keepg2 {w w' : World} {g b i j : Nat} {x y : Value} (hg : w.grownBy w' (some g)) (hne : b ≠ g) (h : w.cell? ⟨b, i, none⟩ = some x ∧ w.cell? ⟨b, j, none⟩ = some y) : w'.cell? ⟨b, i, none⟩ = some x ∧ w'.cell? ⟨b, j, none⟩ = some y :=
  ⟨hg.cell h.1 (by simpa using hne), hg.cell h.2 (by simpa using hne)⟩

/-- 'put' onto a row that is there, the block by its number -/
theorem put_g (base g n c size : Nat) (l : List UInt8) (z : Int) (w : World) (hown : w.ownsRow base 5 1 (.slice (some ⟨g, 0, none⟩) n c) n (B8 l)) (hn0 : 0 < n) (hb : base ≤ w.heap.size)
    (h0 : 0 ≤ z) (hx : z < 18446744073709551616) (hs : size ≤ 8) (hn : n ≤ 1099511627776) :
    Calls Try.prog 104 #[.slice (some ⟨g, 0, none⟩) n c, .int .u64 z, .int .i64 size] w fun e w' => ∃ g' c', e = .returned (.slice (some ⟨g', 0, none⟩) (n + size) c') ∧
      w'.ownsRow base 5 1 (.slice (some ⟨g', 0, none⟩) (n + size) c') (n + size) (B8 (l ++ be size z.toNat)) ∧ Below base w w' ∧ w.grownBy w' (some g) ∧ (g' = g ∨ w.heap.size ≤ g') ∧ g' < w'.heap.size := by
  refine (put_any base n c size _ l z w hown hb h0 hx hs hn).mono ?_
  rintro e w' ⟨A', c', rfl, h1, h2, h3, h4⟩
  obtain ⟨g', rfl, h5, h6⟩ := own_some h1 (by omega)
  refine ⟨g', c', rfl, h1, h2, h3, ?_, h6⟩
  rcases h4 with h4 | ⟨g2, h4, h8⟩
  · simp [Value.ownBlock] at h4
    exact .inl h4
  · simp [Value.ownBlock] at h4
    exact .inr (by omega)
/-- 'put' onto nothing -/
theorem put_0 (base size : Nat) (z : Int) (w : World) (hs0 : 0 < size) (hb : base ≤ w.heap.size)
    (h0 : 0 ≤ z) (hx : z < 18446744073709551616) (hs : size ≤ 8) :
    Calls Try.prog 104 #[.slice none 0 0, .int .u64 z, .int .i64 size] w fun e w' => ∃ g' c', e = .returned (.slice (some ⟨g', 0, none⟩) size c') ∧
      w'.ownsRow base 5 1 (.slice (some ⟨g', 0, none⟩) size c') size (B8 (be size z.toNat)) ∧ Below base w w' ∧ w.grownBy w' none ∧ w.heap.size ≤ g' ∧ g' < w'.heap.size := by
  refine (put_any base 0 0 size none [] z w (own_nilE _ _ _ _) hb h0 hx hs (by omega)).mono ?_
  rintro e w' ⟨A', c', rfl, h1, h2, h3, h4⟩
  simp only [Nat.zero_add, List.nil_append] at h1 ⊢
  obtain ⟨g', rfl, h5, h6⟩ := own_some h1 (by omega)
  refine ⟨g', c', rfl, h1, h2, h3, ?_, h6⟩
  rcases h4 with h4 | ⟨g2, h4, h8⟩
  · simp [Value.ownBlock] at h4
  · simp [Value.ownBlock] at h4
    omega

/-- a link's bytes; what one tells -/
def linkB (x : Link) : List UInt8 := be 4 x.id ++ be 4 x.data ++ [UInt8.ofNat (x.ty % 256).toNat, 0] ++ be 2 (w64 x.cost).toNat
def tellB (L : Lsa) : List UInt8 :=
  if L.kty = 1 then be 2 0 ++ be 2 L.links.length ++ L.links.flatMap linkB
  else if L.kty = 2 then be 4 L.mask ++ L.routers.flatMap (be 4)
  else be 4 L.mask ++ be 4 (w64 L.cost).toNat
theorem linkB_length (x : Link) : (linkB x).length = 12 := by simp [linkB, be_length]
def linksTo (l : List Link) (k : Nat) : List UInt8 := (l.take k).flatMap linkB
theorem linksTo_succ (l : List Link) (k : Nat) (h : k < l.length) : linksTo l (k + 1) = linksTo l k ++ linkB (linkAt l k) := by
  unfold linksTo linkAt
  have e : l.take (k + 1) = l.take k ++ [l[k]] := List.take_succ_eq_append_getElem h
  rw [e, List.flatMap_append, List.getD_eq_getElem?_getD, List.getElem?_eq_getElem h]
  simp
theorem linksTo_length (l : List Link) (k : Nat) (h : k ≤ l.length) : (linksTo l k).length = k * 12 := by
  induction k with
  | zero => simp [linksTo]
  | succ k ih => rw [linksTo_succ l k (by omega), List.length_append, ih (by omega), linkB_length]; omega

set_option maxRecDepth 100000 in
set_option maxHeartbeats 1600000 in
theorem told1 (L : Lsa) (A1 : Option Addr) (n1 c1 : Nat) (A2 : Option Addr) (n2 c2 : Nat) (w : World) (h1 : Sl w 4 (.slice A1 n1 c1) (LK L.links)) (hk : L.kty = 1) (hn : n1 ≤ 100000) (hwf : ∀ x ∈ L.links, x.wf) :
    Calls Try.prog 102 #[.agg (lsaC L A1 n1 c1 A2 n2 c2)] w fun e w' => ∃ A c n, e = .returned (.slice A n c) ∧
      w'.ownsRow w.heap.size 5 1 (.slice A n c) n (B8 (tellB L)) ∧ Below w.heap.size w w' := by
  obtain ⟨hl1, _, hl3⟩ := h1.lenN
  rw [LK_length] at hl1
  obtain ⟨age, kty, kid, kadv, seq, links, mask, routers, cost⟩ := L
  simp only at h1 hl1 hk hwf
  subst hk
  obtain rfl : n1 = links.length := by omega
  clear hl1
  have HT : Hid (tellB ⟨age, 1, kid, kadv, seq, links, mask, routers, cost⟩ = be 2 0 ++ be 2 links.length ++ linksTo links links.length) := by
    show _ = _
    simp [tellB, linksTo]
  go_enter Try.func102, Try.ntmps102
  go_wp2_with fail
  go_upto_region 5 with fail
  go_cut [3] (fun s wx => ∃ g c, s = .slice (some ⟨g, 0, none⟩) 4 c ∧ g < wx.heap.size ∧ wx.ownsRow (w.heap.size + 1) 5 1 (.slice (some ⟨g, 0, none⟩) 4 c) 4 (B8 (be 2 0 ++ be 2 links.length)) ∧
     Below (w.heap.size + 1) (w.alloc (.cells (lsaC ⟨age, 1, kid, kadv, seq, links, mask, routers, cost⟩ A1 links.length c1 A2 n2 c2) 63)) wx)
  case first =>
    have e1 : IntKind.u64.wrap (links.length : Int) = (links.length : Int) := IntWalk.u64_in _ (by omega)
    go_region_held3 (fun w' => w'.cell? ⟨w.heap.size, 5, none⟩ = some (.slice A1 links.length c1)) (first | go_keep)
      (first
        | (go_at_call_of 104 (Value.slice none 0 0)
           refine (put_0 (w.heap.size + 1) 2 _ _ (by omega) (by simp) (by omega) (by omega) (by omega)).mono ?_
           rintro e w1 ⟨g1, c1_, rfl, hown1, hb1, hg1, hl1, hm1⟩
           have hbk1 : ∀ i, w1.cell? ⟨w.heap.size, i, none⟩ = _ := fun i => hb1.cell (p := ⟨w.heap.size, i, none⟩) (by simp)
           have hsz1 := hb1.size
           try simp at hsz1)
        | (go_at_call 104
           refine (put_g (w.heap.size + 1) g1 2 c1_ 2 _ _ _ (by exact hown1) (by omega) (by omega) (by omega) (by omega) (by omega) (by omega)).mono ?_
           rintro e w2 ⟨g2, c2_, rfl, hown2, hb2, hg2, hl2, hm2⟩
           have hbk2 : ∀ i, w2.cell? ⟨w.heap.size, i, none⟩ = _ := fun i => hb2.cell (p := ⟨w.heap.size, i, none⟩) (by simp)))
    all_goals (go_wp2_with fail; go_meet)
    all_goals go_light
    all_goals exact ⟨g2, c2_, rfl, hm2, hown2, by (repeat (first | with_reducible exact Below.refl _ _ | with_reducible assumption | with_reducible refine Below.drew ?_ | with_reducible refine below_drewN ?_ _ | (with_reducible refine Below.alloc ?_ ?_ _; rotate_left; · (first | (simp; done) | omega | (simp at *; omega))) | (with_reducible refine Below.setCell ?_ ?_ _; rotate_left; · (first | (simp only []; omega) | (simp; done) | (simp; omega))) | with_reducible refine Below.trans ?_ (by with_reducible assumption)))⟩
  case rest =>
    obtain ⟨g2, c2_, rfl, hm2, hown2, hb2⟩ := hcut
    have hbk2 : ∀ i, wc.cell? ⟨w.heap.size, i, none⟩ = _ := fun i => hb2.cell (p := ⟨w.heap.size, i, none⟩) (by simp)
    go_wp2_with fail
    clear hbk2
    have hw0 : Below w.heap.size w (w.alloc (.cells (lsaC ⟨age, 1, kid, kadv, seq, links, mask, routers, cost⟩ A1 links.length c1 A2 n2 c2) 63)) := (Below.refl _ _).alloc (Nat.le_refl _) _
    go_loopw [3, 30] (fun v i wr => ∃ (k g c : Nat), k ≤ links.length ∧ i = .int .i64 k ∧ v = .slice (some ⟨g, 0, none⟩) (4 + 12 * k) c ∧ g < wr.heap.size ∧
        wr.ownsRow (w.heap.size + 1) 5 1 (.slice (some ⟨g, 0, none⟩) (4 + 12 * k) c) (4 + 12 * k) (B8 (be 2 0 ++ be 2 links.length ++ linksTo links k)) ∧
        Below (w.heap.size + 1) (w.alloc (.cells (lsaC ⟨age, 1, kid, kadv, seq, links, mask, routers, cost⟩ A1 links.length c1 A2 n2 c2) 63)) wr) (fun _ i _ => links.length - (intOf i).toNat)
    case atStart => exact ⟨0, g2, c2_, Nat.zero_le _, rfl, rfl, hm2, by simpa [linksTo] using hown2, hb2⟩
    case round =>
      obtain ⟨k, g, c, hk, rfl, rfl, hgl, hownr, hbr⟩ := hrel
      clear hown2 hb2 hm2
      have hsz := hbr.size
      simp at hsz
      by_cases hlt : k < links.length
      · have hr := h1.below (hw0.trans (hbr.mono (by omega)))
        obtain ⟨b, off, rfl, hbl, q0, q1, q2, q3⟩ := hr.link hlt
        have hx : (linkAt links k).wf := by
          unfold linkAt
          rw [List.getD_eq_getElem?_getD, List.getElem?_eq_getElem hlt]
          exact hwf _ (List.getElem_mem hlt)
        obtain ⟨x1, x2, x3, x4⟩ := hx
        have HS := hid (linksTo_succ links k hlt)
        have e1 : IntKind.u64.wrap ((linkAt links k).id : Int) = ((linkAt links k).id : Int) := IntWalk.u64_in _ (by omega)
        have e2 : IntKind.u64.wrap ((linkAt links k).data : Int) = ((linkAt links k).data : Int) := IntWalk.u64_in _ (by omega)
        have e3 : IntKind.u64.wrap (linkAt links k).cost = w64 (linkAt links k).cost := rfl
        have e4 := w64_bd (linkAt links k).cost
        generalize hX : linkAt links k = X at *
        have HX := hid hX
        clear hX
        go_wp2_with fail
        have tok1 : True := trivial
        go_region_held3 (fun w' => w'.cell? ⟨wr.heap.size, 0, none⟩ = some (.int .u32 X.id) ∧ w'.cell? ⟨wr.heap.size, 1, none⟩ = some (.int .u32 X.data)) (first | exact keepg2 (by with_reducible assumption) (by omega) (by with_reducible assumption) | go_keep)
          (first
            | (go_at_call 104
               have _t := tok1
               refine (put_g (w.heap.size + 1) g _ c 4 _ _ _ (by exact own_drew (hownr.alloc _)) (by omega) (by simp; omega) (by omega) (by omega) (by omega) (by omega)).mono ?_
               rintro e w3 ⟨g3, c3, rfl, hown3, hb3, hg3, hl3_, hm3⟩
               have hs3 := hb3.size
               simp at hl3_ hs3
               clear tok1)
            | (go_at_call 104
               refine (put_g (w.heap.size + 1) g3 _ c3 4 _ _ _ (by exact hown3) (by omega) (by omega) (by omega) (by omega) (by omega) (by omega)).mono ?_
               rintro e w4 ⟨g4, c4, rfl, hown4, hb4, hg4, hl4, hm4⟩
               have hs4 := hb4.size))
        have hgx : g ≠ wr.heap.size := by omega
        have hblk0 : (wr.alloc (.cells #[.int .u32 X.id, .int .u32 X.data, .int .i64 X.ty, .int .i64 X.cost] 93)).drew.heap[wr.heap.size]? = some (.cells #[.int .u32 X.id, .int .u32 X.data, .int .i64 X.ty, .int .i64 X.cost] 93 (0, 0)) := heap_alloc_new wr _
        have hblk3 := blk_grown hblk0 hg3 (by simp; omega)
        have hblk4 := blk_grown hblk3 hg4 (by simp; omega)
        have hbr4 : Below (w.heap.size + 1) (w.alloc (.cells (lsaC ⟨age, 1, kid, kadv, seq, links, mask, routers, cost⟩ (some ⟨b, off, none⟩) links.length c1 A2 n2 c2) 63)) w4 := by
          refine (((hbr.alloc (by omega) _).drew).trans hb3).trans hb4
        obtain ⟨hc4, _⟩ := blk_cells hblk4
        have hne4 : g4 ≠ wr.heap.size := by omega
        clear hblk0 hblk3 hb3 hb4 hg3 hg4 hown3 hl3_ hl4 hm3 hbr hownr hr q0 q1 q2 q3
        go_wp2_with fail
        have hty : Hid ((#[.int .u8 (IntKind.u8.wrap X.ty), .int .u8 0] : Array Value) = (B8 [UInt8.ofNat (X.ty % 256).toNat, 0]).toArray) := by
          show _ = _
          simp [B8, IntKind.wrap_u8]; omega
        go_region_held3 (fun w' => w'.cell? ⟨wr.heap.size, 2, none⟩ = some (.int .i64 X.ty) ∧ w'.cell? ⟨wr.heap.size, 3, none⟩ = some (.int .i64 X.cost)) (first | exact keepg2 (by with_reducible assumption) (by omega) (by with_reducible assumption) | go_keep)
          (first
            | (refine step_appg (by rfl) (.tmp 43) (.tmp 47) st_bytes (by rfl) (w.heap.size + 1) (by rfl) (by omega) (by exact own_drew (hown4.alloc _)) (by rfl) (by exact Sl.drew (sl_new _ [UInt8.ofNat (X.ty % 256).toNat, 0] _ _ _ _ (by simp) hty.out rfl (by simp))) (B8_one [UInt8.ofNat (X.ty % 256).toNat, 0]) (by simp [maxLen]; omega) (by omega) (by simp; omega) ?_
               intro g5 c5 w5 hown5 hb5 hg5 hf5 hl5
               rw [← B8_append] at hown5
               have hs5 := hb5.size
               simp at hs5 hf5)
            | (go_at_call 104
               refine (put_g (w.heap.size + 1) g5 _ c5 2 _ _ _ (by exact hown5) (by omega) (by omega) (by omega) (by omega) (by omega) (by omega)).mono ?_
               rintro e w6 ⟨g6, c6, rfl, hown6, hb6, hg6, hl6, hm6⟩
               have hs6 := hb6.size))
        have hbr6 : Below (w.heap.size + 1) (w.alloc (.cells (lsaC ⟨age, 1, kid, kadv, seq, links, mask, routers, cost⟩ (some ⟨b, off, none⟩) links.length c1 A2 n2 c2) 63)) w6 := by (repeat (first | with_reducible exact Below.refl _ _ | with_reducible assumption | with_reducible refine Below.drew ?_ | with_reducible refine below_drewN ?_ _ | (with_reducible refine Below.alloc ?_ ?_ _; rotate_left; · (first | (simp; done) | omega | (simp at *; omega))) | (with_reducible refine Below.setCell ?_ ?_ _; rotate_left; · (first | (simp only []; omega) | (simp; done) | (simp; omega))) | with_reducible refine Below.trans ?_ (by with_reducible assumption)))
        go_wp2_with fail
        go_light
        have hk12 : 4 + 12 * k + 4 + 4 + 2 + 2 = 4 + 12 * (k + 1) := by omega
        rw [hk12] at hown6 ⊢
        refine ⟨⟨k + 1, g6, c6, by omega, by go_num, rfl, hm6, ?_, hbr6⟩, by simp [intOf]; omega⟩
        rw [HS.out]
        simpa [linkB, List.append_assoc] using hown6
      · obtain rfl : k = links.length := by omega
        go_wp2_with fail
        go_ret
        refine ⟨_, c, _, rfl, own_base (base := w.heap.size + 1) ?_ (by omega), hw0.trans (hbr.mono (by omega))⟩
        rw [HT.out]
        exact hownr

theorem U32_get (l : List Nat) (k : Nat) (h : k < l.length) : (U32 l)[k]? = some (.int .u32 (l.getD k 0 : Nat)) := by
  simp [U32, List.getElem?_eq_getElem h, List.getD_eq_getElem?_getD]
def natAt (l : List Nat) (k : Nat) : Nat := l.getD k 0
theorem Sl.u32 {w : World} {A : Option Addr} {n c : Nat} {l : List Nat} (h : Sl w 1 (.slice A n c) (U32 l)) {k : Nat} (hk : k < n) :
    ∃ b off, A = some ⟨b, off, none⟩ ∧ b < w.heap.size ∧ w.cell? ⟨b, off + k, none⟩ = some (.int .u32 (natAt l k : Nat)) := by
  obtain ⟨A', n', c', he, hl, _, _, hr⟩ := h
  injection he with h1 h2 h3
  subst h1; subst h2; subst h3
  obtain ⟨b, off, rfl, hlt, hc⟩ := hr (by omega)
  rw [U32_length, Nat.mul_one] at hl
  exact ⟨b, off, rfl, hlt, (hc k (by omega)).trans (U32_get l k (by omega))⟩
def routersTo (l : List Nat) (k : Nat) : List UInt8 := (l.take k).flatMap (be 4)
theorem routersTo_succ (l : List Nat) (k : Nat) (h : k < l.length) : routersTo l (k + 1) = routersTo l k ++ be 4 (natAt l k) := by
  unfold routersTo natAt
  have e : l.take (k + 1) = l.take k ++ [l[k]] := List.take_succ_eq_append_getElem h
  rw [e, List.flatMap_append, List.getD_eq_getElem?_getD, List.getElem?_eq_getElem h]
  simp

set_option maxRecDepth 100000 in
set_option maxHeartbeats 1600000 in
theorem told2 (L : Lsa) (A1 : Option Addr) (n1 c1 : Nat) (A2 : Option Addr) (n2 c2 : Nat) (w : World) (h1 : Sl w 1 (.slice A2 n2 c2) (U32 L.routers)) (hk : L.kty = 2) (hn : n2 ≤ 100000) (hwf : ∀ x ∈ L.routers, x < 4294967296) (hm : L.mask < 4294967296) :
    Calls Try.prog 102 #[.agg (lsaC L A1 n1 c1 A2 n2 c2)] w fun e w' => ∃ A c n, e = .returned (.slice A n c) ∧
      w'.ownsRow w.heap.size 5 1 (.slice A n c) n (B8 (tellB L)) ∧ Below w.heap.size w w' := by
  obtain ⟨hl1, _, hl3⟩ := h1.lenN
  rw [U32_length] at hl1
  obtain ⟨age, kty, kid, kadv, seq, links, mask, routers, cost⟩ := L
  simp only at h1 hl1 hk hwf hm
  subst hk
  obtain rfl : n2 = routers.length := by omega
  clear hl1
  have HT : Hid (tellB ⟨age, 2, kid, kadv, seq, links, mask, routers, cost⟩ = be 4 mask ++ routersTo routers routers.length) := by
    show _ = _
    simp [tellB, routersTo]
  have e1 : IntKind.u64.wrap (mask : Int) = (mask : Int) := IntWalk.u64_in _ (by omega)
  go_enter Try.func102, Try.ntmps102
  go_wp2_with fail
  refine (put_0 (w.heap.size + 1) 4 _ _ (by omega) (by simp) (by omega) (by omega) (by omega)).mono ?_
  rintro e w1 ⟨g1, c1_, rfl, hown1, hb1, hg1, hl1, hm1⟩
  have hbk1 : ∀ i, w1.cell? ⟨w.heap.size, i, none⟩ = _ := fun i => hb1.cell (p := ⟨w.heap.size, i, none⟩) (by simp)
  go_wp2_with fail
  clear hbk1
  have hw0 : Below w.heap.size w (w.alloc (.cells (lsaC ⟨age, 2, kid, kadv, seq, links, mask, routers, cost⟩ A1 n1 c1 A2 routers.length c2) 63)) := (Below.refl _ _).alloc (Nat.le_refl _) _
  go_loopw [3, 63] (fun v i wr => ∃ (k g c : Nat), k ≤ routers.length ∧ i = .int .i64 k ∧ v = .slice (some ⟨g, 0, none⟩) (4 + 4 * k) c ∧ g < wr.heap.size ∧
      wr.ownsRow (w.heap.size + 1) 5 1 (.slice (some ⟨g, 0, none⟩) (4 + 4 * k) c) (4 + 4 * k) (B8 (be 4 mask ++ routersTo routers k)) ∧
      Below (w.heap.size + 1) (w.alloc (.cells (lsaC ⟨age, 2, kid, kadv, seq, links, mask, routers, cost⟩ A1 n1 c1 A2 routers.length c2) 63)) wr) (fun _ i _ => routers.length - (intOf i).toNat)
  case atStart => exact ⟨0, g1, c1_, Nat.zero_le _, rfl, rfl, hm1, by simpa [routersTo] using hown1, hb1⟩
  case round =>
    obtain ⟨k, g, c, hk, rfl, rfl, hgl, hownr, hbr⟩ := hrel
    have hsz := hbr.size
    simp at hsz
    by_cases hlt : k < routers.length
    · have hr := h1.below (hw0.trans (hbr.mono (by omega)))
      obtain ⟨b, off, rfl, hbl, q0⟩ := hr.u32 hlt
      have hx : natAt routers k < 4294967296 := by
        unfold natAt
        rw [List.getD_eq_getElem?_getD, List.getElem?_eq_getElem hlt]
        exact hwf _ (List.getElem_mem hlt)
      have HS := hid (routersTo_succ routers k hlt)
      have e2 : IntKind.u64.wrap (natAt routers k : Int) = (natAt routers k : Int) := IntWalk.u64_in _ (by omega)
      go_wp2_with fail
      refine (put_g (w.heap.size + 1) g _ c 4 _ _ _ (by exact hownr) (by omega) (by omega) (by omega) (by omega) (by omega) (by omega)).mono ?_
      rintro e w3 ⟨g3, c3, rfl, hown3, hb3, hg3, hl3_, hm3⟩
      have hbr3 := hbr.trans hb3
      go_wp2_with fail
      go_light
      have hk12 : 4 + 4 * k + 4 = 4 + 4 * (k + 1) := by omega
      rw [hk12] at hown3 ⊢
      refine ⟨⟨k + 1, g3, c3, by omega, by go_num, rfl, hm3, ?_, hbr3⟩, by simp [intOf]; omega⟩
      rw [HS.out]
      simpa [List.append_assoc] using hown3
    · obtain rfl : k = routers.length := by omega
      go_wp2_with fail
      go_ret
      refine ⟨_, c, _, rfl, own_base (base := w.heap.size + 1) ?_ (by omega), hw0.trans (hbr.mono (by omega))⟩
      rw [HT.out]
      exact hownr

set_option maxRecDepth 100000 in
set_option maxHeartbeats 1600000 in
theorem told3 (L : Lsa) (A1 : Option Addr) (n1 c1 : Nat) (A2 : Option Addr) (n2 c2 : Nat) (w : World) (hk : L.kty ≠ 1) (hk2 : L.kty ≠ 2) (hm : L.mask < 4294967296) :
    Calls Try.prog 102 #[.agg (lsaC L A1 n1 c1 A2 n2 c2)] w fun e w' => ∃ A c n, e = .returned (.slice A n c) ∧
      w'.ownsRow w.heap.size 5 1 (.slice A n c) n (B8 (tellB L)) ∧ Below w.heap.size w w' := by
  obtain ⟨age, kty, kid, kadv, seq, links, mask, routers, cost⟩ := L
  simp only at hk hk2 hm
  have HT : Hid (tellB ⟨age, kty, kid, kadv, seq, links, mask, routers, cost⟩ = be 4 mask ++ be 4 (w64 cost).toNat) := by
    show _ = _
    simp [tellB, hk, hk2]
  have e1 : IntKind.u64.wrap (mask : Int) = (mask : Int) := IntWalk.u64_in _ (by omega)
  have e2 : IntKind.u64.wrap cost = w64 cost := rfl
  have e3 := w64_bd cost
  go_enter Try.func102, Try.ntmps102
  go_wp2_with fail
  go_upto_region 3 with fail
  have tok1 : True := trivial
  go_region_held3 (fun w' => w'.cell? ⟨w.heap.size, 6, none⟩ = some (.int .u32 mask) ∧ w'.cell? ⟨w.heap.size, 8, none⟩ = some (.int .i64 cost)) (first | exact keepc2 (by with_reducible assumption) (by omega) (by with_reducible assumption) | go_keep)
    (first
      | (go_at_call 104
         have _t := tok1
         refine (put_0 (w.heap.size + 1) 4 _ _ (by omega) (by simp) (by omega) (by omega) (by omega)).mono ?_
         rintro e w1 ⟨g1, c1_, rfl, hown1, hb1, hg1, hl1, hm1⟩
         have hs1 := hb1.size
         simp at hs1
         clear tok1)
      | (go_at_call 104
         refine (put_g (w.heap.size + 1) g1 4 c1_ 4 _ _ _ (by exact hown1) (by omega) (by omega) (by omega) (by omega) (by omega) (by omega)).mono ?_
         rintro e w2 ⟨g2, c2_, rfl, hown2, hb2, hg2, hl2, hm2⟩))
  have hbr : Below (w.heap.size + 1) (w.alloc (.cells (lsaC ⟨age, kty, kid, kadv, seq, links, mask, routers, cost⟩ A1 n1 c1 A2 n2 c2) 63)) w2 := by (repeat (first | with_reducible exact Below.refl _ _ | with_reducible assumption | with_reducible refine Below.drew ?_ | with_reducible refine below_drewN ?_ _ | (with_reducible refine Below.alloc ?_ ?_ _; rotate_left; · (first | (simp; done) | omega | (simp at *; omega))) | (with_reducible refine Below.setCell ?_ ?_ _; rotate_left; · (first | (simp only []; omega) | (simp; done) | (simp; omega))) | with_reducible refine Below.trans ?_ (by with_reducible assumption)))
  go_wp2_with fail
  go_light
  go_ret
  refine ⟨_, c2_, _, rfl, own_base (base := w.heap.size + 1) ?_ (by omega), ((Below.refl _ _).alloc (Nat.le_refl _) _).trans (hbr.mono (by omega))⟩
  rw [HT.out]
  exact hown2
end Go.Proofs.Ytgopkpogakjckaa
