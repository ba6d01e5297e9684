/-
  Plain law of layer 11: a packet's bytes tell it again, by its own key and by no other one.
-/
import Derived.Test.YtgopkpogakjckaaPkM
namespace Go.Proofs.Ytgopkpogakjckaa.PK
set_option linter.unusedVariables false
set_option linter.unusedSimpArgs false
open Go.RowKit SM LM

theorem takeR_off (y : List UInt8) (off size : Nat) (h : off + size ≤ y.length) : takeR (y.drop off) size = y.drop (off + size) := takeR_fld y off size h
theorem helloP_long (y : List UInt8) (P : Pkt) (h : 20 ≤ y.length) : helloP y P =
    { P with mask := fld y 0 4, intv := (fld y 4 2 : Nat), dead := (fld y 8 4 : Nat), prio := (fld y 7 1 : Nat), dr := fld y 12 4, bdr := fld y 16 4, nbs := routersOf (y.drop 20) } := by
  have t4 : takeR y 4 = y.drop 4 := by have := takeR_off y 0 4 (by omega); simpa using this
  have t6 : takeR (takeR y 4) 2 = y.drop 6 := by rw [t4, takeR_off y 4 2 (by omega)]
  have t7 : takeR (takeR (takeR y 4) 2) 1 = y.drop 7 := by rw [t6, takeR_off y 6 1 (by omega)]
  have t8 : takeR (takeR (takeR (takeR y 4) 2) 1) 1 = y.drop 8 := by rw [t7, takeR_off y 7 1 (by omega)]
  have t12 : takeR (takeR (takeR (takeR (takeR y 4) 2) 1) 1) 4 = y.drop 12 := by rw [t8, takeR_off y 8 4 (by omega)]
  have t16 : takeR (takeR (takeR (takeR (takeR (takeR y 4) 2) 1) 1) 4) 4 = y.drop 16 := by rw [t12, takeR_off y 12 4 (by omega)]
  have t20 : takeR (takeR (takeR (takeR (takeR (takeR (takeR y 4) 2) 1) 1) 4) 4) 4 = y.drop 20 := by rw [t16, takeR_off y 16 4 (by omega)]
  have v0 : takeV y 4 = fld y 0 4 := by have := takeV_fld y 0 4 (by omega); simpa using this
  unfold helloP
  rw [t20, t16, t12, t8, t7, t4, v0, takeV_fld y 4 2 (by omega), takeV_fld y 7 1 (by omega), takeV_fld y 8 4 (by omega), takeV_fld y 12 4 (by omega), takeV_fld y 16 4 (by omega)]
theorem dataP_long (y : List UInt8) (P : Pkt) (h : 8 ≤ y.length) : dataP y P = { P with flags := (fld y 3 1 : Nat), seq := fld y 4 4, heads := headsOf (y.drop 8) } := by
  have t3 : takeR y 3 = y.drop 3 := by have := takeR_off y 0 3 (by omega); simpa using this
  have t4 : takeR (takeR y 3) 1 = y.drop 4 := by rw [t3, takeR_off y 3 1 (by omega)]
  have t8 : takeR (takeR (takeR y 3) 1) 4 = y.drop 8 := by rw [t4, takeR_off y 4 4 (by omega)]
  unfold dataP
  rw [t8, t4, t3, takeV_fld y 3 1 (by omega), takeV_fld y 4 4 (by omega)]
theorem u8_toNat (z : Int) : (u8 z).toNat = (z % 256).toNat := by
  unfold u8
  simp
  omega
theorem be_nv (k x : Nat) (r : List UInt8) : nv (be k x ++ r) k = x % 256 ^ k := by
  rw [nv_be_to k x r k (Nat.le_refl _)]; simp
theorem drop_step (l a r : List UInt8) (n k : Nat) (h : l.drop n = a ++ r) (ha : a.length = k) : l.drop (n + k) = r := by
  rw [← List.drop_drop, h, List.drop_left' ha]
theorem greet_back (P : Pkt) (r : List UInt8) :
    let y := greetB P ++ r
    fld y 0 4 = P.mask % 4294967296 ∧ fld y 4 2 = (w64 P.intv).toNat % 65536 ∧ fld y 7 1 = (P.prio % 256).toNat ∧ fld y 8 4 = (w64 P.dead).toNat % 4294967296 ∧
    fld y 12 4 = P.dr % 4294967296 ∧ fld y 16 4 = P.bdr % 4294967296 ∧ y.drop 20 = P.nbs.flatMap (be 4) ++ r ∧ 20 ≤ y.length := by
  intro y
  have d0 : y.drop 0 = be 4 P.mask ++ (be 2 (w64 P.intv).toNat ++ ([2] ++ ([u8 P.prio] ++ (be 4 (w64 P.dead).toNat ++ (be 4 P.dr ++ (be 4 P.bdr ++ (P.nbs.flatMap (be 4) ++ r))))))) := by
    simp [y, greetB, List.append_assoc]
  have d4 := drop_step _ _ _ _ _ d0 (be_length 4 _)
  have d6 := drop_step _ _ _ _ _ d4 (be_length 2 _)
  have d7 := drop_step _ _ _ _ 1 d6 rfl
  have d8 := drop_step _ _ _ _ 1 d7 rfl
  have d12 := drop_step _ _ _ _ _ d8 (be_length 4 _)
  have d16 := drop_step _ _ _ _ _ d12 (be_length 4 _)
  have d20 := drop_step _ _ _ _ _ d16 (be_length 4 _)
  simp only [Nat.reduceAdd] at d4 d6 d7 d8 d12 d16 d20
  refine ⟨?_, ?_, ?_, ?_, ?_, ?_, d20, ?_⟩
  · unfold fld; rw [d0, be_nv]
  · unfold fld; rw [d4, be_nv]
  · unfold fld; rw [d7, nv1]; exact u8_toNat _
  · unfold fld; rw [d8, be_nv]
  · unfold fld; rw [d12, be_nv]
  · unfold fld; rw [d16, be_nv]
  · simp [y, greetB, be_length]; omega
theorem data_back (f : Int) (s : Nat) (r : List UInt8) :
    let y := [5, 220, 2, u8 f] ++ be 4 s ++ r
    fld y 3 1 = (f % 256).toNat ∧ fld y 4 4 = s % 4294967296 ∧ y.drop 8 = r ∧ 8 ≤ y.length := by
  intro y
  have d0 : y.drop 0 = [5, 220, 2] ++ ([u8 f] ++ (be 4 s ++ r)) := by simp [y, List.append_assoc]
  have d3 := drop_step _ _ _ _ 3 d0 rfl
  have d4 := drop_step _ _ _ _ 1 d3 rfl
  have d8 := drop_step _ _ _ _ _ d4 (be_length 4 _)
  simp only [Nat.reduceAdd] at d3 d4 d8
  refine ⟨?_, ?_, d8, ?_⟩
  · unfold fld; rw [d3, nv1]; exact u8_toNat _
  · unfold fld; rw [d4, be_nv]
  · simp [y, be_length]

/-- what a right one is, by its type -/
structure RightS (P : Pkt) : Prop where
  ty : 1 ≤ P.ty ∧ P.ty ≤ 5
  auth : P.auth.size ≤ 8
  zero : noZero P.auth = true
  lens : P.heads.length ≤ 20 ∧ P.keys.length ≤ 20 ∧ P.lsas.length ≤ 20
  keys : P.keys.all Ky.ok = true
  flags : 0 ≤ P.flags ∧ P.flags ≤ 7
  heads : P.heads.all Hdr.ok = true
  lsas : P.lsas.all Lsa.right = true
  p1 : P.ty ≠ 1 → P.mask = 0 ∧ P.intv = 0 ∧ P.dead = 0 ∧ P.prio = 0 ∧ P.dr = 0 ∧ P.bdr = 0 ∧ P.nbs = []
  p2 : P.ty ≠ 2 → P.flags = 0 ∧ P.seq = 0
  p3 : P.ty ≠ 2 → P.ty ≠ 5 → P.heads = []
  p4 : P.ty ≠ 3 → P.keys = []
  p5 : P.ty ≠ 4 → P.lsas = []
  g : P.ty = 1 → (1 ≤ P.intv ∧ P.intv ≤ 65535) ∧ (1 ≤ P.dead ∧ P.dead ≤ 65535) ∧ (0 ≤ P.prio ∧ P.prio ≤ 255) ∧ P.nbs.length ≤ 20
theorem rightR_spec (P : Pkt) (h : rightR P = true) : RightS P := by
  unfold rightR rightP plainP noHello greetsP at h
  simp only [Bool.and_eq_true, Bool.or_eq_true, decide_eq_true_eq, beq_iff_eq, bne_iff_ne, ne_eq, List.length_eq_zero_iff] at h
  obtain ⟨⟨⟨⟨⟨⟨⟨⟨⟨⟨⟨h1, h2⟩, h3⟩, ⟨⟨⟨q1, q2⟩, q3⟩, q4⟩, q5⟩, h5⟩, h6⟩, h7⟩, h8⟩, h9⟩, h10⟩, h11⟩, h12⟩ := h
  refine ⟨h1, h2, h3, ⟨h6, h7, h8⟩, h9, h10, h11, h12, ?_, ?_, ?_, ?_, ?_, ?_⟩
  · intro hn
    rcases q1 with q | q
    · exact absurd q hn
    · obtain ⟨⟨⟨⟨⟨⟨a, b⟩, c⟩, d⟩, e⟩, f⟩, g⟩ := q
      exact ⟨a, b, c, d, e, f, g⟩
  · intro hn
    rcases q2 with q | q
    · exact absurd q hn
    · exact q
  · intro hn hm
    rcases q3 with (q | q) | q
    · exact absurd q hn
    · exact absurd q hm
    · exact q
  · intro hn
    rcases q4 with q | q
    · exact absurd q hn
    · exact q
  · intro hn
    rcases q5 with q | q
    · exact absurd q hn
    · exact q
  · intro hn
    rcases h5 with q | q
    · exact absurd hn q
    · obtain ⟨⟨⟨a, b⟩, c⟩, d⟩ := q
      exact ⟨a, b, c, d⟩

theorem toNat_w64 (z : Int) (h : 0 ≤ z ∧ z < 4294967296) : ((w64 z).toNat : Int) = z := by
  have : w64 z = z := IntWalk.u64_in _ (by omega)
  rw [this]
  omega
theorem tells_back (P : Pkt) (hw : WfP P) (hr : RightS P) :
    tellsE (bodyB P) ⟨P.ty, P.router, P.area, P.auth, 0, 0, 0, 0, 0, 0, [], 0, 0, [], [], []⟩ = 0 ∧ tellsP (bodyB P) ⟨P.ty, P.router, P.area, P.auth, 0, 0, 0, 0, 0, 0, [], 0, 0, [], [], []⟩ = P := by
  obtain ⟨ty, router, area, auth, mask, intv, dead, prio, dr, bdr, nbs, flags, seq, heads, keys, lsas⟩ := P
  obtain ⟨r1, r2, r3, r4, r5, r6, r7, r8, p1, p2, p3, p4, p5, g⟩ := hr
  obtain ⟨w1, w2, w3, w4, w5, w6, w7, w8, w9, w10, w11, w12, w13, w14, w15⟩ := hw
  simp only at *
  by_cases t1 : ty = 1
  · subst t1
    obtain ⟨rfl, rfl⟩ := p2 (by omega)
    obtain rfl := p3 (by omega) (by omega)
    obtain rfl := p4 (by omega)
    obtain rfl := p5 (by omega)
    obtain ⟨g1, g2, g3, g4⟩ := g rfl
    refine ⟨by simp [tellsE], ?_⟩
    have hb := greet_back ⟨1, router, area, auth, mask, intv, dead, prio, dr, bdr, nbs, 0, 0, [], [], []⟩ []
    have e : bodyB ⟨1, router, area, auth, mask, intv, dead, prio, dr, bdr, nbs, 0, 0, [], [], []⟩ = greetB ⟨1, router, area, auth, mask, intv, dead, prio, dr, bdr, nbs, 0, 0, [], [], []⟩ ++ [] := by simp [bodyB, mainB]
    rw [e]
    obtain ⟨b1, b2, b3, b4, b5, b6, b7, b8⟩ := hb
    unfold tellsP
    rw [if_pos rfl, helloP_long _ _ b8, b1, b2, b3, b4, b5, b6, b7, List.append_nil, routers_back _ w10]
    have e1 := toNat_w64 intv (by omega)
    have e2 := toNat_w64 dead (by omega)
    have q1 : mask % 4294967296 = mask := Nat.mod_eq_of_lt w4
    have q2 : (((w64 intv).toNat % 65536 : Nat) : Int) = intv := by omega
    have q3 : (((w64 dead).toNat % 4294967296 : Nat) : Int) = dead := by omega
    have q4 : (((prio % 256).toNat : Nat) : Int) = prio := by omega
    have q5 : dr % 4294967296 = dr := Nat.mod_eq_of_lt w8
    have q6 : bdr % 4294967296 = bdr := Nat.mod_eq_of_lt w9
    rw [q1, q2, q3, q4, q5, q6]
  · obtain ⟨rfl, rfl, rfl, rfl, rfl, rfl, rfl⟩ := p1 t1
    by_cases t2 : ty = 2
    · subst t2
      obtain rfl := p4 (by omega)
      obtain rfl := p5 (by omega)
      refine ⟨by simp [tellsE], ?_⟩
      have e : bodyB ⟨2, router, area, auth, 0, 0, 0, 0, 0, 0, [], flags, seq, heads, [], []⟩ = [5, 220, 2, u8 flags] ++ be 4 seq ++ heads.flatMap Hdr.bytes := by simp [bodyB, mainB]
      rw [e]
      obtain ⟨b1, b2, b3, b4⟩ := data_back flags seq (heads.flatMap Hdr.bytes)
      unfold tellsP
      rw [if_neg (by simp), if_pos rfl, dataP_long _ _ b4, b1, b2, b3, heads_back _ w13 r7]
      congr 1 <;> omega
    · obtain ⟨rfl, rfl⟩ := p2 t2
      by_cases t3 : ty = 3
      · subst t3
        obtain rfl := p3 (by omega) (by omega)
        obtain rfl := p5 (by omega)
        refine ⟨by simp [tellsE], ?_⟩
        have e : bodyB ⟨3, router, area, auth, 0, 0, 0, 0, 0, 0, [], 0, 0, [], keys, []⟩ = keys.flatMap Ky.bytes := by simp [bodyB, mainB]
        rw [e]
        unfold tellsP
        rw [if_neg (by simp), if_neg (by simp), if_pos rfl, keys_back _ w14 r5]
      · obtain rfl := p4 t3
        by_cases t4 : ty = 4
        · subst t4
          obtain rfl := p3 (by omega) (by omega)
          have e : bodyB ⟨4, router, area, auth, 0, 0, 0, 0, 0, 0, [], 0, 0, [], [], lsas⟩ = be 4 lsas.length ++ (lsas.flatMap putB ++ []) := by simp [bodyB, mainB]
          have en : nv (be 4 lsas.length ++ (lsas.flatMap putB ++ [])) 4 = lsas.length := nv_be 4 _ _ (by simp; omega)
          have ed : (be 4 lsas.length ++ (lsas.flatMap putB ++ [])).drop 4 = lsas.flatMap putB ++ [] := List.drop_left' (be_length 4 _)
          rw [e]
          constructor
          · unfold tellsE lsasE
            rw [if_pos rfl, if_neg (by rw [en, List.length_append, be_length]; omega), en, ed, lsas_back _ w15 r8]
          · unfold tellsP
            rw [if_neg (by simp), if_neg (by simp), if_neg (by simp), if_pos rfl, en, ed, lsas_back _ w15 r8]
        · obtain rfl := p5 t4
          obtain rfl : ty = 5 := by omega
          refine ⟨by simp [tellsE], ?_⟩
          have e : bodyB ⟨5, router, area, auth, 0, 0, 0, 0, 0, 0, [], 0, 0, heads, [], []⟩ = heads.flatMap Hdr.bytes := by simp [bodyB, mainB]
          rw [e]
          unfold tellsP
          rw [if_neg (by simp), if_neg (by simp), if_neg (by simp), if_neg (by simp), if_pos rfl, heads_back _ w13 r7]

theorem flatMap_le {α : Type} (l : List α) (f : α → List UInt8) (m : Nat) (h : ∀ x ∈ l, (f x).length ≤ m) : (l.flatMap f).length ≤ l.length * m := by
  induction l with
  | nil => simp
  | cons x l ih =>
    have h1 := h x (by simp)
    have h2 := ih (fun y hy => h y (by simp [hy]))
    rw [List.flatMap_cons, List.length_append, List.length_cons, Nat.add_mul]
    omega
theorem greetB_length (P : Pkt) : (greetB P).length = 20 + P.nbs.length * 4 := by
  simp [greetB, be_length, flatMap_length_const P.nbs (be 4) 4 (fun x => be_length 4 x)]
  omega
theorem bodyB_length (P : Pkt) (hr : RightS P) : (bodyB P).length ≤ 20000 := by
  have hh := flatMap_length_const P.heads Hdr.bytes 20 (fun x => hdrB_length _ _ _ _ _ _ _)
  have hk := flatMap_length_const P.keys Ky.bytes 12 (fun x => by simp [Ky.bytes, be_length])
  have hl := flatMap_le P.lsas putB 504 (fun x hx => by
    have h1 := tellB_length x (by have := hr.lsas; rw [List.all_eq_true] at this; exact this x hx)
    have h2 := putB_length x
    omega)
  obtain ⟨l1, l2, l3⟩ := hr.lens
  have hg := greetB_length P
  unfold bodyB mainB
  rw [List.length_append, hh]
  split
  · rename_i h
    have := (hr.g h).2.2.2
    omega
  · split
    · simp [be_length]; omega
    · split
      · omega
      · split
        · rw [List.length_append, be_length]; omega
        · simp; omega

theorem key8_length (s : ByteArray) : (key8 s).length = 8 := by unfold key8; simp
theorem frontB_length (P : Pkt) (n : Nat) : (frontB P n).length = 16 := by simp [frontB, be_length]
theorem rawP_length (P : Pkt) : (rawP P).length = 24 + (bodyB P).length := by unfold rawP; rw [List.length_append, List.length_append, frontB_length, key8_length]
theorem fixP_length (l : List UInt8) : (fixP l).length = l.length := by unfold fixP; rw [List.length_set, List.length_set]
theorem putP_length (P : Pkt) : (putP P).length = 24 + (bodyB P).length := by unfold putP; rw [fixP_length, rawP_length]
theorem sumL_fix (l : List UInt8) (h : 24 ≤ l.length) : sumL (fixP l) = sumL l := by
  unfold sumL fixP
  rw [List.take_set, List.take_set, List.drop_set, List.drop_set]
  simp only [show 13 < 24 from by omega, show 12 < 24 from by omega, if_true]
  have hl : (l.take 16).length = 16 := by simp; omega
  generalize hX : l.take 16 = X at *
  generalize l.drop 24 = Y
  generalize UInt8.ofNat (sumP l / 256) = x
  generalize UInt8.ofNat (sumP l % 256) = y
  have e1 : ((X.set 12 x).set 13 y ++ Y) = ((X ++ Y).set 12 x).set 13 y := by
    rw [List.set_append_left _ _ (by omega), List.set_append_left _ _ (by rw [List.length_set]; omega)]
  rw [e1]
  generalize X ++ Y = Z
  refine List.ext_getElem? fun i => ?_
  simp only [List.getElem?_set, List.length_set]
  by_cases h1 : 13 = i
  · simp [h1]
  · by_cases h2 : 12 = i
    · simp [h1, h2]
    · simp [h1, h2]
theorem fix_byte (l : List UInt8) (h : 24 ≤ l.length) (i : Nat) : byt (fixP l) i = if i = 13 then sumP l % 256 else if i = 12 then sumP l / 256 else byt l i := by
  have hs := inet_le (sumL l)
  unfold fixP
  rw [byt_set _ _ _ _ (by rw [List.length_set]; omega), byt_set _ _ _ _ (by omega)]
  have e1 : (UInt8.ofNat (sumP l % 256)).toNat = sumP l % 256 := by simp
  have e2 : (UInt8.ofNat (sumP l / 256)).toNat = sumP l / 256 := by simp [sumP] at *; omega
  rw [e1, e2]
theorem fix_12 (l : List UInt8) (h : 24 ≤ l.length) : fld (fixP l) 12 2 = sumP l := by
  have hs := inet_le (sumL l)
  have e : fld (fixP l) 12 2 = byt (fixP l) 12 * 256 + byt (fixP l) 13 := by
    unfold fld
    simp [nv, byt_drop]
  rw [e, fix_byte l h, fix_byte l h]
  simp
  unfold sumP
  omega
theorem fix_fld (l : List UInt8) (h : 24 ≤ l.length) (o k : Nat) (hk : o + k ≤ 12 ∨ 14 ≤ o) : fld (fixP l) o k = fld l o k := by
  refine fld_congr _ _ _ _ fun j h1 h2 => ?_
  rw [fix_byte l h, if_neg (by omega), if_neg (by omega)]
theorem fix_drop (l : List UInt8) (n : Nat) (hn : 14 ≤ n) : (fixP l).drop n = l.drop n := by
  unfold fixP
  rw [List.drop_set, List.drop_set, if_pos (by omega), if_pos (by omega)]
/-- the fields ahead -/
theorem raw_flds (P : Pkt) :
    byt (rawP P) 0 = 2 ∧ byt (rawP P) 1 = (P.ty % 256).toNat ∧ fld (rawP P) 2 2 = (24 + (bodyB P).length) % 65536 ∧ fld (rawP P) 4 4 = P.router % 4294967296 ∧ fld (rawP P) 8 4 = P.area % 4294967296 ∧
    fld (rawP P) 14 2 = kindP P.auth ∧ ((rawP P).drop 16).take 8 = key8 P.auth ∧ (rawP P).drop 24 = bodyB P := by
  have hk : kindP P.auth ≤ 1 := by unfold kindP; split <;> omega
  have d0 : (rawP P).drop 0 = [2] ++ ([u8 P.ty] ++ (be 2 (24 + (bodyB P).length) ++ (be 4 P.router ++ (be 4 P.area ++ (be 2 0 ++ (be 2 (kindP P.auth) ++ (key8 P.auth ++ bodyB P))))))) := by
    simp [rawP, frontB, List.append_assoc]
  have d1 := drop_step _ _ _ _ 1 d0 rfl
  have d2 := drop_step _ _ _ _ 1 d1 rfl
  have d4 := drop_step _ _ _ _ _ d2 (be_length 2 _)
  have d8 := drop_step _ _ _ _ _ d4 (be_length 4 _)
  have d12 := drop_step _ _ _ _ _ d8 (be_length 4 _)
  have d14 := drop_step _ _ _ _ _ d12 (be_length 2 _)
  have d16 := drop_step _ _ _ _ _ d14 (be_length 2 _)
  have d24 := drop_step _ _ _ _ _ d16 (key8_length _)
  simp only [Nat.reduceAdd] at d1 d2 d4 d8 d12 d14 d16 d24
  refine ⟨?_, ?_, ?_, ?_, ?_, ?_, ?_, d24⟩
  · rw [List.drop_zero] at d0; rw [d0]; rfl
  · have : byt ((rawP P).drop 1) 0 = (P.ty % 256).toNat := by rw [d1]; exact u8_toNat _
    rw [byt_drop] at this
    exact this
  · unfold fld; rw [d2, be_nv]
  · unfold fld; rw [d4, be_nv]
  · unfold fld; rw [d8, be_nv]
  · unfold fld; rw [d14, be_nv]; omega
  · rw [d16]; exact List.take_left' (key8_length _)

theorem framed_own (P : Pkt) (hr : RightS P) (s : ByteArray) : framedE (putP P) s = if kindP P.auth ≠ kindP s ∨ key8 P.auth ≠ key8 s ∨ 8 < s.size then 9 else 0 := by
  have hb := bodyB_length P hr
  have hl := putP_length P
  have hl24 : 24 ≤ (rawP P).length := by rw [rawP_length]; omega
  obtain ⟨f0, f1, f2, f3, f4, f5, f6, f7⟩ := raw_flds P
  unfold framedE
  rw [if_neg (by omega)]
  have e0 : byt (putP P) 0 = 2 := by unfold putP; rw [fix_byte _ hl24, if_neg (by omega), if_neg (by omega), f0]
  have e2 : fld (putP P) 2 2 = (putP P).length := by rw [hl]; unfold putP; rw [fix_fld _ hl24 _ _ (by omega), f2]; omega
  rw [if_neg (by rw [e0, e2]; simp)]
  have e12 : fld (putP P) 12 2 = sumP (putP P) := by
    unfold putP
    rw [fix_12 _ hl24]
    unfold sumP
    rw [sumL_fix _ hl24]
  rw [if_neg (by rw [e12]; simp)]
  have e14 : fld (putP P) 14 2 = kindP P.auth := by unfold putP; rw [fix_fld _ hl24 _ _ (by omega), f5]
  have e16 : ((putP P).drop 16).take 8 = key8 P.auth := by unfold putP; rw [fix_drop _ _ (by omega), f6]
  rw [e14, e16]
theorem front_own (P : Pkt) (hw : WfP P) (hr : RightS P) (s : ByteArray) : frontP (putP P) s = ⟨P.ty, P.router, P.area, s, 0, 0, 0, 0, 0, 0, [], 0, 0, [], [], []⟩ := by
  have hl24 : 24 ≤ (rawP P).length := by rw [rawP_length]; omega
  obtain ⟨f0, f1, f2, f3, f4, f5, f6, f7⟩ := raw_flds P
  have e1 : byt (putP P) 1 = (P.ty % 256).toNat := by unfold putP; rw [fix_byte _ hl24, if_neg (by omega), if_neg (by omega), f1]
  have e4 : fld (putP P) 4 4 = P.router := by unfold putP; rw [fix_fld _ hl24 _ _ (by omega), f3]; have := hw.router; omega
  have e8 : fld (putP P) 8 4 = P.area := by unfold putP; rw [fix_fld _ hl24 _ _ (by omega), f4]; have := hw.area; omega
  unfold frontP
  rw [e1, e4, e8]
  have := hr.ty
  congr 1
  omega
theorem drop_own (P : Pkt) : (putP P).drop 24 = bodyB P := by
  unfold putP
  rw [fix_drop _ _ (by omega)]
  exact (raw_flds P).2.2.2.2.2.2.2
theorem tells1 {y : List UInt8} {P : Pkt} (h : P.ty = 1) : tellsP y P = helloP y P := if_pos h
theorem tells2 {y : List UInt8} {P : Pkt} (h : P.ty = 2) : tellsP y P = dataP y P := (if_neg (by omega)).trans (if_pos h)
theorem tells3 {y : List UInt8} {P : Pkt} (h : P.ty = 3) : tellsP y P = { P with keys := keysOf y } := (if_neg (by omega)).trans ((if_neg (by omega)).trans (if_pos h))
theorem tells4 {y : List UInt8} {P : Pkt} (h : P.ty = 4) : tellsP y P = { P with lsas := (lsasOf (nv y 4) (y.drop 4)).2 } := (if_neg (by omega)).trans ((if_neg (by omega)).trans ((if_neg (by omega)).trans (if_pos h)))
theorem tells5 {y : List UInt8} {P : Pkt} (h : P.ty = 5) : tellsP y P = { P with heads := headsOf y } := (if_neg (by omega)).trans ((if_neg (by omega)).trans ((if_neg (by omega)).trans ((if_neg (by omega)).trans (if_pos h))))
theorem tells0 {y : List UInt8} {P : Pkt} (h : P.ty < 1 ∨ 5 < P.ty) : tellsP y P = P := (if_neg (by omega)).trans ((if_neg (by omega)).trans ((if_neg (by omega)).trans ((if_neg (by omega)).trans (if_neg (by omega)))))
def withS (P : Pkt) (s : ByteArray) : Pkt := { P with auth := s }
theorem withS_ty (P : Pkt) (s : ByteArray) : (withS P s).ty = P.ty := rfl
theorem withS_own (P : Pkt) : withS P P.auth = P := rfl
theorem tells_auth (y : List UInt8) (P : Pkt) (s : ByteArray) : tellsP y (withS P s) = withS (tellsP y P) s := by
  have ht := withS_ty P s
  by_cases h1 : P.ty = 1
  · have e := tells1 (y := y) (P := withS P s) (by rw [ht]; exact h1)
    have f := tells1 (y := y) (P := P) h1
    rw [e, f]
    simp only [helloP, withS]
  · by_cases h2 : P.ty = 2
    · have e := tells2 (y := y) (P := withS P s) (by rw [ht]; exact h2)
      have f := tells2 (y := y) (P := P) h2
      rw [e, f]
      simp only [dataP, withS]
    · by_cases h3 : P.ty = 3
      · have e := tells3 (y := y) (P := withS P s) (by rw [ht]; exact h3)
        have f := tells3 (y := y) (P := P) h3
        rw [e, f]
        simp only [withS]
      · by_cases h4 : P.ty = 4
        · have e := tells4 (y := y) (P := withS P s) (by rw [ht]; exact h4)
          have f := tells4 (y := y) (P := P) h4
          rw [e, f]
          simp only [withS]
        · by_cases h5 : P.ty = 5
          · have e := tells5 (y := y) (P := withS P s) (by rw [ht]; exact h5)
            have f := tells5 (y := y) (P := P) h5
            rw [e, f]
            simp only [withS]
          · have e := tells0 (y := y) (P := withS P s) (by rw [ht]; omega)
            have f := tells0 (y := y) (P := P) (by omega)
            rw [e, f]
theorem whole_own (P : Pkt) (hw : WfP P) (hr : RightS P) (s : ByteArray) : tellsE ((putP P).drop 24) (frontP (putP P) s) = 0 ∧ wholeP (putP P) s = withS P s := by
  obtain ⟨h1, h2⟩ := tells_back P hw hr
  unfold wholeP
  rw [drop_own, front_own P hw hr]
  refine ⟨h1, ?_⟩
  have := tells_auth (bodyB P) ⟨P.ty, P.router, P.area, P.auth, 0, 0, 0, 0, 0, 0, [], 0, 0, [], [], []⟩ s
  rw [h2] at this
  exact this
/-- by its own key -/
theorem get_own (P : Pkt) (hw : WfP P) (h : rightR P = true) : getPE (putP P) P.auth = 0 ∧ getP (putP P) P.auth = P := by
  have hr := rightR_spec P h
  obtain ⟨h1, h2⟩ := whole_own P hw hr P.auth
  rw [withS_own] at h2
  have hf : framedE (putP P) P.auth = 0 := by
    rw [framed_own P hr, if_neg]
    have := hr.auth
    simp
    omega
  have e : getPE (putP P) P.auth = 0 := by
    unfold getPE
    rw [if_neg (by rw [hf]; simp), if_neg (by rw [h1]; simp), h2, if_pos ⟨h, rfl⟩]
  refine ⟨e, ?_⟩
  unfold getP
  rw [if_pos e, h2]
theorem tw_app (l r : List UInt8) (hz : l.all (· != 0) = true) (hr : r.takeWhile (· != 0) = []) : (l ++ r).takeWhile (· != 0) = l := by
  induction l with
  | nil => exact hr
  | cons x l ih =>
    simp only [List.all_cons, Bool.and_eq_true] at hz
    rw [List.cons_append, List.takeWhile_cons, if_pos hz.1, ih hz.2]
theorem key8_zero (l : List UInt8) (hz : l.all (· != 0) = true) (hl : l.length ≤ 8) : ((l ++ List.replicate 8 0).take 8).takeWhile (· != 0) = l := by
  have e : (l ++ List.replicate 8 (0 : UInt8)).take 8 = l ++ List.replicate (8 - l.length) 0 := by
    rw [List.take_append, List.take_of_length_le hl, List.take_replicate]
    congr 2
    omega
  have h2 : ∀ n, (List.replicate n (0 : UInt8)).takeWhile (· != 0) = [] := fun n => by cases n <;> simp [List.replicate_succ]
  rw [e]
  exact tw_app l _ hz (h2 _)
theorem key8_inj (s t : ByteArray) (hs : noZero s = true) (ht : noZero t = true) (ls : s.size ≤ 8) (lt : t.size ≤ 8) (h : key8 s = key8 t) : s = t := by
  have h1 := key8_zero s.data.toList hs (by simpa using ls)
  have h2 := key8_zero t.data.toList ht (by simpa using lt)
  have h3 : (key8 s).takeWhile (· != 0) = (key8 t).takeWhile (· != 0) := by rw [h]
  unfold key8 at h3
  rw [h1, h2] at h3
  cases s with | mk a => cases t with | mk b =>
  congr 1
  exact Array.toList_inj.1 h3
/-- by another key -/
theorem get_other (P : Pkt) (hw : WfP P) (h : rightR P = true) (s : ByteArray) : getPE (putP P) s = 0 ↔ s = P.auth := by
  constructor
  · intro h0
    have hr := rightR_spec P h
    obtain ⟨h1, h2⟩ := whole_own P hw hr s
    unfold getPE at h0
    rw [framed_own P hr] at h0
    by_cases hf : kindP P.auth ≠ kindP s ∨ key8 P.auth ≠ key8 s ∨ 8 < s.size
    · rw [if_pos hf] at h0
      simp at h0
    · rw [if_neg hf] at h0
      simp only [ne_eq, not_true_eq_false, if_false, h1] at h0
      rw [h2] at h0
      have h3 : rightR (withS P s) = true := by
        by_cases h4 : rightR (withS P s) = true
        · exact h4
        · rw [if_neg (fun hh => h4 hh.1)] at h0
          omega
      have hz := (rightR_spec _ h3).zero
      simp only [not_or, ne_eq, Decidable.not_not, Nat.not_lt] at hf
      exact (key8_inj P.auth s hr.zero hz hr.auth hf.2.2 hf.2.1).symm
  · rintro rfl
    exact (get_own P hw h).1
end Go.Proofs.Ytgopkpogakjckaa.PK
