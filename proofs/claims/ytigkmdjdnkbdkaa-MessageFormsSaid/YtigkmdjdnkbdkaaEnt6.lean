/- Chapter 19: an entry is read. -/
import Derived.Test.YtigkmdjdnkbdkaaEnt5
import Derived.Test.YtigkmdjdnkbdkaaCs
namespace Go.Proofs.Ytigkmdjdnkbdkaa
open Go.RowKit
set_option maxRecDepth 100000

/-- What was read, step by step, is the entry where there is one. -/
theorem eparse_read {s r4 r7 : List UInt8} {vec : List Int} {tabs : List (List UInt8)} (x : List UInt8) (hx : x = s.drop 2)
    (hv : ∀ r3, r3 = (rdNum (rdNum (rdNum x 1).2.2 2).2.2 1).2.2 → 2 * (rdNum (rdNum (rdNum x 1).2.2 2).2.2 1).1.toNat ≤ r3.length → vec = ints2 r3 (rdNum (rdNum (rdNum x 1).2.2 2).2.2 1).1.toNat ∧ r4 = r3.drop (2 * (rdNum (rdNum (rdNum x 1).2.2 2).2.2 1).1.toNat))
    (ht : ∀ r6, r6 = (rdNum (rdHash r4).2.2 1).2.2 → 32 * (rdNum (rdHash r4).2.2 1).1.toNat ≤ r6.length → tabs = hashs32 r6 (rdNum (rdHash r4).2.2 1).1.toNat ∧ r7 = r6.drop (32 * (rdNum (rdHash r4).2.2 1).1.toNat)) :
    ∀ e', eparse s = some e' → (⟨(rdNum x 1).1, (rdNum (rdNum x 1).2.2 2).1, vec, (rdHash r4).1, tabs, (rdText r7 2).1⟩ : EntP) = e' := by
  intro e' h
  unfold eparse at h
  split at h
  case isFalse => cases h
  rename_i h6
  split at h
  case isFalse => cases h
  rename_i h7
  split at h
  case isFalse => cases h
  rename_i h8
  split at h
  case isFalse => cases h
  rename_i h9
  obtain ⟨h6, hm⟩ := h6
  have n1 : ∀ t : List UInt8, rdNum t 1 = if 1 ≤ t.length then ((numB (t.take 1) : Int), 0, t.drop 1) else (0, 300, t) := fun _ => rfl
  have lx : x.length = s.length - 2 := by rw [hx, List.length_drop]
  have e1 : rdNum x 1 = ((numB ((s.drop 2).take 1) : Int), 0, s.drop 3) := by rw [n1, if_pos (by omega), hx, List.drop_drop]
  rw [e1] at hv ⊢
  have e2 : rdNum (s.drop 3) 2 = ((numB ((s.drop 3).take 2) : Int), 0, s.drop 5) := by rw [rdNum_two, if_pos (by rw [List.length_drop]; omega), List.drop_drop]
  rw [e2] at hv ⊢
  have e3 : rdNum (s.drop 5) 1 = ((numB ((s.drop 5).take 1) : Int), 0, s.drop 6) := by rw [n1, if_pos (by rw [List.length_drop]; omega), List.drop_drop]
  rw [e3] at hv
  simp only [Int.toNat_natCast] at hv
  obtain ⟨v1, v2⟩ := hv _ rfl (by omega)
  subst v1 v2
  have l4 : ((s.drop 6).drop (2 * numB ((s.drop 5).take 1))).length = (s.drop 6).length - 2 * numB ((s.drop 5).take 1) := List.length_drop ..
  generalize numB ((s.drop 5).take 1) = k at *
  generalize (s.drop 6).drop (2 * k) = r4 at *
  have e4 : rdHash r4 = (r4.take 32, 0, r4.drop 32) := by rw [rdHash, if_pos (by omega)]
  rw [e4] at ht ⊢
  have e5 : rdNum (r4.drop 32) 1 = ((numB ((r4.drop 32).take 1) : Int), 0, r4.drop 33) := by rw [n1, if_pos (by rw [List.length_drop]; omega), List.drop_drop]
  rw [e5] at ht
  simp only [Int.toNat_natCast] at ht
  obtain ⟨t1, t2⟩ := ht _ rfl (by omega)
  subst t1 t2
  generalize numB ((r4.drop 32).take 1) = m at *
  generalize (r4.drop 33).drop (32 * m) = r7 at *
  have e7 : (rdText r7 2).1 = r7.drop 2 := by
    have en : rdNum r7 2 = ((numB (r7.take 2) : Int), 0, r7.drop 2) := by rw [rdNum_two, if_pos (by omega)]
    unfold rdText
    rw [en]
    simp only [ne_eq, not_true_eq_false, if_false, Int.toNat_natCast]
    have hl : numB (r7.take 2) = (r7.drop 2).length := by rw [List.length_drop]; omega
    rw [if_pos (by omega), hl, List.take_length]
  rw [e7]
  simpa using h

def Ent0 : Ent := ⟨EntP0, .slice none 0 0, .slice none 0 0⟩
theorem zeroE : (Try.prog.info? 47).bind (·.zero) = some (.agg (entC Ent0).toArray) := by kernel_rfl
theorem infoE : (Try.prog.info? 47).map (·.size) = some 37 := by kernel_rfl
theorem infoE_l {e : Ent} (h : e.p.root.length = 32) : (Try.prog.info? 47).map (·.size) = some (entC e).length := by rw [entC_length h]; exact infoE
theorem ent0_at (w : World) : EntAt w Ent0 := ⟨Ints.nil w, rows_nil w _ _, rfl⟩
theorem ent_set0 (u q : Int) (l : List Int) (r : List UInt8) (t : List (List UInt8)) (z : List UInt8) (v tv : Value) (x : Int) : (entC ⟨⟨u, q, l, r, t, z⟩, v, tv⟩).take 0 ++ [.int .i64 x] ++ (entC ⟨⟨u, q, l, r, t, z⟩, v, tv⟩).drop (0 + [Value.int .i64 x].length) = entC ⟨⟨x, q, l, r, t, z⟩, v, tv⟩ := rfl
theorem ent_set1 (u q : Int) (l : List Int) (r : List UInt8) (t : List (List UInt8)) (z : List UInt8) (v tv : Value) (x : Int) : (entC ⟨⟨u, q, l, r, t, z⟩, v, tv⟩).take 1 ++ [.int .i64 x] ++ (entC ⟨⟨u, q, l, r, t, z⟩, v, tv⟩).drop (1 + [Value.int .i64 x].length) = entC ⟨⟨u, x, l, r, t, z⟩, v, tv⟩ := rfl
theorem ent_set2 (u q : Int) (l l' : List Int) (r : List UInt8) (t : List (List UInt8)) (z : List UInt8) (v tv x : Value) : (entC ⟨⟨u, q, l, r, t, z⟩, v, tv⟩).take 2 ++ [x] ++ (entC ⟨⟨u, q, l, r, t, z⟩, v, tv⟩).drop (2 + [x].length) = entC ⟨⟨u, q, l', r, t, z⟩, x, tv⟩ := rfl
theorem cut_mid (A R B : List Value) (h : A.length = 3) (hR : R.length = 32) : (A ++ (R ++ B)).take 3 = A ∧ (A ++ (R ++ B)).drop 35 = B ∧ (A ++ (R ++ B)).take 35 = A ++ R := by
  refine ⟨List.take_left' h, ?_, ?_⟩
  · rw [← List.append_assoc]; exact List.drop_left' (by rw [List.length_append]; omega)
  · rw [← List.append_assoc]; exact List.take_left' (by rw [List.length_append]; omega)
theorem ent_set3 (u q : Int) (l : List Int) (r x : List UInt8) (t : List (List UInt8)) (z : List UInt8) (v tv : Value) (hr : r.length = 32) (hx : x.length = 32) : (entC ⟨⟨u, q, l, r, t, z⟩, v, tv⟩).take 3 ++ u8s x ++ (entC ⟨⟨u, q, l, r, t, z⟩, v, tv⟩).drop (3 + (u8s x).length) = entC ⟨⟨u, q, l, x, t, z⟩, v, tv⟩ := by
  have c := cut_mid [.int .i64 u, .int .i64 q, v] (u8s r) [tv, .string (bstr z)] rfl (by rw [u8s_length, hr])
  rw [u8s_length, hx, List.append_assoc]
  show ([.int .i64 u, .int .i64 q, v] ++ (u8s r ++ [tv, .string (bstr z)])).take 3 ++ (u8s x ++ ([.int .i64 u, .int .i64 q, v] ++ (u8s r ++ [tv, .string (bstr z)])).drop 35) = _
  rw [c.1, c.2.1]
  rfl
theorem ent_set4 (u q : Int) (l : List Int) (r : List UInt8) (t t' : List (List UInt8)) (z : List UInt8) (v tv x : Value) (hr : r.length = 32) : (entC ⟨⟨u, q, l, r, t, z⟩, v, tv⟩).take 35 ++ [x] ++ (entC ⟨⟨u, q, l, r, t, z⟩, v, tv⟩).drop (35 + [x].length) = entC ⟨⟨u, q, l, r, t', z⟩, v, x⟩ := by
  have c := cut_mid [.int .i64 u, .int .i64 q, v] (u8s r) [tv, .string (bstr z)] rfl (by rw [u8s_length, hr])
  show ([.int .i64 u, .int .i64 q, v] ++ (u8s r ++ [tv, .string (bstr z)])).take 35 ++ [x] ++ ([.int .i64 u, .int .i64 q, v] ++ (u8s r ++ [tv, .string (bstr z)])).drop (35 + 1) = _
  rw [← List.drop_drop, c.2.1, c.2.2]
  simp [entC]
theorem ent_set5 (u q : Int) (l : List Int) (r : List UInt8) (t : List (List UInt8)) (z x : List UInt8) (v tv : Value) (hr : r.length = 32) : (entC ⟨⟨u, q, l, r, t, z⟩, v, tv⟩).take 36 ++ [.string (bstr x)] ++ (entC ⟨⟨u, q, l, r, t, z⟩, v, tv⟩).drop (36 + [Value.string (bstr x)].length) = entC ⟨⟨u, q, l, r, t, x⟩, v, tv⟩ := by
  have c := cut_mid [.int .i64 u, .int .i64 q, v] (u8s r) [tv, .string (bstr z)] rfl (by rw [u8s_length, hr])
  show ([.int .i64 u, .int .i64 q, v] ++ (u8s r ++ [tv, .string (bstr z)])).take (35 + 1) ++ [Value.string (bstr x)] ++ ([.int .i64 u, .int .i64 q, v] ++ (u8s r ++ [tv, .string (bstr z)])).drop (35 + 2) = _
  rw [← List.drop_drop, List.take_add, c.2.1, c.2.2]
  simp [entC]
/-- What stands while an entry is read. -/
structure GSt (w w' : World) (g K ge gr : Nat) (r : List UInt8) (E : Ent) : Prop where
  rd : IsRd 100 w' g r
  cell : RdCell w' K g
  ent : w'.heap[ge]? = some (.cells (entC E).toArray 47 (0, 0))
  res : w'.heap[gr]? = some (.cells (entC Ent0).toArray 47 (0, 0))
  at' : EntAt w' E
  out : ∀ q, (E.vecV.ownBlock = some q ∨ E.tabV.ownBlock = some q) → w.heap.size ≤ q ∧ q ≠ g ∧ q ≠ K ∧ q ≠ ge ∧ q ≠ gr
  ne : g ≠ K ∧ g ≠ ge ∧ g ≠ gr ∧ K ≠ ge ∧ K ≠ gr ∧ ge ≠ gr
  lo : w.heap.size ≤ g ∧ w.heap.size ≤ K ∧ w.heap.size ≤ ge ∧ w.heap.size ≤ gr
  pure : Pure w w'
theorem EntAt.turn {S : Nat → Prop} {w w' : World} {E : Ent} (h : EntAt w E) (t : Turn S w w') (hS : ∀ q, (E.vecV.ownBlock = some q ∨ E.tabV.ownBlock = some q) → ¬ S q) : EntAt w' E :=
  ⟨h.vec.turn t fun q hq => hS q (.inl hq), h.tab.turn t fun _ q hq => hS q (.inr hq), h.root⟩
theorem GSt.read {w w1 w2 : World} {g K ge gr : Nat} {r r' : List UInt8} {E : Ent} (h : GSt w w1 g K ge gr r E) (t : Read 100 w1 w2 g r') : GSt w w2 g K ge gr r' E :=
  ⟨t.rd, t.turn.obj h.cell (Ne.symm h.ne.1), t.turn.obj h.ent (Ne.symm h.ne.2.1), t.turn.obj h.res (Ne.symm h.ne.2.2.1), h.at'.turn t.turn fun q hq => (h.out q hq).2.1, h.out, h.ne, h.lo, h.pure.trans t.turn fun q hq e => by have := h.lo.1; omega⟩
theorem GSt.set {w w1 w2 : World} {g K ge gr : Nat} {r : List UInt8} {E E' : Ent} (h : GSt w w1 g K ge gr r E) (c : w2.heap[ge]? = some (.cells (entC E').toArray 47 (0, 0))) (t : Turn (fun k => k = ge) w1 w2)
    (hE : EntAt w1 E') (ho : ∀ q, (E'.vecV.ownBlock = some q ∨ E'.tabV.ownBlock = some q) → w.heap.size ≤ q ∧ q ≠ g ∧ q ≠ K ∧ q ≠ ge ∧ q ≠ gr) : GSt w w2 g K ge gr r E' :=
  ⟨h.rd.turn t h.ne.2.1, t.obj h.cell h.ne.2.2.2.1, c, t.obj h.res (Ne.symm h.ne.2.2.2.2.2), hE.turn t fun q hq => (ho q hq).2.2.2.1, ho, h.ne, h.lo, h.pure.trans t fun q hq e => by have := h.lo.2.2.1; omega⟩
theorem GSt.fresh {w w1 : World} {g K ge gr : Nat} {r : List UInt8} {E : Ent} (h : GSt w w1 g K ge gr r E) {q : Nat} (hq : w1.heap.size ≤ q) : w.heap.size ≤ q ∧ q ≠ g ∧ q ≠ K ∧ q ≠ ge ∧ q ≠ gr := by
  have h1 := h.rd.lt
  have h2 := (Array.getElem?_eq_some_iff.1 h.cell).1
  have h3 := (Array.getElem?_eq_some_iff.1 h.ent).1
  have h4 := (Array.getElem?_eq_some_iff.1 h.res).1
  have h5 := h.pure.size
  omega

theorem rdNum1_nat (s : List UInt8) : ∃ k : Nat, (rdNum s 1).1 = (k : Int) ∧ k ≤ 255 := by
  have e : rdNum s 1 = if 1 ≤ s.length then ((numB (s.take 1) : Int), 0, s.drop 1) else (0, 300, s) := rfl
  rw [e]
  split
  · have h1 := numB_lt (s.take 1)
    have h2 : (s.take 1).length ≤ 1 := by rw [List.length_take]; omega
    have h3 : 256 ^ (s.take 1).length ≤ 256 ^ 1 := Nat.pow_le_pow_right (by omega) h2
    exact ⟨_, rfl, by omega⟩
  · exact ⟨0, rfl, by omega⟩
theorem rdHash_length (s : List UInt8) : (rdHash s).1.length = 32 := by
  rw [rdHash]
  split
  · rw [List.length_take]; omega
  · simp
theorem rdText_le (s : List UInt8) (n : Int) : (rdText s n).1.length ≤ s.length := by
  unfold rdText
  split
  · simp
  · split
    · rw [List.length_take]
      have h : (rdNum s n).2.2.length ≤ s.length := by
        unfold rdNum
        split
        · split
          · rw [List.length_drop]; omega
          · exact Nat.le_refl _
        · exact Nat.le_refl _
      omega
    · simp

set_option maxHeartbeats 4000000 in
theorem eget_any (w : World) (s : List UInt8) (hs : s.length ≤ 4611686018427387904) :
    Calls Try.prog 26 #[.string (bstr s)] w fun x w' => ∃ E : Ent, x = .returned (.tuple #[.agg (entC E).toArray, .int .i64 (egetV s).2]) ∧ E.p = (egetV s).1 ∧ EntAt w' E ∧ (Newer w E.vecV ∧ Newer w E.tabV) ∧ Pure w w' := by
  have hz := bstr_size s
  obtain ⟨Z0, hZ0⟩ : ∃ Z0, Z0 = entC Ent0 := ⟨_, rfl⟩
  have HZ0 := Lib.hid hZ0
  have hzE := zeroE
  rw [← hZ0] at hzE
  have HZE := Lib.hid hzE
  have hZl : Z0.length = 37 := by rw [hZ0]; rfl
  have hZo : ∀ v ∈ Z0, v.oneCell' = true := by rw [hZ0]; exact entC_one (ent0_at w)
  clear hzE hZ0
  by_cases hl2 : s.length < 2
  · have hr : egetV s = (EntP0, 1900) := by
      have : eparse s = none := by unfold eparse; rw [if_neg (by omega)]
      rw [egetV, this]
    rw [hr]
    have q1 : decide ((s.length : Int) < 2) = true := decide_eq_true (by omega)
    clear hr hl2
    go_enter Try.func26, Try.ntmps26
    go_wp2_with (refine wpList_allocZ rfl 47 rfl _ HZE.out ?_)
    intro g1 w1 e1 c1 t1 s1
    have l1 : w.heap.size ≤ g1 := by omega
    clear e1 s1
    go_wp2_with (refine wpList_store_blk rfl 47 _ _ rfl g1 _ (entC Ent0) _ rfl rfl c1 (by rw [List.size_toArray, hZl]; rfl) (by rw [infoE]; rfl) (entC_one (ent0_at w)) ?_)
    intro w2 c2 t2 _
    have PT : Pure w w2 := t1.newer t2 l1
    clear c1 t1 t2
    go_wp2
    exact bodyPost_ret (v := .tuple #[.agg (entC Ent0).toArray, .int .i64 1900]) (results_cell2 Try.results26 _ _ g1 _ (entC Ent0).toArray _ _ rfl c2 Try.underlying47 rfl (by rw [infoE]; rfl)) rfl ⟨Ent0, rfl, rfl, ent0_at _, ⟨newer_nil _, newer_nil _⟩, PT⟩
  · have q1 : decide ((s.length : Int) < 2) = false := decide_eq_false (by omega)
    have hsl : 2 ≤ s.length := by omega
    obtain ⟨x, hx⟩ : ∃ x, x = s.drop 2 := ⟨_, rfl⟩
    have hxl : x.length ≤ 4611686018427387904 := by rw [hx, List.length_drop]; omega
    have HX := Lib.hid hx; have HSL := Lib.hid hsl
    clear hx hl2
    go_enter Try.func26, Try.ntmps26
    go_wp2_with (refine wpList_allocZ rfl 47 rfl _ HZE.out ?_)
    intro g1 w1 e1 c1 t1 s1
    have l1 : w.heap.size ≤ g1 := by omega
    have D1 := Lib.hid c1; have PT := Lib.hid t1; have S1 := Lib.hid (And.intro e1 s1)
    clear e1 s1 c1 t1
    -- STEPS
    go_wp2_with fail
    rw [show (bstr s).extract 2 s.length = bstr x from by rw [bstr_ext, List.take_length, HX.out]]
    refine (Open_any w1 x hxl).mono ?_
    rintro e w2 ⟨rfl, o2, p2⟩
    have hg1 : g1 < w1.heap.size := (Array.getElem?_eq_some_iff.1 D1.out).1
    have hgw := o2.lt
    have lg : w.heap.size ≤ w1.heap.size := PT.out.size
    have n1g : w1.heap.size ≠ g1 := by omega
    have D1 := Lib.hid (p2.obj D1.out (fun e => e)); have HR := Lib.hid o2; have PT := Lib.hid (PT.out.pure p2)
    clear o2 p2 S1 hg1
    generalize w1.heap.size = g at *
    have c3 := heap_alloc_new w2 (.cells #[.pointer (some ⟨g, 0, none⟩)] 59)
    have p3 : Pure w2 (w2.alloc (.cells #[.pointer (some ⟨g, 0, none⟩)] 59)) := (Turn.refl _ _).alloc _
    have hs3 : (w2.alloc (.cells #[.pointer (some ⟨g, 0, none⟩)] 59)).heap.size = w2.heap.size + 1 := by simp
    have hg1 : g1 < w2.heap.size := (Array.getElem?_eq_some_iff.1 D1.out).1
    have D1 := Lib.hid (p3.obj D1.out (fun e => e)); have HR := Lib.hid (HR.out.turn p3 (fun e => e))
    have lK : w.heap.size ≤ w2.heap.size := PT.out.size
    have PT := Lib.hid (PT.out.pure p3); have DK := Lib.hid c3
    have n2 : g ≠ w2.heap.size ∧ w2.heap.size ≠ g1 := by omega
    clear p3 c3
    go_wp2_with (refine wpList_allocZ rfl 47 rfl _ HZE.out ?_)
    intro ge w4 e4 c4 t4 s4
    generalize w2.alloc (.cells #[.pointer (some ⟨g, 0, none⟩)] 59) = w3 at *
    generalize w2.heap.size = K at *
    have G : Hid (GSt w w4 g K ge g1 x Ent0) := Lib.hid (by
      refine ⟨HR.out.turn t4 (fun e => e), t4.obj DK.out (fun e => e), by rw [c4, HZ0.out], by rw [t4.obj D1.out (fun e => e), HZ0.out], ent0_at _, ?_, ?_, ?_, PT.out.pure t4⟩
      · rintro q (h | h) <;> simp [Ent0, Value.ownBlock] at h
      · omega
      · omega)
    clear e4 c4 t4 s4 hs3 hg1 lK n2 lg l1 n1g hgw HR DK D1 PT
    have kc := G.out.cell.at
    go_wp2_with fail
    refine (RNum_any _ g x 1 G.out.rd).mono ?_
    rintro e w5 ⟨rfl, r5⟩
    have G := Lib.hid (G.out.read r5)
    clear r5 kc
    obtain ⟨u, hu⟩ : ∃ u, u = (rdNum x 1).1 := ⟨_, rfl⟩
    obtain ⟨r1, hr1⟩ : ∃ r, r = (rdNum x 1).2.2 := ⟨_, rfl⟩
    rw [← hr1] at G
    rw [← hu]
    have HU := Lib.hid hu; have HR1 := Lib.hid hr1
    clear hu hr1
    go_wp2_with (refine wpList_store_cs rfl 3 _ _ rfl ge 0 (.int .i64 u) [.int .i64 u] _ _ rfl rfl rfl G.out.ent (by have hln := entC_length G.out.at'.root; simp only [List.length_cons, List.length_nil]; omega) (by kernel_rfl) (one_mem rfl) _ (ent_set0 0 0 [] (List.replicate 32 0) [] [] (.slice none 0 0) (.slice none 0 0) u) ?_)
    intro w6 c6 t6 _
    have G : Hid (GSt w w6 g K ge g1 r1 _) := Lib.hid (G.out.set c6 t6 ⟨G.out.at'.vec, G.out.at'.tab, G.out.at'.root⟩ G.out.out)
    clear c6 t6
    have kc := G.out.cell.at
    go_wp2_with fail
    refine (RNum_any _ g r1 2 G.out.rd).mono ?_
    rintro e w7 ⟨rfl, r7⟩
    have G := Lib.hid (G.out.read r7)
    clear r7 kc
    obtain ⟨q, hq⟩ : ∃ u, u = (rdNum r1 2).1 := ⟨_, rfl⟩
    obtain ⟨r2, hr2⟩ : ∃ r, r = (rdNum r1 2).2.2 := ⟨_, rfl⟩
    rw [← hr2] at G
    rw [← hq]
    have HQ := Lib.hid hq; have HR2 := Lib.hid hr2
    clear hq hr2
    go_wp2_with (refine wpList_store_cs rfl 3 _ _ rfl ge 1 (.int .i64 q) [.int .i64 q] _ _ rfl rfl rfl G.out.ent (by have hln := entC_length G.out.at'.root; simp only [List.length_cons, List.length_nil]; omega) (by kernel_rfl) (one_mem rfl) _ (ent_set1 u 0 [] (List.replicate 32 0) [] [] (.slice none 0 0) (.slice none 0 0) q) ?_)
    intro w8 c8 t8 _
    have G : Hid (GSt w w8 g K ge g1 r2 _) := Lib.hid (G.out.set c8 t8 ⟨G.out.at'.vec, G.out.at'.tab, G.out.at'.root⟩ G.out.out)
    clear c8 t8
    have kc := G.out.cell.at
    go_wp2_with fail
    refine (RNum_any _ g r2 1 G.out.rd).mono ?_
    rintro e w9 ⟨rfl, r9⟩
    have G := Lib.hid (G.out.read r9)
    clear r9 kc
    obtain ⟨k, hk, hk255⟩ := rdNum1_nat r2
    obtain ⟨r3, hr3⟩ : ∃ r, r = (rdNum r2 1).2.2 := ⟨_, rfl⟩
    rw [← hr3] at G
    rw [hk]
    have HK := Lib.hid hk; have HR3 := Lib.hid hr3
    clear hk hr3
    have kc := G.out.cell.at
    go_wp2_with fail
    refine (manyInt_any _ k K g r3 hk255 G.out.cell (Ne.symm G.out.ne.1) G.out.rd).mono ?_
    rintro e w10 ⟨rv, err, vec, r4, rfl, hiv, hnv, hv, r10, _⟩
    have hfr := fun q hq => G.out.fresh (hnv q hq)
    have G := Lib.hid (G.out.read r10)
    have HIV := Lib.hid hiv; have HFR := Lib.hid hfr; have HV := Lib.hid hv
    clear r10 kc hiv hnv hfr hv
    have HRVC : Hid (rv.cells = [rv].toArray) := Lib.hid (by obtain ⟨ao, cp, rfl, _⟩ := HIV.out; rfl)
    go_wp2_with (refine wpList_store_cs rfl 43 _ _ rfl ge 2 (rv) [rv] _ _ rfl rfl HRVC.out G.out.ent (by have hln := entC_length G.out.at'.root; simp only [List.length_cons, List.length_nil]; omega) (by kernel_rfl) (one_mem HIV.out.one) _ (ent_set2 u q [] vec (List.replicate 32 0) [] [] (.slice none 0 0) (.slice none 0 0) rv) ?_)
    intro w11 c11 t11 _
    have G : Hid (GSt w w11 g K ge g1 r4 _) := Lib.hid (G.out.set c11 t11 ⟨HIV.out, G.out.at'.tab, G.out.at'.root⟩ (fun y hy => hy.elim (HFR.out y) fun h => G.out.out y (.inr h)))
    clear c11 t11
    have kc := G.out.cell.at
    go_wp2_with fail
    refine (RHash_any _ g r4 G.out.rd).mono ?_
    rintro e w12 ⟨rfl, r12⟩
    have G := Lib.hid (G.out.read r12)
    clear r12 kc
    have hrl := rdHash_length r4
    obtain ⟨rt, hrt⟩ : ∃ u, u = (rdHash r4).1 := ⟨_, rfl⟩
    obtain ⟨r5, hr5⟩ : ∃ r, r = (rdHash r4).2.2 := ⟨_, rfl⟩
    rw [← hr5] at G
    rw [← hrt] at hrl ⊢
    have HRT := Lib.hid hrt; have HR5 := Lib.hid hr5; have HRL := Lib.hid hrl
    clear hrt hr5 hrl
    go_wp2_with (refine wpList_store_cs rfl 45 _ _ rfl ge 3 (hv rt) (u8s rt) _ _ rfl rfl rfl G.out.ent (by have hln := entC_length G.out.at'.root; simp only [u8s_length, HRL.out]; omega) (info28_l HRL.out) (u8s_one _) _ (ent_set3 u q vec (List.replicate 32 0) rt [] [] rv (.slice none 0 0) rfl HRL.out) ?_)
    intro w13 c13 t13 _
    have G : Hid (GSt w w13 g K ge g1 r5 _) := Lib.hid (G.out.set c13 t13 ⟨G.out.at'.vec, G.out.at'.tab, HRL.out⟩ G.out.out)
    clear c13 t13
    have kc := G.out.cell.at
    go_wp2_with fail
    refine (RNum_any _ g r5 1 G.out.rd).mono ?_
    rintro e w14 ⟨rfl, r14⟩
    have G := Lib.hid (G.out.read r14)
    clear r14 kc
    obtain ⟨m, hm, hm255⟩ := rdNum1_nat r5
    obtain ⟨r6, hr6⟩ : ∃ r, r = (rdNum r5 1).2.2 := ⟨_, rfl⟩
    rw [← hr6] at G
    rw [hm]
    have HM := Lib.hid hm; have HR6 := Lib.hid hr6
    clear hm hr6
    have kc := G.out.cell.at
    go_wp2_with fail
    refine (manyHash_any _ m g r6 hm255 G.out.rd).mono ?_
    rintro e w15 ⟨tv, err2, tabs, r7, rfl, hiv, hnv, hl255, hv, r15⟩
    have hfr := fun q hq => G.out.fresh (hnv q hq)
    have G := Lib.hid (G.out.read r15)
    have HTB := Lib.hid hiv; have HFR2 := Lib.hid hfr; have HT := Lib.hid hv
    clear r15 kc hiv hnv hfr hv
    have HTVC : Hid (tv.cells = [tv].toArray) := Lib.hid (by obtain ⟨ao, cp, rfl, _⟩ := HTB.out; rfl)
    go_wp2_with (refine wpList_store_cs rfl 23 _ _ rfl ge 35 (tv) [tv] _ _ rfl rfl HTVC.out G.out.ent (by have hln := entC_length G.out.at'.root; simp only [List.length_cons, List.length_nil]; omega) (by kernel_rfl) (one_mem HTB.out.one) _ (ent_set4 u q vec rt [] tabs [] rv (.slice none 0 0) tv HRL.out) ?_)
    intro w16 c16 t16 _
    have G : Hid (GSt w w16 g K ge g1 r7 _) := Lib.hid (G.out.set c16 t16 ⟨G.out.at'.vec, HTB.out, HRL.out⟩ (fun y hy => hy.elim (fun h => G.out.out y (.inl h)) (HFR2.out y)))
    clear c16 t16
    have kc := G.out.cell.at
    go_wp2_with fail
    refine (RText_any _ g r7 2 G.out.rd).mono ?_
    rintro e w17 ⟨rfl, r17⟩
    have hzl := rdText_le r7 2
    have hrd7 := G.out.rd.len
    have G := Lib.hid (G.out.read r17)
    clear r17 kc
    obtain ⟨z, hzz⟩ : ∃ u, u = (rdText r7 2).1 := ⟨_, rfl⟩
    obtain ⟨r8, hr8⟩ : ∃ r, r = (rdText r7 2).2.2 := ⟨_, rfl⟩
    rw [← hr8] at G
    rw [← hzz] at hzl ⊢
    have HZZ := Lib.hid hzz; have hzb : z.length ≤ 4611686018427387904 := by omega
    clear hzz hr8 hzl hrd7
    go_wp2_with (refine wpList_store_cs rfl 9 _ _ rfl ge 36 (.string (bstr z)) [.string (bstr z)] _ _ rfl rfl rfl G.out.ent (by have hln := entC_length G.out.at'.root; simp only [List.length_cons, List.length_nil]; omega) (by kernel_rfl) (one_mem rfl) _ (ent_set5 u q vec rt tabs [] z rv tv HRL.out) ?_)
    intro w18 c18 t18 _
    have G : Hid (GSt w w18 g K ge g1 r8 _) := Lib.hid (G.out.set c18 t18 ⟨G.out.at'.vec, G.out.at'.tab, G.out.at'.root⟩ G.out.out)
    clear c18 t18
    obtain ⟨E, hE⟩ : ∃ E : Ent, E = ⟨⟨u, q, vec, rt, tabs, z⟩, rv, tv⟩ := ⟨_, rfl⟩
    have hpr := eparse_read (s := s) (r4 := r4) (r7 := r7) (vec := vec) (tabs := tabs) x HX.out (fun r hr => by rw [← HR1.out, ← HR2.out, HK.out, ← HR3.out] at *; rw [hr]; exact HV.out) (fun r hr => by rw [← HR5.out, HM.out, ← HR6.out] at *; rw [hr]; exact HT.out)
    rw [← HU.out, ← HR1.out, ← HQ.out, ← HRT.out, ← HZZ.out] at hpr
    have hget := egetV_again (s := s) (e := E.p) (by rw [hE]; exact G.out.at'.fit) (by rw [hE]; exact hpr)
    have hsg : E.p.sign.length ≤ 4611686018427387904 := by rw [hE]; exact hzb
    rw [← hE] at G
    have hput := eput_any _ E G.out.at' hsg
    have hCl := entC_length G.out.at'.root; have hCo := entC_one G.out.at'
    have D := Lib.hid G.out.ent
    obtain ⟨C, hC⟩ : ∃ C, C = entC E := ⟨_, rfl⟩
    obtain ⟨b, er, hbe⟩ : ∃ b er, eputV E.p = (b, er) := ⟨_, _, rfl⟩
    rw [hbe] at hput hget
    rw [← hC] at hput hCl hCo D
    have HPUT := Lib.hid hput; have HGET := Lib.hid hget; have HC := Lib.hid hC; have R := Lib.hid (range_of_row D.out)
    have hCi : (Try.prog.info? 47).map (·.size) = some C.length := by rw [infoE, hCl]
    have HCI := Lib.hid hCi; have HCO := Lib.hid hCo
    clear hput hget hC hCi hCo hbe hE hpr hsg hzb HIV HFR HV HTB HFR2 HT HRVC HTVC HZZ HRT HU HQ HR1 HR2 HK HR3 HR5 HM HR6 HRL hk255 hm255 hl255
    go_wp2_with (refine wpList_load_mid rfl 47 _ rfl ge 0 rfl C _ R.out Try.underlying47 rfl HCI.out ?_)
    refine HPUT.out.mono ?_
    rintro e w19 ⟨rfl, p19⟩
    have G : Hid (GSt w w19 g K ge g1 r8 E) := Lib.hid ⟨G.out.rd.turn p19 (fun e => e), p19.obj G.out.cell (fun e => e), p19.obj G.out.ent (fun e => e), p19.obj G.out.res (fun e => e), G.out.at'.pure p19, G.out.out, G.out.ne, G.out.lo, G.out.pure.pure p19⟩
    have R := Lib.hid (range_of_row (show w19.heap[ge]? = some (.cells C.toArray 47 (0, 0)) by rw [HC.out]; exact G.out.ent))
    clear p19 D HPUT
    by_cases her : er = 0
    · subst her
      by_cases hbs : b = s
      · subst hbs
        have hg : egetV b = (E.p, 0) := by have h := HGET.out; rwa [if_pos rfl] at h
        have HG2 := Lib.hid hg
        clear hg HGET
        go_wp2_with (first | (refine wpList_load_mid rfl 47 _ rfl ge 0 rfl C _ R.out Try.underlying47 rfl HCI.out ?_) | (refine wpList_store_blk rfl 47 _ _ rfl g1 _ C _ rfl rfl G.out.res (by rw [hCl]; rfl) HCI.out HCO.out ?_))
        intro w20 c20 t20 _
        have PT : Pure w w20 := G.out.pure.newer t20 G.out.lo.2.2.2
        have hat := G.out.at'.turn t20 fun q hq => (G.out.out q hq).2.2.2.2
        have HAT := Lib.hid hat
        clear t20 hat
        go_wp2
        exact bodyPost_ret (v := .tuple #[.agg C.toArray, .int .i64 0]) (results_cell2 Try.results26 _ _ g1 _ C.toArray _ _ rfl c20 Try.underlying47 rfl (by rw [List.size_toArray]; exact HCI.out)) rfl ⟨E, by rw [HG2.out, HC.out], by rw [HG2.out], HAT.out, ⟨fun q hq => (G.out.out q (.inl hq)).1, fun q hq => (G.out.out q (.inr hq)).1⟩, PT⟩
      · have HGET : Hid (egetV s = (EntP0, 1900)) := Lib.hid (by have h := HGET.out; rwa [if_neg (by simp [hbs])] at h)
        have hne : (b == s) = false := by simpa using hbs
        clear hbs
        go_wp2_with (refine wpList_store_blk rfl 47 _ _ rfl g1 _ (entC Ent0) _ rfl rfl G.out.res rfl (by rw [infoE]; rfl) (entC_one (ent0_at w)) ?_)
        intro w20 c20 t20 _
        have PT : Pure w w20 := G.out.pure.newer t20 G.out.lo.2.2.2
        clear t20
        go_wp2
        exact bodyPost_ret (v := .tuple #[.agg (entC Ent0).toArray, .int .i64 1900]) (results_cell2 Try.results26 _ _ g1 _ (entC Ent0).toArray _ _ rfl c20 Try.underlying47 rfl (by rw [infoE]; rfl)) rfl ⟨Ent0, by rw [HGET.out], by rw [HGET.out]; rfl, ent0_at _, ⟨newer_nil _, newer_nil _⟩, PT⟩
    · have HGET : Hid (egetV s = (EntP0, 1900)) := Lib.hid (by have h := HGET.out; rwa [if_neg (by simp [her])] at h)
      have q5 : (er != 0) = true := by simpa using her
      clear her
      go_wp2_with (refine wpList_store_blk rfl 47 _ _ rfl g1 _ (entC Ent0) _ rfl rfl G.out.res rfl (by rw [infoE]; rfl) (entC_one (ent0_at w)) ?_)
      intro w20 c20 t20 _
      have PT : Pure w w20 := G.out.pure.newer t20 G.out.lo.2.2.2
      clear t20
      go_wp2
      exact bodyPost_ret (v := .tuple #[.agg (entC Ent0).toArray, .int .i64 1900]) (results_cell2 Try.results26 _ _ g1 _ (entC Ent0).toArray _ _ rfl c20 Try.underlying47 rfl (by rw [infoE]; rfl)) rfl ⟨Ent0, by rw [HGET.out], by rw [HGET.out]; rfl, ent0_at _, ⟨newer_nil _, newer_nil _⟩, PT⟩
end Go.Proofs.Ytigkmdjdnkbdkaa
