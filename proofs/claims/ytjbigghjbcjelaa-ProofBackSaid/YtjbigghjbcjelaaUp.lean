/- Chapter 10: the root that a leaf's way makes (the program's walker). -/
import Derived.Test.YtjbigghjbcjelaaWalk
namespace Go.Proofs.Ytjbigghjbcjelaa
open Go.RowKit

theorem next_any (w : World) (g : Nat) (v : Value) (hs : List (List UInt8)) (s : Bool) (h : WalkAt w g v hs s) (hlen : hs.length ≤ 4398046510976) :
    Calls Try.prog 61 #[.pointer (some ⟨g, 0, none⟩)] w fun e w' => ∃ v', e = .returned (hv (nextV hs s).1) ∧ WalkAt w' g v' (nextV hs s).2.1 (nextV hs s).2.2 ∧ v'.ownBlock = v.ownBlock ∧ Turn (fun k => k = g) w w' := by
  by_cases hsh : (s || hs.isEmpty) = true
  · refine (next_short w g v hs s h hsh).mono fun e w' hh => ?_
    rw [nextV, if_pos hsh]
    exact ⟨v, hh.1, hh.2.1, rfl, hh.2.2⟩
  · cases hs with
    | nil => simp at hsh
    | cons x t =>
      have hs0 : s = false := by simpa using hsh
      subst hs0
      refine (next_head w g v x t h (by simp at hlen; omega)).mono fun e w' hh => ?_
      exact hh
theorem nextV_len (hs : List (List UInt8)) (s : Bool) : (nextV hs s).2.1.length ≤ hs.length := by
  rw [nextV]
  split
  · exact Nat.le_refl _
  · simp
theorem nextV_ok (hs : List (List UInt8)) (s : Bool) (h : ∀ x ∈ hs, x.length = 32) : (nextV hs s).1.length = 32 ∧ ∀ x ∈ (nextV hs s).2.1, x.length = 32 := by
  rw [nextV]
  split
  · exact ⟨by simp, h⟩
  · rename_i hn
    cases hs with
    | nil => simp at hn
    | cons x t => exact ⟨h x (by simp), fun y hy => h y (by simp at hy; simp [hy])⟩
/-- The root that a leaf's way makes, and what is left of the proof. -/
def upV (size : Nat) (hs : List (List UInt8)) (s : Bool) (h : List UInt8) (i : Nat) : List UInt8 × List (List UInt8) × Bool :=
  if _h : 2 ≤ size then
    if i < belowV size then
      let r := upV (belowV size) hs s h i
      let q := nextV r.2.1 r.2.2
      (joinV r.1 q.1, q.2)
    else
      let r := upV (size - belowV size) hs s h (i - belowV size)
      let q := nextV r.2.1 r.2.2
      (joinV q.1 r.1, q.2)
  else (h, hs, s)
termination_by size
decreasing_by
  · exact belowV_lt _h
  · have := belowV_pos size; omega
theorem upV_one (size : Nat) (hs : List (List UInt8)) (s : Bool) (h : List UInt8) (i : Nat) (h1 : ¬ 2 ≤ size) : upV size hs s h i = (h, hs, s) := by rw [upV, dif_neg h1]
theorem upV_left {size : Nat} (hs : List (List UInt8)) (s : Bool) (h : List UInt8) {i : Nat} (h2 : 2 ≤ size) (hi : i < belowV size) : upV size hs s h i = (joinV (upV (belowV size) hs s h i).1 (nextV (upV (belowV size) hs s h i).2.1 (upV (belowV size) hs s h i).2.2).1, (nextV (upV (belowV size) hs s h i).2.1 (upV (belowV size) hs s h i).2.2).2) := by
  rw [upV, dif_pos h2, if_pos hi]
theorem upV_right {size : Nat} (hs : List (List UInt8)) (s : Bool) (h : List UInt8) {i : Nat} (h2 : 2 ≤ size) (hi : ¬ i < belowV size) : upV size hs s h i = (joinV (nextV (upV (size - belowV size) hs s h (i - belowV size)).2.1 (upV (size - belowV size) hs s h (i - belowV size)).2.2).1 (upV (size - belowV size) hs s h (i - belowV size)).1, (nextV (upV (size - belowV size) hs s h (i - belowV size)).2.1 (upV (size - belowV size) hs s h (i - belowV size)).2.2).2) := by
  rw [upV, dif_pos h2, if_neg hi]
theorem upV_ok : ∀ (size : Nat) (hs : List (List UInt8)) (s : Bool) (h : List UInt8) (i : Nat), h.length = 32 → (∀ x ∈ hs, x.length = 32) → (upV size hs s h i).1.length = 32 ∧ (∀ x ∈ (upV size hs s h i).2.1, x.length = 32) ∧ (upV size hs s h i).2.1.length ≤ hs.length := by
  intro size
  induction size using Nat.strongRecOn with
  | _ size ih =>
    intro hs s h i hh hx
    by_cases h2 : 2 ≤ size
    · have hk1 := belowV_lt h2
      have hk0 := belowV_pos size
      by_cases hi : i < belowV size
      · obtain ⟨a1, a2, a3⟩ := ih (belowV size) hk1 hs s h i hh hx
        rw [upV_left hs s h h2 hi]
        exact ⟨joinV_length _ _, (nextV_ok _ _ a2).2, Nat.le_trans (nextV_len _ _) a3⟩
      · obtain ⟨a1, a2, a3⟩ := ih (size - belowV size) (by omega) hs s h (i - belowV size) hh hx
        rw [upV_right hs s h h2 hi]
        exact ⟨joinV_length _ _, (nextV_ok _ _ a2).2, Nat.le_trans (nextV_len _ _) a3⟩
    · rw [upV_one size hs s h i h2]
      exact ⟨hh, hx, Nat.le_refl _⟩

set_option maxHeartbeats 1000000 in
theorem up_one (w : World) (g : Nat) (v : Value) (hs : List (List UInt8)) (s : Bool) (h : List UInt8) (i : Nat) (hw : WalkAt w g v hs s) (hh : h.length = 32) :
    Calls Try.prog 50 #[.pointer (some ⟨g, 0, none⟩), hv h, .int .i64 (i : Int), .int .i64 1] w fun e w' => ∃ v', e = .returned (hv h) ∧ WalkAt w' g v' hs s ∧ v'.ownBlock = v.ownBlock ∧ Turn (fun k => k = g) w w' := by
  obtain ⟨X, hXl, HZ⟩ := ex28
  have HW := Lib.hid hw
  have hgl := (Array.getElem?_eq_some_iff.1 hw.at_).1
  clear hw
  go_enter Try.func50, Try.ntmps50
  go_wp2_with (refine wpList_boxV rfl 28 _ rfl (u8s h) rfl ?_)
  intro g5 w1 e1 c1 t1 s1
  have l5 : w.heap.size ≤ g5 := by omega
  clear e1
  go_wp2_with (refine wpList_allocZ rfl 28 rfl X HZ.out ?_)
  intro g8 w2 e2 c2 t2 s2
  have l8 : g5 < g8 := by omega
  have D5 := Lib.hid (t2.obj c1 (fun e => e)); have D8 := Lib.hid c2; have PT := Lib.hid (((Turn.refl (fun k => k = g) w).pure t1).pure t2)
  have HW2 : Hid (WalkAt w2 g v hs s) := Lib.hid ⟨t2.obj (t1.obj HW.out.at_ (fun e => e)) (fun e => e), (HW.out.row.turn t1 (fun _ _ _ e => e)).turn t2 (fun _ _ _ e => e), HW.out.ne⟩
  clear e2 c1 c2 t1 t2 s1 s2
  go_wp2_with (first | (refine wpList_load_row rfl 28 _ rfl g5 rfl _ (u8s h).toArray _ _ D5.out Try.underlying28 rfl (info28_a hh) ?_) | (refine wpList_store_blk rfl 28 _ _ rfl g8 _ (u8s h) _ rfl rfl D8.out (size28 hXl hh) (info28_l hh) (u8s_one _) ?_))
  intro w9 c9 t9 _
  have hc9 := Lib.hid c9
  have HT9 : Hid (Turn (fun k => k = g) w w9) := Lib.hid (PT.out.trans t9 fun i hi e => by omega)
  have HW9 : Hid (WalkAt w9 g v hs s) := Lib.hid ⟨t9.obj HW2.out.at_ (by omega), HW.out.row.turn HT9.out (fun hne k hk e => HW.out.ne hne (by rw [hk, e])), HW.out.ne⟩
  clear c9 t9
  go_wp2
  exact bodyPost_ret (v := hv h) (results_cell_row Try.results50 _ _ g8 _ (u8s h).toArray _ _ rfl hc9.out Try.underlying28 rfl (info28_a hh)) rfl ⟨_, rfl, HW9.out, rfl, HT9.out⟩
/-- A row's block is there. -/
theorem Hashs.lt {w : World} {v : Value} {hs : List (List UInt8)} (h : Hashs w v hs) (hne : hs ≠ []) : ∀ k, v.ownBlock = some k → k < w.heap.size := by
  obtain ⟨ao, cap, rfl, h2, h3, h4⟩ := h
  obtain ⟨b, o, rfl, hr⟩ := h3 hne
  intro k hk
  obtain rfl : b = k := Option.some.inj hk
  cases hs with
  | nil => exact absurd rfl hne
  | cons x t =>
    have hx := h4 x (by simp)
    have h0 : (hrow (x :: t))[0]? = some (u8 (x.getD 0 0)) := by
      simp only [hrow, List.flatMap_cons]
      rw [List.getElem?_append_left (by rw [u8s_length]; omega)]
      simp [u8s, List.getD, show 0 < x.length by omega]
    exact World.block_lt_of_cell? w _ (hr 0 _ h0)

set_option maxRecDepth 100000 in
set_option maxHeartbeats 1000000 in
theorem up_left (w : World) (g : Nat) (v : Value) (hs : List (List UInt8)) (s : Bool) (h : List UInt8) (i k size : Nat) (h2 : 2 ≤ size) (hsz : size ≤ 4611686018427387904) (hk : k = belowV size) (hik : i < k) (hw : WalkAt w g v hs s) (hh : h.length = 32)
    (R : List UInt8) (HS0 : List (List UInt8)) (SH0 : Bool) (hR : R.length = 32) (hH : ∀ x ∈ HS0, x.length = 32) (hHl : HS0.length ≤ hs.length) (hlen : hs.length ≤ 4398046510976)
    (ih : ∀ (W : World) (V : Value), WalkAt W g V hs s → Calls Try.prog 50 #[.pointer (some ⟨g, 0, none⟩), hv h, .int .i64 (i : Int), .int .i64 (k : Int)] W fun e w' => ∃ v', e = .returned (hv R) ∧ WalkAt w' g v' HS0 SH0 ∧ v'.ownBlock = V.ownBlock ∧ Turn (fun k => k = g) W w') :
    Calls Try.prog 50 #[.pointer (some ⟨g, 0, none⟩), hv h, .int .i64 (i : Int), .int .i64 (size : Int)] w fun e w' => ∃ v', e = .returned (hv (joinV R (nextV HS0 SH0).1)) ∧ WalkAt w' g v' (nextV HS0 SH0).2.1 (nextV HS0 SH0).2.2 ∧ v'.ownBlock = v.ownBlock ∧ Turn (fun k => k = g) w w' := by
  obtain ⟨X, hXl, HZ⟩ := ex28
  have HW := Lib.hid hw
  have hgl := (Array.getElem?_eq_some_iff.1 hw.at_).1
  have HLT : Hid (HS0 ≠ [] → ∀ q, v.ownBlock = some q → q < w.heap.size) := Lib.hid fun hne => hw.row.lt (fun e => hne (by rw [e] at hHl; exact List.eq_nil_of_length_eq_zero (by simpa using hHl)))
  clear hw
  have hbel := fun W => Below_any W size h2 hsz
  rw [← hk] at hbel
  have HBEL := Lib.hid hbel; clear hbel hk
  have q1 : ((size : Int) == 1) = false := by simp; omega
  have q2 : (size == 1) = false := by simp; omega
  have q3 : (i : Int) < k := by omega
  have hu28 := Try.underlying28
  have IH := Lib.hid ih; clear ih
  go_enter Try.func50, Try.ntmps50
  go_wp2_with (refine wpList_boxV rfl 28 _ rfl (u8s h) rfl ?_)
  intro g5 w1 e1 c1 t1 s1
  have l5 : w.heap.size ≤ g5 := by omega
  clear e1
  go_wp2_with (refine wpList_allocZ rfl 28 rfl X HZ.out ?_)
  intro g8 w2 e2 c2 t2 s2
  have l8 : g5 < g8 := by omega
  have D5 := Lib.hid (t2.obj c1 (fun e => e)); have D8 := Lib.hid c2; have PT := Lib.hid (((Turn.refl (fun k => k = g) w).pure t1).pure t2)
  have HW2 : Hid (WalkAt w2 g v hs s) := Lib.hid ⟨t2.obj (t1.obj HW.out.at_ (fun e => e)) (fun e => e), (HW.out.row.turn t1 (fun _ _ _ e => e)).turn t2 (fun _ _ _ e => e), HW.out.ne⟩
  clear e2 c1 c2 t1 t2 s1 s2
  go_wp2_with fail
  refine (HBEL.out _).mono ?_
  rintro e wx ⟨rfl, rfl⟩
  go_wp2_with (refine wpList_load_row rfl 28 _ rfl g5 rfl _ (u8s h).toArray _ _ D5.out Try.underlying28 rfl (info28_a hh) ?_)
  refine (IH.out _ v HW2.out).mono ?_
  rintro e w3 ⟨v3, rfl, h3, b3, t3⟩
  have HW3 := Lib.hid h3; have D5b := Lib.hid (t3.obj D5.out (by omega)); have D8b := Lib.hid (t3.obj D8.out (by omega)); have PT3 := Lib.hid (PT.out.trans t3 fun _ _ e => e)
  have HB3 := Lib.hid b3
  clear h3 t3 D5 D8 PT HW2 b3
  go_wp2_with (refine wpList_store_blk rfl 28 _ _ rfl g5 _ (u8s R) _ rfl rfl D5b.out (by rw [List.size_toArray, u8s_length, u8s_length, hh, hR]) (info28_l hR) (u8s_one _) ?_)
  intro w4 d4 t4 _
  have HW4 : Hid (WalkAt w4 g v3 HS0 SH0) := Lib.hid ⟨t4.obj HW3.out.at_ (by omega), HW3.out.row.turn t4 (fun hne q hq e => by rw [HB3.out] at hq; have := HLT.out hne q hq; omega), HW3.out.ne⟩
  have D5c := Lib.hid d4; have D8c := Lib.hid (t4.obj D8b.out (by omega)); have PT4 := Lib.hid (PT3.out.trans t4 fun q hq e => by omega : Turn (fun k => k = g) w w4)
  clear d4 t4 HW3 D5b D8b PT3
  go_wp2_with fail
  refine wp_region_held_drew (S := fun w' => w'.rangeAt g5 0 (u8s R)) (by kernel_rfl) (show w4.drew.rangeAt g5 0 (u8s R) from range_of_row D5c.out) (fun hHeld => ?_)
  have HS := Lib.hid hHeld
  have HW5 : Hid (WalkAt w4.drew g v3 HS0 SH0) := Lib.hid ⟨HW4.out.at_, HW4.out.row.turn ((Turn.refl (fun _ => False) w4).drew) (fun _ _ _ e => e), HW4.out.ne⟩
  have D8d := Lib.hid (show w4.drew.heap[g8]? = _ from D8c.out); have PT5 := Lib.hid PT4.out.drew
  clear hHeld HW4 D5c D8c PT4
  generalize w4.drew = w5 at *
  refine wpAnyH_take (i := 0) (v := hv R) rfl (by kernel_rfl) (by kernel_rfl) (by kernel_rfl) (fun _ _ _ h => h) (yieldsIf_load_mid (by rfl) 28 _ rfl g5 0 rfl (u8s R) _ (fun w h => h) hu28 rfl (info28_l hR)) HS.out ?_
  simp only [List.getElem_toArray, List.getElem_cons_zero, Act.put, List.setIfInBounds_toArray, List.set_cons_zero, List.set_cons_succ]
  refine wpAnyH_take (i := 1) (v := .pointer (some ⟨g, 0, none⟩)) rfl (by kernel_rfl) (by kernel_rfl) (by kernel_rfl) (fun _ _ _ h => h) (Or.inl ⟨by rfl, fun w hSw => by go_simp⟩) HS.out ?_
  simp only [List.getElem_toArray, List.getElem_cons_succ, List.getElem_cons_zero, Act.put, List.setIfInBounds_toArray, List.set_cons_zero, List.set_cons_succ]
  refine wpAnyH_step (i := 2) (by kernel_rfl) rfl fun K hK => ?_
  go_simp
  refine (next_any w5 g v3 HS0 SH0 HW5.out (by omega)).mono ?_
  rintro e w6 ⟨v6, rfl, h6, b6, t6⟩
  have HS6 := Lib.hid (t6.range HS.out (by omega)); have HW6 := Lib.hid h6; have D8e := Lib.hid (t6.obj D8d.out (by omega)); have PT6 := Lib.hid (PT5.out.trans t6 fun _ _ e => e)
  have HB6 := Lib.hid (b6.trans HB3.out)
  refine hK.out _ _ HS6.out ?_
  clear hK K h6 b6 t6 HS HW5 D8d PT5
  try simp only [List.getElem_toArray, List.getElem_cons_succ, List.getElem_cons_zero, Act.put, List.setIfInBounds_toArray, List.set_cons_zero, List.set_cons_succ]
  have hq := (nextV_ok HS0 SH0 hH).1
  have hql := nextV_len HS0 SH0
  obtain ⟨Q, hQ⟩ : ∃ Q, Q = nextV HS0 SH0 := ⟨_, rfl⟩
  rw [← hQ] at hq hql HW6 ⊢
  have HQ := Lib.hid hQ; clear hQ
  refine wpAnyH_step (i := 3) (by kernel_rfl) rfl fun K hK => ?_
  go_simp
  refine (Join_any _ R Q.1 hR hq).mono ?_
  rintro e w7 ⟨rfl, t7⟩
  have HS7 := Lib.hid (t7.range HS6.out (fun e => e)); have D8f := Lib.hid (t7.obj D8e.out (fun e => e)); have PT7 := Lib.hid (PT6.out.pure t7)
  have HW7 : Hid (WalkAt w7 g v6 Q.2.1 Q.2.2) := Lib.hid ⟨t7.obj HW6.out.at_ (fun e => e), HW6.out.row.turn t7 (fun _ _ _ e => e), HW6.out.ne⟩
  refine hK.out _ _ HS7.out ?_
  clear hK K t7 HS6 D8e PT6 HW6
  try simp only [List.getElem_toArray, List.getElem_cons_succ, List.getElem_cons_zero, Act.put, List.setIfInBounds_toArray, List.set_cons_zero, List.set_cons_succ]
  refine wpAnyH_seq [4] _ _ _ _ (by kernel_rfl) (by simp) ?_
  simp only [List.filterMap_cons, List.filterMap_nil, List.getElem?_toArray, List.getElem?_cons_zero, List.getElem?_cons_succ]
  refine wpSeqH_store_blk rfl 28 _ _ rfl g8 _ (u8s (joinV R Q.1)) _ rfl rfl D8f.out (size28 hXl (joinV_length _ _)) (info28_l (joinV_length _ _)) (u8s_one _) ?_
  intro w9 c9 t9 _
  refine ⟨t9.range HS7.out (by omega), wpSeqH_nil ?_⟩
  have hc9 := Lib.hid c9
  have HT9 : Hid (Turn (fun k => k = g) w w9) := Lib.hid (PT7.out.trans t9 fun i hi e => by omega)
  have HW9 : Hid (WalkAt w9 g v6 Q.2.1 Q.2.2) := Lib.hid ⟨t9.obj HW7.out.at_ (by omega), HW7.out.row.turn t9 (fun hne q hq e => by rw [HB6.out] at hq; have := HLT.out (fun e => hne (by rw [e] at hql; exact List.eq_nil_of_length_eq_zero (by simpa using hql))) q hq; omega), HW7.out.ne⟩
  clear c9 t9
  go_wp2
  exact bodyPost_ret (v := hv (joinV R Q.1)) (results_cell_row Try.results50 _ _ g8 _ (u8s (joinV R Q.1)).toArray _ _ rfl hc9.out Try.underlying28 rfl (info28_a (joinV_length _ _))) rfl ⟨_, by rw [← HQ.out], by rw [← HQ.out]; exact HW9.out, HB6.out, HT9.out⟩
set_option maxRecDepth 100000 in
set_option maxHeartbeats 1000000 in
theorem up_right (w : World) (g : Nat) (v : Value) (hs : List (List UInt8)) (s : Bool) (h : List UInt8) (i k size : Nat) (h2 : 2 ≤ size) (hsz : size ≤ 4611686018427387904) (hk : k = belowV size) (hik : ¬ i < k) (hi0 : i ≤ 4611686018427387904) (hw : WalkAt w g v hs s) (hh : h.length = 32)
    (R : List UInt8) (HS0 : List (List UInt8)) (SH0 : Bool) (hR : R.length = 32) (hH : ∀ x ∈ HS0, x.length = 32) (hHl : HS0.length ≤ hs.length) (hlen : hs.length ≤ 4398046510976)
    (ih : ∀ (W : World) (V : Value), WalkAt W g V hs s → Calls Try.prog 50 #[.pointer (some ⟨g, 0, none⟩), hv h, .int .i64 ((i - k : Nat) : Int), .int .i64 ((size - k : Nat) : Int)] W fun e w' => ∃ v', e = .returned (hv R) ∧ WalkAt w' g v' HS0 SH0 ∧ v'.ownBlock = V.ownBlock ∧ Turn (fun k => k = g) W w') :
    Calls Try.prog 50 #[.pointer (some ⟨g, 0, none⟩), hv h, .int .i64 (i : Int), .int .i64 (size : Int)] w fun e w' => ∃ v', e = .returned (hv (joinV (nextV HS0 SH0).1 R)) ∧ WalkAt w' g v' (nextV HS0 SH0).2.1 (nextV HS0 SH0).2.2 ∧ v'.ownBlock = v.ownBlock ∧ Turn (fun k => k = g) w w' := by
  obtain ⟨X, hXl, HZ⟩ := ex28
  have HW := Lib.hid hw
  have hgl := (Array.getElem?_eq_some_iff.1 hw.at_).1
  have HLT : Hid (HS0 ≠ [] → ∀ q, v.ownBlock = some q → q < w.heap.size) := Lib.hid fun hne => hw.row.lt (fun e => hne (by rw [e] at hHl; exact List.eq_nil_of_length_eq_zero (by simpa using hHl)))
  clear hw
  have hbel := fun W => Below_any W size h2 hsz
  rw [← hk] at hbel
  have hkl : k < size := by rw [hk]; exact belowV_lt h2
  obtain ⟨d, hd⟩ : ∃ d, d = i - k := ⟨_, rfl⟩
  obtain ⟨m, hm⟩ : ∃ m, m = size - k := ⟨_, rfl⟩
  rw [← hd, ← hm] at ih
  have i3 : IntKind.i64.wrap ((i : Int) - k) = (d : Int) := by rw [IntWalk.i64_in _ (by omega)]; omega
  have i4 : IntKind.i64.wrap ((size : Int) - k) = (m : Int) := by rw [IntWalk.i64_in _ (by omega)]; omega
  have HBEL := Lib.hid hbel; clear hbel hk hd hm hkl
  have q1 : ((size : Int) == 1) = false := by simp; omega
  have q2 : (size == 1) = false := by simp; omega
  have q3 : ¬ ((i : Int) < k) := by omega
  have hu28 := Try.underlying28
  have IH := Lib.hid ih; clear ih
  go_enter Try.func50, Try.ntmps50
  go_wp2_with (refine wpList_boxV rfl 28 _ rfl (u8s h) rfl ?_)
  intro g5 w1 e1 c1 t1 s1
  have l5 : w.heap.size ≤ g5 := by omega
  clear e1
  go_wp2_with (refine wpList_allocZ rfl 28 rfl X HZ.out ?_)
  intro g8 w2 e2 c2 t2 s2
  have l8 : g5 < g8 := by omega
  have D5 := Lib.hid (t2.obj c1 (fun e => e)); have D8 := Lib.hid c2; have PT := Lib.hid (((Turn.refl (fun k => k = g) w).pure t1).pure t2)
  have HW2 : Hid (WalkAt w2 g v hs s) := Lib.hid ⟨t2.obj (t1.obj HW.out.at_ (fun e => e)) (fun e => e), (HW.out.row.turn t1 (fun _ _ _ e => e)).turn t2 (fun _ _ _ e => e), HW.out.ne⟩
  clear e2 c1 c2 t1 t2 s1 s2
  go_wp2_with fail
  refine (HBEL.out _).mono ?_
  rintro e wx ⟨rfl, rfl⟩
  go_wp2_with (refine wpList_load_row rfl 28 _ rfl g5 rfl _ (u8s h).toArray _ _ D5.out Try.underlying28 rfl (info28_a hh) ?_)
  refine (IH.out _ v HW2.out).mono ?_
  rintro e w3 ⟨v3, rfl, h3, b3, t3⟩
  have HW3 := Lib.hid h3; have D5b := Lib.hid (t3.obj D5.out (by omega)); have D8b := Lib.hid (t3.obj D8.out (by omega)); have PT3 := Lib.hid (PT.out.trans t3 fun _ _ e => e)
  have HB3 := Lib.hid b3
  clear h3 t3 D5 D8 PT HW2 b3
  go_wp2_with (refine wpList_store_blk rfl 28 _ _ rfl g5 _ (u8s R) _ rfl rfl D5b.out (by rw [List.size_toArray, u8s_length, u8s_length, hh, hR]) (info28_l hR) (u8s_one _) ?_)
  intro w4 d4 t4 _
  have HW4 : Hid (WalkAt w4 g v3 HS0 SH0) := Lib.hid ⟨t4.obj HW3.out.at_ (by omega), HW3.out.row.turn t4 (fun hne q hq e => by rw [HB3.out] at hq; have := HLT.out hne q hq; omega), HW3.out.ne⟩
  have D5c := Lib.hid d4; have D8c := Lib.hid (t4.obj D8b.out (by omega)); have PT4 := Lib.hid (PT3.out.trans t4 fun q hq e => by omega : Turn (fun k => k = g) w w4)
  clear d4 t4 HW3 D5b D8b PT3
  go_wp2_with fail
  refine wp_region_held_drew (S := fun w' => w'.rangeAt g5 0 (u8s R)) (by kernel_rfl) (show w4.drew.rangeAt g5 0 (u8s R) from range_of_row D5c.out) (fun hHeld => ?_)
  have HS := Lib.hid hHeld
  have HW5 : Hid (WalkAt w4.drew g v3 HS0 SH0) := Lib.hid ⟨HW4.out.at_, HW4.out.row.turn ((Turn.refl (fun _ => False) w4).drew) (fun _ _ _ e => e), HW4.out.ne⟩
  have D8d := Lib.hid (show w4.drew.heap[g8]? = _ from D8c.out); have PT5 := Lib.hid PT4.out.drew
  clear hHeld HW4 D5c D8c PT4
  generalize w4.drew = w5 at *
  refine wpAnyH_take (i := 0) (v := .pointer (some ⟨g, 0, none⟩)) rfl (by kernel_rfl) (by kernel_rfl) (by kernel_rfl) (fun _ _ _ h => h) (Or.inl ⟨by rfl, fun w hSw => by go_simp⟩) HS.out ?_
  simp only [List.getElem_toArray, List.getElem_cons_zero, Act.put, List.setIfInBounds_toArray, List.set_cons_zero, List.set_cons_succ]
  refine wpAnyH_take (i := 2) (v := hv R) rfl (by kernel_rfl) (by kernel_rfl) (by kernel_rfl) (fun _ _ _ h => h) (yieldsIf_load_mid (by rfl) 28 _ rfl g5 0 rfl (u8s R) _ (fun w h => h) hu28 rfl (info28_l hR)) HS.out ?_
  simp only [List.getElem_toArray, List.getElem_cons_succ, List.getElem_cons_zero, Act.put, List.setIfInBounds_toArray, List.set_cons_zero, List.set_cons_succ]
  refine wpAnyH_step (i := 1) (by kernel_rfl) rfl fun K hK => ?_
  go_simp
  refine (next_any w5 g v3 HS0 SH0 HW5.out (by omega)).mono ?_
  rintro e w6 ⟨v6, rfl, h6, b6, t6⟩
  have HS6 := Lib.hid (t6.range HS.out (by omega)); have HW6 := Lib.hid h6; have D8e := Lib.hid (t6.obj D8d.out (by omega)); have PT6 := Lib.hid (PT5.out.trans t6 fun _ _ e => e)
  have HB6 := Lib.hid (b6.trans HB3.out)
  refine hK.out _ _ HS6.out ?_
  clear hK K h6 b6 t6 HS HW5 D8d PT5
  try simp only [List.getElem_toArray, List.getElem_cons_succ, List.getElem_cons_zero, Act.put, List.setIfInBounds_toArray, List.set_cons_zero, List.set_cons_succ]
  have hq := (nextV_ok HS0 SH0 hH).1
  have hql := nextV_len HS0 SH0
  obtain ⟨Q, hQ⟩ : ∃ Q, Q = nextV HS0 SH0 := ⟨_, rfl⟩
  rw [← hQ] at hq hql HW6 ⊢
  have HQ := Lib.hid hQ; clear hQ
  refine wpAnyH_step (i := 3) (by kernel_rfl) rfl fun K hK => ?_
  go_simp
  refine (Join_any _ Q.1 R hq hR).mono ?_
  rintro e w7 ⟨rfl, t7⟩
  have HS7 := Lib.hid (t7.range HS6.out (fun e => e)); have D8f := Lib.hid (t7.obj D8e.out (fun e => e)); have PT7 := Lib.hid (PT6.out.pure t7)
  have HW7 : Hid (WalkAt w7 g v6 Q.2.1 Q.2.2) := Lib.hid ⟨t7.obj HW6.out.at_ (fun e => e), HW6.out.row.turn t7 (fun _ _ _ e => e), HW6.out.ne⟩
  refine hK.out _ _ HS7.out ?_
  clear hK K t7 HS6 D8e PT6 HW6
  try simp only [List.getElem_toArray, List.getElem_cons_succ, List.getElem_cons_zero, Act.put, List.setIfInBounds_toArray, List.set_cons_zero, List.set_cons_succ]
  refine wpAnyH_seq [4] _ _ _ _ (by kernel_rfl) (by simp) ?_
  simp only [List.filterMap_cons, List.filterMap_nil, List.getElem?_toArray, List.getElem?_cons_zero, List.getElem?_cons_succ]
  refine wpSeqH_store_blk rfl 28 _ _ rfl g8 _ (u8s (joinV Q.1 R)) _ rfl rfl D8f.out (size28 hXl (joinV_length _ _)) (info28_l (joinV_length _ _)) (u8s_one _) ?_
  intro w9 c9 t9 _
  refine ⟨t9.range HS7.out (by omega), wpSeqH_nil ?_⟩
  have hc9 := Lib.hid c9
  have HT9 : Hid (Turn (fun k => k = g) w w9) := Lib.hid (PT7.out.trans t9 fun i hi e => by omega)
  have HW9 : Hid (WalkAt w9 g v6 Q.2.1 Q.2.2) := Lib.hid ⟨t9.obj HW7.out.at_ (by omega), HW7.out.row.turn t9 (fun hne q hq e => by rw [HB6.out] at hq; have := HLT.out (fun e => hne (by rw [e] at hql; exact List.eq_nil_of_length_eq_zero (by simpa using hql))) q hq; omega), HW7.out.ne⟩
  clear c9 t9
  go_wp2
  exact bodyPost_ret (v := hv (joinV Q.1 R)) (results_cell_row Try.results50 _ _ g8 _ (u8s (joinV Q.1 R)).toArray _ _ rfl hc9.out Try.underlying28 rfl (info28_a (joinV_length _ _))) rfl ⟨_, by rw [← HQ.out], by rw [← HQ.out]; exact HW9.out, HB6.out, HT9.out⟩

theorem up_any : ∀ (size : Nat), 1 ≤ size → size ≤ 4611686018427387904 → ∀ (w : World) (g : Nat) (v : Value) (hs : List (List UInt8)) (s : Bool) (h : List UInt8) (i : Nat), WalkAt w g v hs s → h.length = 32 → i ≤ 4611686018427387904 → hs.length ≤ 4398046510976 →
    Calls Try.prog 50 #[.pointer (some ⟨g, 0, none⟩), hv h, .int .i64 (i : Int), .int .i64 (size : Int)] w fun e w' => ∃ v', e = .returned (hv (upV size hs s h i).1) ∧ WalkAt w' g v' (upV size hs s h i).2.1 (upV size hs s h i).2.2 ∧ v'.ownBlock = v.ownBlock ∧ Turn (fun k => k = g) w w' := by
  intro size
  induction size using Nat.strongRecOn with
  | _ size ih =>
    intro h1 hsz w g v hs s h i hw hh hi0 hlen
    have hx : ∀ x ∈ hs, x.length = 32 := by obtain ⟨_, _, _, _, _, h4⟩ := hw.row; exact h4
    by_cases h2 : 2 ≤ size
    · have hk1 := belowV_lt h2
      have hk0 := belowV_pos size
      by_cases hi : i < belowV size
      · obtain ⟨a1, a2, a3⟩ := upV_ok (belowV size) hs s h i hh hx
        rw [upV_left hs s h h2 hi]
        exact up_left w g v hs s h i (belowV size) size h2 hsz rfl hi hw hh _ _ _ a1 a2 a3 hlen fun W V hW => ih (belowV size) hk1 hk0 (by omega) W g V hs s h i hW hh hi0 hlen
      · obtain ⟨a1, a2, a3⟩ := upV_ok (size - belowV size) hs s h (i - belowV size) hh hx
        rw [upV_right hs s h h2 hi]
        exact up_right w g v hs s h i (belowV size) size h2 hsz rfl hi hi0 hw hh _ _ _ a1 a2 a3 hlen fun W V hW => ih (size - belowV size) (by omega) (by omega) (by omega) W g V hs s h (i - belowV size) hW hh (by omega) hlen
    · obtain rfl : size = 1 := by omega
      rw [upV_one 1 hs s h i h2]
      exact up_one w g v hs s h i hw hh
end Go.Proofs.Ytjbigghjbcjelaa
