/- Chapter 10: the root that a path makes (the reference's climb). -/
import Derived.Test.YtjbigghjbcjelaaHash
namespace Go.Proofs.Ytjbigghjbcjelaa
open Go.RowKit

/-- The root that a path makes, from a leaf's; is it as long as it must be? -/
def climbV (size : Nat) (p : List (List UInt8)) (h : List UInt8) (i : Nat) : List UInt8 × Bool :=
  if _h : 2 ≤ size then
    if p = [] then (h, false)
    else if i < belowV size then
      (joinV (climbV (belowV size) p.dropLast h i).1 (p.getLastD []), (climbV (belowV size) p.dropLast h i).2)
    else
      (joinV (p.getLastD []) (climbV (size - belowV size) p.dropLast h (i - belowV size)).1, (climbV (size - belowV size) p.dropLast h (i - belowV size)).2)
  else (h, p.isEmpty)
termination_by size
decreasing_by
  all_goals first | exact belowV_lt _h | (have := belowV_pos size; omega)
theorem climbV_one (size : Nat) (p : List (List UInt8)) (h : List UInt8) (i : Nat) (h1 : ¬ 2 ≤ size) : climbV size p h i = (h, p.isEmpty) := by rw [climbV, dif_neg h1]
theorem climbV_nil {size : Nat} (h : List UInt8) (i : Nat) (h2 : 2 ≤ size) : climbV size [] h i = (h, false) := by rw [climbV, dif_pos h2, if_pos rfl]
theorem climbV_left {size : Nat} (a : List (List UInt8)) (x h : List UInt8) {i : Nat} (h2 : 2 ≤ size) (hi : i < belowV size) : climbV size (a ++ [x]) h i = (joinV (climbV (belowV size) a h i).1 x, (climbV (belowV size) a h i).2) := by
  rw [climbV, dif_pos h2, if_neg (by simp), if_pos hi]
  simp
theorem climbV_right {size : Nat} (a : List (List UInt8)) (x h : List UInt8) {i : Nat} (h2 : 2 ≤ size) (hi : ¬ i < belowV size) : climbV size (a ++ [x]) h i = (joinV x (climbV (size - belowV size) a h (i - belowV size)).1, (climbV (size - belowV size) a h (i - belowV size)).2) := by
  rw [climbV, dif_pos h2, if_neg (by simp), if_neg hi]
  simp
theorem climbV_len : ∀ (size : Nat) (p : List (List UInt8)) (h : List UInt8) (i : Nat), h.length = 32 → (climbV size p h i).1.length = 32 := by
  intro size
  intro p h i hh
  by_cases h2 : 2 ≤ size
  · rcases List.eq_nil_or_concat p with rfl | ⟨a, x, rfl⟩
    · rw [climbV_nil h i h2]; exact hh
    · rw [List.concat_eq_append]
      by_cases hi : i < belowV size
      · rw [climbV_left a x h h2 hi]; exact joinV_length _ _
      · rw [climbV_right a x h h2 hi]; exact joinV_length _ _
  · rw [climbV_one size p h i h2]; exact hh
/-- A row without its last hash. -/
theorem Hashs.front {w : World} {ao : Option Addr} {n c : Nat} {a : List (List UInt8)} {x : List UInt8} (h : Hashs w (.slice ao n c) (a ++ [x])) :
    ∃ b o, ao = some ⟨b, o, none⟩ ∧ n = a.length + 1 ∧ a.length + 1 ≤ c ∧ w.rangeAt b (o + a.length * 32) (u8s x) ∧ x.length = 32 ∧ Hashs w (.slice (some ⟨b, o, none⟩) a.length c) a := by
  obtain ⟨ao', cap, he, hc, h3, h4⟩ := h
  simp only [Value.slice.injEq] at he
  obtain ⟨rfl, rfl, rfl⟩ := he
  obtain ⟨b, o, rfl, hr⟩ := h3 (by simp)
  have hl : (a ++ [x]).length = a.length + 1 := by simp
  rw [hl] at hc
  exact ⟨b, o, rfl, hl, hc, hrow_at (a ++ [x]) o a.length x (by simp) hr h4, h4 x (by simp), ⟨_, c, rfl, by omega, fun _ => ⟨b, o, rfl, hrow_left hr⟩, fun y hy => h4 y (by simp [hy])⟩⟩

set_option maxHeartbeats 1000000 in
theorem climb_one (w : World) (v : Value) (p : List (List UInt8)) (h : List UInt8) (i : Nat) (hp : Hashs w v p) (hh : h.length = 32) :
    Calls Try.prog 52 #[hv h, .int .i64 (i : Int), .int .i64 1, v] w fun e w' => e = .returned (.tuple #[hv h, .bool p.isEmpty]) ∧ Pure w w' := by
  obtain ⟨X, hXl, HZ⟩ := ex28
  obtain ⟨ao, c, rfl, _, _, _⟩ := hp
  obtain ⟨n, hn⟩ : ∃ n, n = p.length := ⟨_, rfl⟩
  have hq : ((n : Int) == 0) = p.isEmpty := by
    cases p with
    | nil => simp at hn; rw [hn]; rfl
    | cons a t => simp at hn; simp; omega
  have hq2 : (n == 0) = p.isEmpty := by rw [← hq]; cases n <;> rfl
  rw [← hn]
  clear hn
  obtain ⟨B, hB⟩ : ∃ B, B = p.isEmpty := ⟨_, rfl⟩
  rw [← hB] at hq hq2 ⊢
  clear hB
  go_enter Try.func52, Try.ntmps52
  go_wp2_with (refine wpList_boxV rfl 28 _ rfl (u8s h) rfl ?_)
  intro g4 w1 e1 c1 t1 s1
  have l4 : w.heap.size ≤ g4 := by omega
  clear e1
  go_wp2_with (refine wpList_allocZ rfl 28 rfl X HZ.out ?_)
  intro g8 w2 e2 c2 t2 s2
  have l8 : w.heap.size ≤ g8 := by omega
  have lne : g4 ≠ g8 := by omega
  have D4 := Lib.hid (t2.obj c1 (fun e => e)); have D8 := Lib.hid c2; have PT := Lib.hid (t1.pure t2)
  clear e2 c1 c2 t1 t2 s1 s2
  go_wp2_with (first | (refine wpList_load_row rfl 28 _ rfl g4 rfl _ (u8s h).toArray _ _ D4.out Try.underlying28 rfl (info28_a hh) ?_) | (refine wpList_store_blk rfl 28 _ _ rfl g8 _ (u8s h) _ rfl rfl D8.out (size28 hXl hh) (info28_l hh) (u8s_one _) ?_))
  intro w9 c9 t9 _
  have hc9 := Lib.hid c9
  have PT9 := Lib.hid (PT.out.trans t9 fun q hq e => by omega : Pure w w9)
  clear c9 t9
  go_wp2
  exact bodyPost_ret (v := .tuple #[hv h, .bool B]) (results_cell2 Try.results52 _ _ g8 _ (u8s h).toArray _ _ rfl hc9.out Try.underlying28 rfl (info28_a hh)) rfl ⟨rfl, PT9.out⟩

set_option maxHeartbeats 1000000 in
theorem climb_nil (w : World) (v : Value) (h : List UInt8) (i size : Nat) (h2 : 2 ≤ size) (hp : Hashs w v []) (hh : h.length = 32) :
    Calls Try.prog 52 #[hv h, .int .i64 (i : Int), .int .i64 (size : Int), v] w fun e w' => e = .returned (.tuple #[hv h, .bool false]) ∧ Pure w w' := by
  obtain ⟨X, hXl, HZ⟩ := ex28
  obtain ⟨ao, c, rfl, _, _, _⟩ := hp
  have q1 : ((size : Int) == 1) = false := by simp; omega
  have q2 : (size == 1) = false := by simp; omega
  go_enter Try.func52, Try.ntmps52
  go_wp2_with (refine wpList_boxV rfl 28 _ rfl (u8s h) rfl ?_)
  intro g4 w1 e1 c1 t1 s1
  have l4 : w.heap.size ≤ g4 := by omega
  clear e1
  go_wp2_with (refine wpList_allocZ rfl 28 rfl X HZ.out ?_)
  intro g8 w2 e2 c2 t2 s2
  have l8 : w.heap.size ≤ g8 := by omega
  have lne : g4 ≠ g8 := by omega
  have D4 := Lib.hid (t2.obj c1 (fun e => e)); have D8 := Lib.hid c2; have PT := Lib.hid (t1.pure t2)
  clear e2 c1 c2 t1 t2 s1 s2
  go_wp2_with (first | (refine wpList_load_row rfl 28 _ rfl g4 rfl _ (u8s h).toArray _ _ D4.out Try.underlying28 rfl (info28_a hh) ?_) | (refine wpList_store_blk rfl 28 _ _ rfl g8 _ (u8s h) _ rfl rfl D8.out (size28 hXl hh) (info28_l hh) (u8s_one _) ?_))
  intro w9 c9 t9 _
  have hc9 := Lib.hid c9
  have PT9 := Lib.hid (PT.out.trans t9 fun q hq e => by omega : Pure w w9)
  clear c9 t9
  go_wp2
  exact bodyPost_ret (v := .tuple #[hv h, .bool false]) (results_cell2 Try.results52 _ _ g8 _ (u8s h).toArray _ _ rfl hc9.out Try.underlying28 rfl (info28_a hh)) rfl ⟨rfl, PT9.out⟩

set_option maxRecDepth 100000 in
set_option maxHeartbeats 2000000 in
theorem climb_left (w : World) (ao : Option Addr) (n c : Nat) (a : List (List UInt8)) (x h : List UInt8) (i k size : Nat) (h2 : 2 ≤ size) (hsz : size ≤ 4611686018427387904) (hk : k = belowV size) (hik : i < k) (hp : Hashs w (.slice ao n c) (a ++ [x])) (hal : a.length ≤ 4398046510976) (hh : h.length = 32)
    (R : List UInt8) (OK : Bool) (hR : R.length = 32)
    (ih : ∀ (W : World) (V : Value), Hashs W V a → Calls Try.prog 52 #[hv h, .int .i64 (i : Int), .int .i64 (k : Int), V] W fun e w' => e = .returned (.tuple #[hv R, .bool OK]) ∧ Pure W w') :
    Calls Try.prog 52 #[hv h, .int .i64 (i : Int), .int .i64 (size : Int), .slice ao n c] w fun e w' => e = .returned (.tuple #[hv (joinV R x), .bool OK]) ∧ Pure w w' := by
  obtain ⟨X, hXl, HZ⟩ := ex28
  obtain ⟨b, o, rfl, hn, hnc, hrx, hx, hfr⟩ := hp.front
  obtain ⟨m, hm⟩ : ∃ m, m = a.length := ⟨_, rfl⟩
  rw [← hm] at hn hnc hrx hfr hal
  have hklt : k < size := by rw [hk]; exact belowV_lt h2
  have hbel := fun W => cut_any W size h2 hsz
  rw [← hk] at hbel
  have HBEL := Lib.hid hbel; clear hbel hk
  have IH : Hid (∀ W : World, Hashs W (.slice (some ⟨b, o, none⟩) m c) a → _) := Lib.hid fun W hW => ih W _ hW
  clear ih
  have HRX := Lib.hid hrx; have HFR := Lib.hid hfr
  have HLT : Hid (a ≠ [] → ∀ q, (Value.slice (some ⟨b, o, none⟩) m c).ownBlock = some q → q < w.heap.size) := Lib.hid fun hne => hfr.lt hne
  clear hrx hfr hp hm
  have q1 : ((size : Int) == 1) = false := by simp; omega
  have q2 : (size == 1) = false := by simp; omega
  have q3 : (i : Int) < k := by omega
  have q4 : ((n : Int) == 0) = false := by simp; omega
  have q5 : (n == 0) = false := by simp; omega
  have i2 : IntKind.i64.wrap ((n : Int) - 1) = (m : Int) := by rw [IntWalk.i64_in _ (by omega)]; omega
  have q6 : (m : Int) < n := by omega
  have q7 : (0 : Int) ≤ m := by omega
  have q8 : (m : Int) ≤ c := by omega
  have q9 : ¬ c = 0 := by omega
  have HN := Lib.hid hn; clear hn
  have hu28 := Try.underlying28
  go_enter Try.func52, Try.ntmps52
  go_wp2_with (refine wpList_boxV rfl 28 _ rfl (u8s h) rfl ?_)
  intro g4 w1 e1 c1 t1 s1
  have l4 : w.heap.size ≤ g4 := by omega
  clear e1
  go_wp2_with (refine wpList_allocZ rfl 28 rfl X HZ.out ?_)
  intro g8 w2 e2 c2 t2 s2
  have l8 : g4 < g8 := by omega
  have D4 := Lib.hid (t2.obj c1 (fun e => e)); have D8 := Lib.hid c2; have PT := Lib.hid (t1.pure t2)
  have HR2 := Lib.hid (PT.out.range HRX.out (fun e => e))
  clear e2 c1 c2 t1 t2 s1
  go_wp2_with fail
  refine (HBEL.out _).mono ?_
  rintro e wx ⟨rfl, rfl⟩
  go_wp2_with (first | (refine wpList_load_mid rfl 28 _ rfl b (o + m * 32) rfl (u8s x) _ HR2.out hu28 rfl (info28_l hx) ?_) | (refine wpList_allocZ rfl 28 rfl X HZ.out ?_))
  intro g11 w3 e3 c3 t3 s3
  have l11 : g8 < g11 := by omega
  clear e3
  go_wp2_with (refine wpList_store_blk rfl 28 _ _ rfl g11 _ (u8s x) _ rfl rfl c3 (size28 hXl hx) (info28_l hx) (u8s_one _) ?_)
  intro w4 c4 t4 s4
  have D4b := Lib.hid (t4.obj (t3.obj D4.out (fun e => e)) (by omega)); have D8b := Lib.hid (t4.obj (t3.obj D8.out (fun e => e)) (by omega))
  have PT4 := Lib.hid ((PT.out.pure t3).trans t4 fun q hq e => by omega : Pure w w4)
  have D11b := Lib.hid c4
  have l11b : g11 < w4.heap.size := by omega
  clear c3 t3 s3 c4 t4 s4 s2 D4 D8 PT HR2
  go_wp2_with fail
  refine wp_region_cut1 (R := fun g w' => Pure w4.drew w' ∧ w'.heap[g8]? = some (.cells X.toArray 28 (0, 0)) ∧ w'.heap[g11]? = some (.cells (u8s x).toArray 28 (0, 0)) ∧ w'.heap[g]? = some (.cells (u8s R).toArray 28 (0, 0)) ∧ w4.drew.heap.size ≤ g) ?_
  apply Exists.intro
  constructor
  · refine wp_region_held_drew (S := fun w' => w'.rangeAt g4 0 (u8s h)) (by kernel_rfl) (show w4.drew.rangeAt g4 0 (u8s h) from range_of_row D4b.out) (fun _ => ?_)
    have PB := Lib.hid (Turn.refl (fun _ => False) w4.drew)
    have HP := Lib.hid (HFR.out.turn PT4.out.drew (fun _ _ _ e => e))
    have D4 := Lib.hid (show w4.drew.heap[g4]? = _ from D4b.out); have D8 := Lib.hid (show w4.drew.heap[g8]? = _ from D8b.out); have D11 := Lib.hid (show w4.drew.heap[g11]? = _ from D11b.out)
    have hWB : w.heap.size ≤ w4.drew.heap.size := PT4.out.drew.size
    have l11c : g11 < w4.drew.heap.size := l11b
    refine wpAnyH_take (i := 0) (v := hv h) rfl (by kernel_rfl) (by kernel_rfl) (by kernel_rfl) (fun _ _ _ h => nomatch h.1) (yieldsIf_load_mid (by rfl) 28 _ rfl g4 0 rfl (u8s h) _ (fun w h => h) hu28 rfl (info28_l hh)) (range_of_row D4.out) ?_
    simp only [List.getElem_toArray, List.getElem_cons_zero, Act.put, List.setIfInBounds_toArray, List.set_cons_zero, List.set_cons_succ]
    refine wpAnyH_take (i := 1) (v := .int .i64 (i : Int)) rfl (by kernel_rfl) (by kernel_rfl) (by kernel_rfl) (fun _ _ _ h => nomatch h.1) (Or.inl ⟨by rfl, fun w hSw => by go_simp⟩) (range_of_row D4.out) ?_
    simp only [List.getElem_toArray, List.getElem_cons_succ, List.getElem_cons_zero, Act.put, List.setIfInBounds_toArray, List.set_cons_zero, List.set_cons_succ]
    refine wpAnyH_take (i := 2) (v := .int .i64 (k : Int)) rfl (by kernel_rfl) (by kernel_rfl) (by kernel_rfl) (fun _ _ _ h => nomatch h.1) (Or.inl ⟨by rfl, fun w hSw => by go_simp⟩) (range_of_row D4.out) ?_
    simp only [List.getElem_toArray, List.getElem_cons_succ, List.getElem_cons_zero, Act.put, List.setIfInBounds_toArray, List.set_cons_zero, List.set_cons_succ]
    refine wpAnyH_take (i := 3) (v := .slice (some ⟨b, o, none⟩) n c) rfl (by kernel_rfl) (by kernel_rfl) (by kernel_rfl) (fun _ _ _ h => nomatch h.1) (Or.inl ⟨by rfl, fun w hSw => by go_simp⟩) (range_of_row D4.out) ?_
    simp only [List.getElem_toArray, List.getElem_cons_succ, List.getElem_cons_zero, Act.put, List.setIfInBounds_toArray, List.set_cons_zero, List.set_cons_succ]
    refine wpAnyH_take (i := 4) (v := .slice (some ⟨b, o, none⟩) n c) rfl (by kernel_rfl) (by kernel_rfl) (by kernel_rfl) (fun _ _ _ h => nomatch h.1) (Or.inl ⟨by rfl, fun w hSw => by go_simp⟩) (range_of_row D4.out) ?_
    simp only [List.getElem_toArray, List.getElem_cons_succ, List.getElem_cons_zero, Act.put, List.setIfInBounds_toArray, List.set_cons_zero, List.set_cons_succ]
    refine wpAnyH_take (i := 5) (v := .int .i64 (n : Int)) rfl (by kernel_rfl) (by kernel_rfl) (by kernel_rfl) (fun _ _ _ h => nomatch h.1) (Or.inl ⟨by rfl, fun w hSw => by go_simp⟩) (range_of_row D4.out) ?_
    simp only [List.getElem_toArray, List.getElem_cons_succ, List.getElem_cons_zero, Act.put, List.setIfInBounds_toArray, List.set_cons_zero, List.set_cons_succ]
    refine wpAnyH_take (i := 6) (v := .int .i64 (m : Int)) rfl (by kernel_rfl) (by kernel_rfl) (by kernel_rfl) (fun _ _ _ h => nomatch h.1) (Or.inl ⟨by rfl, fun w hSw => by go_simp⟩) (range_of_row D4.out) ?_
    simp only [List.getElem_toArray, List.getElem_cons_succ, List.getElem_cons_zero, Act.put, List.setIfInBounds_toArray, List.set_cons_zero, List.set_cons_succ]
    refine wpAnyH_take (i := 7) (v := .slice (some ⟨b, o, none⟩) m c) rfl (by kernel_rfl) (by kernel_rfl) (by kernel_rfl) (fun _ _ _ h => nomatch h.1) (Or.inl ⟨by rfl, fun w hSw => by go_simp⟩) (range_of_row D4.out) ?_
    simp only [List.getElem_toArray, List.getElem_cons_succ, List.getElem_cons_zero, Act.put, List.setIfInBounds_toArray, List.set_cons_zero, List.set_cons_succ]
    refine wpAnyH_ready (rs := [8, 12]) (by kernel_rfl) (by simp) (AllReadyH.cons rfl (fun K hK => ?_) (AllReadyH.cons rfl (fun K hK => ?_) AllReadyH.nil))
    · go_simp
      refine (IH.out _ HP.out).mono ?_
      rintro e w9 ⟨rfl, t9⟩
      have PB9 : Hid (Pure w4.drew w9) := Lib.hid (PB.out.pure t9)
      have HP9 : Hid (Hashs w9 (.slice (some ⟨b, o, none⟩) m c) a) := Lib.hid (HP.out.pure t9)
      have D49 : Hid (w9.heap[g4]? = some (.cells (u8s h).toArray 28 (0, 0))) := Lib.hid (t9.obj D4.out (fun e => e))
      have D89 : Hid (w9.heap[g8]? = some (.cells X.toArray 28 (0, 0))) := Lib.hid (t9.obj D8.out (fun e => e))
      have D119 : Hid (w9.heap[g11]? = some (.cells (u8s x).toArray 28 (0, 0))) := Lib.hid (t9.obj D11.out (fun e => e))
      clear PB HP D4 D8 D11
      have PB := Lib.hid PB9.out
      have HP := Lib.hid HP9.out
      have D4 := Lib.hid D49.out
      have D8 := Lib.hid D89.out
      have D11 := Lib.hid D119.out
      clear PB9 HP9 D49 D89 D119
      refine hK.out _ _ (range_of_row D4.out) (fun _ => ?_)
      clear hK K t9
      try simp only [List.getElem_toArray, List.getElem_cons_succ, List.getElem_cons_zero, Act.put, List.setIfInBounds_toArray, List.set_cons_zero, List.set_cons_succ]
      refine wpAnyH_take (i := 9) (v := .tuple #[hv R, .bool OK]) rfl (by kernel_rfl) (by kernel_rfl) (by kernel_rfl) (fun _ _ _ h => nomatch h.1) (Or.inl ⟨by rfl, fun w hSw => by go_simp⟩) (range_of_row D4.out) ?_
      simp only [List.getElem_toArray, List.getElem_cons_succ, List.getElem_cons_zero, Act.put, List.setIfInBounds_toArray, List.set_cons_zero, List.set_cons_succ]
      refine wpAnyH_take (i := 10) (v := hv R) rfl (by kernel_rfl) (by kernel_rfl) (by kernel_rfl) (fun _ _ _ h => nomatch h.1) (Or.inl ⟨by rfl, fun w hSw => by go_simp⟩) (range_of_row D4.out) ?_
      simp only [List.getElem_toArray, List.getElem_cons_succ, List.getElem_cons_zero, Act.put, List.setIfInBounds_toArray, List.set_cons_zero, List.set_cons_succ]
      refine wpAnyH_take (i := 11) (v := .bool OK) rfl (by kernel_rfl) (by kernel_rfl) (by kernel_rfl) (fun _ _ _ h => nomatch h.1) (Or.inl ⟨by rfl, fun w hSw => by go_simp⟩) (range_of_row D4.out) ?_
      simp only [List.getElem_toArray, List.getElem_cons_succ, List.getElem_cons_zero, Act.put, List.setIfInBounds_toArray, List.set_cons_zero, List.set_cons_succ]
      refine wpAnyH_step (i := 12) (by kernel_rfl) rfl fun K hK => ?_
      refine step_allocZ rfl 28 rfl X HZ.out ?_
      intro g12 w9 e9 c9 t9 s9
      have PB9 : Hid (Pure w4.drew w9) := Lib.hid (PB.out.pure t9)
      have HP9 : Hid (Hashs w9 (.slice (some ⟨b, o, none⟩) m c) a) := Lib.hid (HP.out.pure t9)
      have D49 : Hid (w9.heap[g4]? = some (.cells (u8s h).toArray 28 (0, 0))) := Lib.hid (t9.obj D4.out (fun e => e))
      have D89 : Hid (w9.heap[g8]? = some (.cells X.toArray 28 (0, 0))) := Lib.hid (t9.obj D8.out (fun e => e))
      have D119 : Hid (w9.heap[g11]? = some (.cells (u8s x).toArray 28 (0, 0))) := Lib.hid (t9.obj D11.out (fun e => e))
      have Cg12 := Lib.hid c9
      have Lg12 := Lib.hid e9
      have Mg12 : w4.drew.heap.size ≤ g12 := by have := PB.out.size; omega
      clear PB HP D4 D8 D11
      have PB := Lib.hid PB9.out
      have HP := Lib.hid HP9.out
      have D4 := Lib.hid D49.out
      have D8 := Lib.hid D89.out
      have D11 := Lib.hid D119.out
      clear PB9 HP9 D49 D89 D119
      refine hK.out _ _ (range_of_row D4.out) ?_
      clear hK K t9 c9 e9 s9 Lg12
      try simp only [List.getElem_toArray, List.getElem_cons_succ, List.getElem_cons_zero, Act.put, List.setIfInBounds_toArray, List.set_cons_zero, List.set_cons_succ]
      refine wpAnyH_step (i := 13) (by kernel_rfl) rfl fun K hK => ?_
      refine step_store_blk rfl 28 _ _ rfl g12 _ (u8s R) _ rfl rfl Cg12.out (size28 hXl hR) (info28_l hR) (u8s_one _) ?_
      intro w9 c9 t9 s9
      have PB9 : Hid (Pure w4.drew w9) := Lib.hid (PB.out.trans t9 (fun q hq e => by omega))
      have HP9 : Hid (Hashs w9 (.slice (some ⟨b, o, none⟩) m c) a) := Lib.hid (HP.out.turn t9 (fun hne q hq e => by have := HLT.out hne q hq; omega))
      have D49 : Hid (w9.heap[g4]? = some (.cells (u8s h).toArray 28 (0, 0))) := Lib.hid (t9.obj D4.out (by omega))
      have D89 : Hid (w9.heap[g8]? = some (.cells X.toArray 28 (0, 0))) := Lib.hid (t9.obj D8.out (by omega))
      have D119 : Hid (w9.heap[g11]? = some (.cells (u8s x).toArray 28 (0, 0))) := Lib.hid (t9.obj D11.out (by omega))
      have Cg129 := Lib.hid c9
      clear PB HP D4 D8 D11 Cg12
      have PB := Lib.hid PB9.out
      have HP := Lib.hid HP9.out
      have D4 := Lib.hid D49.out
      have D8 := Lib.hid D89.out
      have D11 := Lib.hid D119.out
      have Cg12 := Lib.hid Cg129.out
      clear PB9 HP9 D49 D89 D119 Cg129
      refine hK.out _ _ (range_of_row D4.out) ?_
      clear hK K t9 c9 s9
      try simp only [List.getElem_toArray, List.getElem_cons_succ, List.getElem_cons_zero, Act.put]
      refine wpAnyH_take (i := 14) (v := .bool OK) rfl (by kernel_rfl) (by kernel_rfl) (by kernel_rfl) (fun _ _ _ h => nomatch h.1) (Or.inl ⟨by rfl, fun w hSw => by go_simp⟩) (range_of_row D4.out) ?_
      simp only [List.getElem_toArray, List.getElem_cons_succ, List.getElem_cons_zero, Act.put, List.setIfInBounds_toArray, List.set_cons_zero, List.set_cons_succ]
      refine wpAnyH_done (by kernel_rfl) ?_ _
      exact ⟨rfl, g12, rfl, PB.out, D8.out, D11.out, Cg12.out, Mg12⟩
    · refine step_allocZ rfl 28 rfl X HZ.out ?_
      intro g12 w9 e9 c9 t9 s9
      have PB9 : Hid (Pure w4.drew w9) := Lib.hid (PB.out.pure t9)
      have HP9 : Hid (Hashs w9 (.slice (some ⟨b, o, none⟩) m c) a) := Lib.hid (HP.out.pure t9)
      have D49 : Hid (w9.heap[g4]? = some (.cells (u8s h).toArray 28 (0, 0))) := Lib.hid (t9.obj D4.out (fun e => e))
      have D89 : Hid (w9.heap[g8]? = some (.cells X.toArray 28 (0, 0))) := Lib.hid (t9.obj D8.out (fun e => e))
      have D119 : Hid (w9.heap[g11]? = some (.cells (u8s x).toArray 28 (0, 0))) := Lib.hid (t9.obj D11.out (fun e => e))
      have Cg12 := Lib.hid c9
      have Lg12 := Lib.hid e9
      have Mg12 : w4.drew.heap.size ≤ g12 := by have := PB.out.size; omega
      clear PB HP D4 D8 D11
      have PB := Lib.hid PB9.out
      have HP := Lib.hid HP9.out
      have D4 := Lib.hid D49.out
      have D8 := Lib.hid D89.out
      have D11 := Lib.hid D119.out
      clear PB9 HP9 D49 D89 D119
      refine hK.out _ _ (range_of_row D4.out) (fun _ => ?_)
      clear hK K t9 c9 e9 s9 Lg12
      try simp only [List.getElem_toArray, List.getElem_cons_succ, List.getElem_cons_zero, Act.put, List.setIfInBounds_toArray, List.set_cons_zero, List.set_cons_succ]
      refine wpAnyH_step (i := 8) (by kernel_rfl) rfl fun K hK => ?_
      go_simp
      refine (IH.out _ HP.out).mono ?_
      rintro e w9 ⟨rfl, t9⟩
      have PB9 : Hid (Pure w4.drew w9) := Lib.hid (PB.out.pure t9)
      have HP9 : Hid (Hashs w9 (.slice (some ⟨b, o, none⟩) m c) a) := Lib.hid (HP.out.pure t9)
      have D49 : Hid (w9.heap[g4]? = some (.cells (u8s h).toArray 28 (0, 0))) := Lib.hid (t9.obj D4.out (fun e => e))
      have D89 : Hid (w9.heap[g8]? = some (.cells X.toArray 28 (0, 0))) := Lib.hid (t9.obj D8.out (fun e => e))
      have D119 : Hid (w9.heap[g11]? = some (.cells (u8s x).toArray 28 (0, 0))) := Lib.hid (t9.obj D11.out (fun e => e))
      have Cg129 : Hid (w9.heap[g12]? = some (.cells X.toArray 28 (0, 0))) := Lib.hid (t9.obj Cg12.out (fun e => e))
      clear PB HP D4 D8 D11 Cg12
      have PB := Lib.hid PB9.out
      have HP := Lib.hid HP9.out
      have D4 := Lib.hid D49.out
      have D8 := Lib.hid D89.out
      have D11 := Lib.hid D119.out
      have Cg12 := Lib.hid Cg129.out
      clear PB9 HP9 D49 D89 D119 Cg129
      refine hK.out _ _ (range_of_row D4.out) ?_
      clear hK K t9
      try simp only [List.getElem_toArray, List.getElem_cons_succ, List.getElem_cons_zero, Act.put, List.setIfInBounds_toArray, List.set_cons_zero, List.set_cons_succ]
      refine wpAnyH_take (i := 9) (v := .tuple #[hv R, .bool OK]) rfl (by kernel_rfl) (by kernel_rfl) (by kernel_rfl) (fun _ _ _ h => nomatch h.1) (Or.inl ⟨by rfl, fun w hSw => by go_simp⟩) (range_of_row D4.out) ?_
      simp only [List.getElem_toArray, List.getElem_cons_succ, List.getElem_cons_zero, Act.put, List.setIfInBounds_toArray, List.set_cons_zero, List.set_cons_succ]
      refine wpAnyH_take (i := 10) (v := hv R) rfl (by kernel_rfl) (by kernel_rfl) (by kernel_rfl) (fun _ _ _ h => nomatch h.1) (Or.inl ⟨by rfl, fun w hSw => by go_simp⟩) (range_of_row D4.out) ?_
      simp only [List.getElem_toArray, List.getElem_cons_succ, List.getElem_cons_zero, Act.put, List.setIfInBounds_toArray, List.set_cons_zero, List.set_cons_succ]
      refine wpAnyH_take (i := 11) (v := .bool OK) rfl (by kernel_rfl) (by kernel_rfl) (by kernel_rfl) (fun _ _ _ h => nomatch h.1) (Or.inl ⟨by rfl, fun w hSw => by go_simp⟩) (range_of_row D4.out) ?_
      simp only [List.getElem_toArray, List.getElem_cons_succ, List.getElem_cons_zero, Act.put, List.setIfInBounds_toArray, List.set_cons_zero, List.set_cons_succ]
      refine wpAnyH_step (i := 13) (by kernel_rfl) rfl fun K hK => ?_
      refine step_store_blk rfl 28 _ _ rfl g12 _ (u8s R) _ rfl rfl Cg12.out (size28 hXl hR) (info28_l hR) (u8s_one _) ?_
      intro w9 c9 t9 s9
      have PB9 : Hid (Pure w4.drew w9) := Lib.hid (PB.out.trans t9 (fun q hq e => by omega))
      have HP9 : Hid (Hashs w9 (.slice (some ⟨b, o, none⟩) m c) a) := Lib.hid (HP.out.turn t9 (fun hne q hq e => by have := HLT.out hne q hq; omega))
      have D49 : Hid (w9.heap[g4]? = some (.cells (u8s h).toArray 28 (0, 0))) := Lib.hid (t9.obj D4.out (by omega))
      have D89 : Hid (w9.heap[g8]? = some (.cells X.toArray 28 (0, 0))) := Lib.hid (t9.obj D8.out (by omega))
      have D119 : Hid (w9.heap[g11]? = some (.cells (u8s x).toArray 28 (0, 0))) := Lib.hid (t9.obj D11.out (by omega))
      have Cg129 := Lib.hid c9
      clear PB HP D4 D8 D11 Cg12
      have PB := Lib.hid PB9.out
      have HP := Lib.hid HP9.out
      have D4 := Lib.hid D49.out
      have D8 := Lib.hid D89.out
      have D11 := Lib.hid D119.out
      have Cg12 := Lib.hid Cg129.out
      clear PB9 HP9 D49 D89 D119 Cg129
      refine hK.out _ _ (range_of_row D4.out) ?_
      clear hK K t9 c9 s9
      try simp only [List.getElem_toArray, List.getElem_cons_succ, List.getElem_cons_zero, Act.put]
      refine wpAnyH_take (i := 14) (v := .bool OK) rfl (by kernel_rfl) (by kernel_rfl) (by kernel_rfl) (fun _ _ _ h => nomatch h.1) (Or.inl ⟨by rfl, fun w hSw => by go_simp⟩) (range_of_row D4.out) ?_
      simp only [List.getElem_toArray, List.getElem_cons_succ, List.getElem_cons_zero, Act.put, List.setIfInBounds_toArray, List.set_cons_zero, List.set_cons_succ]
      refine wpAnyH_done (by kernel_rfl) ?_ _
      exact ⟨rfl, g12, rfl, PB.out, D8.out, D11.out, Cg12.out, Mg12⟩
  · rintro g12 w5 ⟨t5, d8, d11, d12, lg⟩
    have PT5 := Lib.hid (PT4.out.drew.pure t5)
    have D8 := Lib.hid d8; have D11 := Lib.hid d11; have C12 := Lib.hid d12
    clear t5 d8 d11 d12 D8b D11b D4b
    go_wp2_with (first | (refine wpList_load_row rfl 28 _ rfl g12 rfl _ (u8s R).toArray _ _ C12.out hu28 rfl (info28_a hR) ?_) | (refine wpList_load_row rfl 28 _ rfl g11 rfl _ (u8s x).toArray _ _ D11.out hu28 rfl (info28_a hx) ?_))
    refine (over_any _ R x hR hx).mono ?_
    rintro e w6 ⟨rfl, t6⟩
    have D8c := Lib.hid (t6.obj D8.out (fun e => e)); have PT6 := Lib.hid (PT5.out.pure t6)
    clear t6 D8 D11 C12 PT5
    have hJ : (joinV R x).length = 32 := joinV_length _ _
    go_wp2_with (refine wpList_store_blk rfl 28 _ _ rfl g8 _ (u8s (joinV R x)) _ rfl rfl D8c.out (size28 hXl hJ) (info28_l hJ) (u8s_one _) ?_)
    intro w9 c9 t9 _
    have hc9 := Lib.hid c9
    have PT9 := Lib.hid (PT6.out.trans t9 fun q hq e => by omega : Pure w w9)
    clear c9 t9
    go_wp2
    exact bodyPost_ret (v := .tuple #[hv (joinV R x), .bool OK]) (results_cell2 Try.results52 _ _ g8 _ (u8s (joinV R x)).toArray _ _ rfl hc9.out hu28 rfl (info28_a hJ)) rfl ⟨rfl, PT9.out⟩

set_option maxRecDepth 100000 in
set_option maxHeartbeats 2000000 in
theorem climb_right (w : World) (ao : Option Addr) (n c : Nat) (a : List (List UInt8)) (x h : List UInt8) (i k size : Nat) (h2 : 2 ≤ size) (hsz : size ≤ 4611686018427387904) (hk : k = belowV size) (hik : ¬ i < k) (hi0 : i ≤ 4611686018427387904) (hp : Hashs w (.slice ao n c) (a ++ [x])) (hal : a.length ≤ 4398046510976) (hh : h.length = 32)
    (R : List UInt8) (OK : Bool) (hR : R.length = 32)
    (ih : ∀ (W : World) (V : Value), Hashs W V a → Calls Try.prog 52 #[hv h, .int .i64 ((i - k : Nat) : Int), .int .i64 ((size - k : Nat) : Int), V] W fun e w' => e = .returned (.tuple #[hv R, .bool OK]) ∧ Pure W w') :
    Calls Try.prog 52 #[hv h, .int .i64 (i : Int), .int .i64 (size : Int), .slice ao n c] w fun e w' => e = .returned (.tuple #[hv (joinV x R), .bool OK]) ∧ Pure w w' := by
  obtain ⟨X, hXl, HZ⟩ := ex28
  obtain ⟨b, o, rfl, hn, hnc, hrx, hx, hfr⟩ := hp.front
  obtain ⟨m, hm⟩ : ∃ m, m = a.length := ⟨_, rfl⟩
  rw [← hm] at hn hnc hrx hfr hal
  have hklt : k < size := by rw [hk]; exact belowV_lt h2
  have hbel := fun W => cut_any W size h2 hsz
  rw [← hk] at hbel
  have HBEL := Lib.hid hbel; clear hbel hk
  obtain ⟨d, hd⟩ : ∃ d, d = i - k := ⟨_, rfl⟩
  obtain ⟨z, hz⟩ : ∃ z, z = size - k := ⟨_, rfl⟩
  rw [← hd, ← hz] at ih
  have i3 : IntKind.i64.wrap ((i : Int) - k) = (d : Int) := by rw [IntWalk.i64_in _ (by omega)]; omega
  have i4 : IntKind.i64.wrap ((size : Int) - k) = (z : Int) := by rw [IntWalk.i64_in _ (by omega)]; omega
  have HDZ := Lib.hid (And.intro hd hz)
  clear hd hz
  have IH : Hid (∀ W : World, Hashs W (.slice (some ⟨b, o, none⟩) m c) a → _) := Lib.hid fun W hW => ih W _ hW
  clear ih
  have HRX := Lib.hid hrx; have HFR := Lib.hid hfr
  have HLT : Hid (a ≠ [] → ∀ q, (Value.slice (some ⟨b, o, none⟩) m c).ownBlock = some q → q < w.heap.size) := Lib.hid fun hne => hfr.lt hne
  clear hrx hfr hp hm
  have q1 : ((size : Int) == 1) = false := by simp; omega
  have q2 : (size == 1) = false := by simp; omega
  have q3 : ¬ ((i : Int) < k) := by omega
  have q4 : ((n : Int) == 0) = false := by simp; omega
  have q5 : (n == 0) = false := by simp; omega
  have i2 : IntKind.i64.wrap ((n : Int) - 1) = (m : Int) := by rw [IntWalk.i64_in _ (by omega)]; omega
  have q6 : (m : Int) < n := by omega
  have q7 : (0 : Int) ≤ m := by omega
  have q8 : (m : Int) ≤ c := by omega
  have q9 : ¬ c = 0 := by omega
  have HN := Lib.hid hn; clear hn
  have hu28 := Try.underlying28
  go_enter Try.func52, Try.ntmps52
  go_wp2_with (refine wpList_boxV rfl 28 _ rfl (u8s h) rfl ?_)
  intro g4 w1 e1 c1 t1 s1
  have l4 : w.heap.size ≤ g4 := by omega
  clear e1
  go_wp2_with (refine wpList_allocZ rfl 28 rfl X HZ.out ?_)
  intro g8 w2 e2 c2 t2 s2
  have l8 : g4 < g8 := by omega
  have D4 := Lib.hid (t2.obj c1 (fun e => e)); have D8 := Lib.hid c2; have PT := Lib.hid (t1.pure t2)
  have HR2 := Lib.hid (PT.out.range HRX.out (fun e => e))
  clear e2 c1 c2 t1 t2 s1
  go_wp2_with fail
  refine (HBEL.out _).mono ?_
  rintro e wx ⟨rfl, rfl⟩
  go_wp2_with (first | (refine wpList_load_mid rfl 28 _ rfl b (o + m * 32) rfl (u8s x) _ HR2.out hu28 rfl (info28_l hx) ?_) | (refine wpList_allocZ rfl 28 rfl X HZ.out ?_))
  intro g11 w3 e3 c3 t3 s3
  have l11 : g8 < g11 := by omega
  clear e3
  go_wp2_with (refine wpList_store_blk rfl 28 _ _ rfl g11 _ (u8s x) _ rfl rfl c3 (size28 hXl hx) (info28_l hx) (u8s_one _) ?_)
  intro w4 c4 t4 s4
  have D4b := Lib.hid (t4.obj (t3.obj D4.out (fun e => e)) (by omega)); have D8b := Lib.hid (t4.obj (t3.obj D8.out (fun e => e)) (by omega))
  have PT4 := Lib.hid ((PT.out.pure t3).trans t4 fun q hq e => by omega : Pure w w4)
  have D11b := Lib.hid c4
  have l11b : g11 < w4.heap.size := by omega
  clear c3 t3 s3 c4 t4 s4 s2 D4 D8 PT HR2
  go_wp2_with fail
  refine wp_region_cut1 (R := fun g w' => Pure w4.drew w' ∧ w'.heap[g8]? = some (.cells X.toArray 28 (0, 0)) ∧ w'.heap[g11]? = some (.cells (u8s x).toArray 28 (0, 0)) ∧ w'.heap[g]? = some (.cells (u8s R).toArray 28 (0, 0)) ∧ w4.drew.heap.size ≤ g) ?_
  apply Exists.intro
  constructor
  · refine wp_region_held_drew (S := fun w' => w'.rangeAt g4 0 (u8s h)) (by kernel_rfl) (show w4.drew.rangeAt g4 0 (u8s h) from range_of_row D4b.out) (fun _ => ?_)
    have PB := Lib.hid (Turn.refl (fun _ => False) w4.drew)
    have HP := Lib.hid (HFR.out.turn PT4.out.drew (fun _ _ _ e => e))
    have D4 := Lib.hid (show w4.drew.heap[g4]? = _ from D4b.out); have D8 := Lib.hid (show w4.drew.heap[g8]? = _ from D8b.out); have D11 := Lib.hid (show w4.drew.heap[g11]? = _ from D11b.out)
    have hWB : w.heap.size ≤ w4.drew.heap.size := PT4.out.drew.size
    have l11c : g11 < w4.drew.heap.size := l11b
    refine wpAnyH_take (i := 0) (v := hv h) rfl (by kernel_rfl) (by kernel_rfl) (by kernel_rfl) (fun _ _ _ h => nomatch h.1) (yieldsIf_load_mid (by rfl) 28 _ rfl g4 0 rfl (u8s h) _ (fun w h => h) hu28 rfl (info28_l hh)) (range_of_row D4.out) ?_
    simp only [List.getElem_toArray, List.getElem_cons_zero, Act.put, List.setIfInBounds_toArray, List.set_cons_zero, List.set_cons_succ]
    refine wpAnyH_take (i := 1) (v := .int .i64 (i : Int)) rfl (by kernel_rfl) (by kernel_rfl) (by kernel_rfl) (fun _ _ _ h => nomatch h.1) (Or.inl ⟨by rfl, fun w hSw => by go_simp⟩) (range_of_row D4.out) ?_
    simp only [List.getElem_toArray, List.getElem_cons_succ, List.getElem_cons_zero, Act.put, List.setIfInBounds_toArray, List.set_cons_zero, List.set_cons_succ]
    refine wpAnyH_take (i := 2) (v := .int .i64 (k : Int)) rfl (by kernel_rfl) (by kernel_rfl) (by kernel_rfl) (fun _ _ _ h => nomatch h.1) (Or.inl ⟨by rfl, fun w hSw => by go_simp⟩) (range_of_row D4.out) ?_
    simp only [List.getElem_toArray, List.getElem_cons_succ, List.getElem_cons_zero, Act.put, List.setIfInBounds_toArray, List.set_cons_zero, List.set_cons_succ]
    refine wpAnyH_take (i := 3) (v := .int .i64 (d : Int)) rfl (by kernel_rfl) (by kernel_rfl) (by kernel_rfl) (fun _ _ _ h => nomatch h.1) (Or.inl ⟨by rfl, fun w hSw => by go_simp⟩) (range_of_row D4.out) ?_
    simp only [List.getElem_toArray, List.getElem_cons_succ, List.getElem_cons_zero, Act.put, List.setIfInBounds_toArray, List.set_cons_zero, List.set_cons_succ]
    refine wpAnyH_take (i := 4) (v := .int .i64 (size : Int)) rfl (by kernel_rfl) (by kernel_rfl) (by kernel_rfl) (fun _ _ _ h => nomatch h.1) (Or.inl ⟨by rfl, fun w hSw => by go_simp⟩) (range_of_row D4.out) ?_
    simp only [List.getElem_toArray, List.getElem_cons_succ, List.getElem_cons_zero, Act.put, List.setIfInBounds_toArray, List.set_cons_zero, List.set_cons_succ]
    refine wpAnyH_take (i := 5) (v := .int .i64 (k : Int)) rfl (by kernel_rfl) (by kernel_rfl) (by kernel_rfl) (fun _ _ _ h => nomatch h.1) (Or.inl ⟨by rfl, fun w hSw => by go_simp⟩) (range_of_row D4.out) ?_
    simp only [List.getElem_toArray, List.getElem_cons_succ, List.getElem_cons_zero, Act.put, List.setIfInBounds_toArray, List.set_cons_zero, List.set_cons_succ]
    refine wpAnyH_take (i := 6) (v := .int .i64 (z : Int)) rfl (by kernel_rfl) (by kernel_rfl) (by kernel_rfl) (fun _ _ _ h => nomatch h.1) (Or.inl ⟨by rfl, fun w hSw => by go_simp⟩) (range_of_row D4.out) ?_
    simp only [List.getElem_toArray, List.getElem_cons_succ, List.getElem_cons_zero, Act.put, List.setIfInBounds_toArray, List.set_cons_zero, List.set_cons_succ]
    refine wpAnyH_take (i := 7) (v := .slice (some ⟨b, o, none⟩) n c) rfl (by kernel_rfl) (by kernel_rfl) (by kernel_rfl) (fun _ _ _ h => nomatch h.1) (Or.inl ⟨by rfl, fun w hSw => by go_simp⟩) (range_of_row D4.out) ?_
    simp only [List.getElem_toArray, List.getElem_cons_succ, List.getElem_cons_zero, Act.put, List.setIfInBounds_toArray, List.set_cons_zero, List.set_cons_succ]
    refine wpAnyH_take (i := 8) (v := .slice (some ⟨b, o, none⟩) n c) rfl (by kernel_rfl) (by kernel_rfl) (by kernel_rfl) (fun _ _ _ h => nomatch h.1) (Or.inl ⟨by rfl, fun w hSw => by go_simp⟩) (range_of_row D4.out) ?_
    simp only [List.getElem_toArray, List.getElem_cons_succ, List.getElem_cons_zero, Act.put, List.setIfInBounds_toArray, List.set_cons_zero, List.set_cons_succ]
    refine wpAnyH_take (i := 9) (v := .int .i64 (n : Int)) rfl (by kernel_rfl) (by kernel_rfl) (by kernel_rfl) (fun _ _ _ h => nomatch h.1) (Or.inl ⟨by rfl, fun w hSw => by go_simp⟩) (range_of_row D4.out) ?_
    simp only [List.getElem_toArray, List.getElem_cons_succ, List.getElem_cons_zero, Act.put, List.setIfInBounds_toArray, List.set_cons_zero, List.set_cons_succ]
    refine wpAnyH_take (i := 10) (v := .int .i64 (m : Int)) rfl (by kernel_rfl) (by kernel_rfl) (by kernel_rfl) (fun _ _ _ h => nomatch h.1) (Or.inl ⟨by rfl, fun w hSw => by go_simp⟩) (range_of_row D4.out) ?_
    simp only [List.getElem_toArray, List.getElem_cons_succ, List.getElem_cons_zero, Act.put, List.setIfInBounds_toArray, List.set_cons_zero, List.set_cons_succ]
    refine wpAnyH_take (i := 11) (v := .slice (some ⟨b, o, none⟩) m c) rfl (by kernel_rfl) (by kernel_rfl) (by kernel_rfl) (fun _ _ _ h => nomatch h.1) (Or.inl ⟨by rfl, fun w hSw => by go_simp⟩) (range_of_row D4.out) ?_
    simp only [List.getElem_toArray, List.getElem_cons_succ, List.getElem_cons_zero, Act.put, List.setIfInBounds_toArray, List.set_cons_zero, List.set_cons_succ]
    refine wpAnyH_ready (rs := [12, 16]) (by kernel_rfl) (by simp) (AllReadyH.cons rfl (fun K hK => ?_) (AllReadyH.cons rfl (fun K hK => ?_) AllReadyH.nil))
    · go_simp
      refine (IH.out _ HP.out).mono ?_
      rintro e w9 ⟨rfl, t9⟩
      have PB9 : Hid (Pure w4.drew w9) := Lib.hid (PB.out.pure t9)
      have HP9 : Hid (Hashs w9 (.slice (some ⟨b, o, none⟩) m c) a) := Lib.hid (HP.out.pure t9)
      have D49 : Hid (w9.heap[g4]? = some (.cells (u8s h).toArray 28 (0, 0))) := Lib.hid (t9.obj D4.out (fun e => e))
      have D89 : Hid (w9.heap[g8]? = some (.cells X.toArray 28 (0, 0))) := Lib.hid (t9.obj D8.out (fun e => e))
      have D119 : Hid (w9.heap[g11]? = some (.cells (u8s x).toArray 28 (0, 0))) := Lib.hid (t9.obj D11.out (fun e => e))
      clear PB HP D4 D8 D11
      have PB := Lib.hid PB9.out
      have HP := Lib.hid HP9.out
      have D4 := Lib.hid D49.out
      have D8 := Lib.hid D89.out
      have D11 := Lib.hid D119.out
      clear PB9 HP9 D49 D89 D119
      refine hK.out _ _ (range_of_row D4.out) (fun _ => ?_)
      clear hK K t9
      try simp only [List.getElem_toArray, List.getElem_cons_succ, List.getElem_cons_zero, Act.put, List.setIfInBounds_toArray, List.set_cons_zero, List.set_cons_succ]
      refine wpAnyH_take (i := 13) (v := .tuple #[hv R, .bool OK]) rfl (by kernel_rfl) (by kernel_rfl) (by kernel_rfl) (fun _ _ _ h => nomatch h.1) (Or.inl ⟨by rfl, fun w hSw => by go_simp⟩) (range_of_row D4.out) ?_
      simp only [List.getElem_toArray, List.getElem_cons_succ, List.getElem_cons_zero, Act.put, List.setIfInBounds_toArray, List.set_cons_zero, List.set_cons_succ]
      refine wpAnyH_take (i := 14) (v := hv R) rfl (by kernel_rfl) (by kernel_rfl) (by kernel_rfl) (fun _ _ _ h => nomatch h.1) (Or.inl ⟨by rfl, fun w hSw => by go_simp⟩) (range_of_row D4.out) ?_
      simp only [List.getElem_toArray, List.getElem_cons_succ, List.getElem_cons_zero, Act.put, List.setIfInBounds_toArray, List.set_cons_zero, List.set_cons_succ]
      refine wpAnyH_take (i := 15) (v := .bool OK) rfl (by kernel_rfl) (by kernel_rfl) (by kernel_rfl) (fun _ _ _ h => nomatch h.1) (Or.inl ⟨by rfl, fun w hSw => by go_simp⟩) (range_of_row D4.out) ?_
      simp only [List.getElem_toArray, List.getElem_cons_succ, List.getElem_cons_zero, Act.put, List.setIfInBounds_toArray, List.set_cons_zero, List.set_cons_succ]
      refine wpAnyH_step (i := 16) (by kernel_rfl) rfl fun K hK => ?_
      refine step_allocZ rfl 28 rfl X HZ.out ?_
      intro g12 w9 e9 c9 t9 s9
      have PB9 : Hid (Pure w4.drew w9) := Lib.hid (PB.out.pure t9)
      have HP9 : Hid (Hashs w9 (.slice (some ⟨b, o, none⟩) m c) a) := Lib.hid (HP.out.pure t9)
      have D49 : Hid (w9.heap[g4]? = some (.cells (u8s h).toArray 28 (0, 0))) := Lib.hid (t9.obj D4.out (fun e => e))
      have D89 : Hid (w9.heap[g8]? = some (.cells X.toArray 28 (0, 0))) := Lib.hid (t9.obj D8.out (fun e => e))
      have D119 : Hid (w9.heap[g11]? = some (.cells (u8s x).toArray 28 (0, 0))) := Lib.hid (t9.obj D11.out (fun e => e))
      have Cg12 := Lib.hid c9
      have Lg12 := Lib.hid e9
      have Mg12 : w4.drew.heap.size ≤ g12 := by have := PB.out.size; omega
      clear PB HP D4 D8 D11
      have PB := Lib.hid PB9.out
      have HP := Lib.hid HP9.out
      have D4 := Lib.hid D49.out
      have D8 := Lib.hid D89.out
      have D11 := Lib.hid D119.out
      clear PB9 HP9 D49 D89 D119
      refine hK.out _ _ (range_of_row D4.out) ?_
      clear hK K t9 c9 e9 s9 Lg12
      try simp only [List.getElem_toArray, List.getElem_cons_succ, List.getElem_cons_zero, Act.put, List.setIfInBounds_toArray, List.set_cons_zero, List.set_cons_succ]
      refine wpAnyH_step (i := 17) (by kernel_rfl) rfl fun K hK => ?_
      refine step_store_blk rfl 28 _ _ rfl g12 _ (u8s R) _ rfl rfl Cg12.out (size28 hXl hR) (info28_l hR) (u8s_one _) ?_
      intro w9 c9 t9 s9
      have PB9 : Hid (Pure w4.drew w9) := Lib.hid (PB.out.trans t9 (fun q hq e => by omega))
      have HP9 : Hid (Hashs w9 (.slice (some ⟨b, o, none⟩) m c) a) := Lib.hid (HP.out.turn t9 (fun hne q hq e => by have := HLT.out hne q hq; omega))
      have D49 : Hid (w9.heap[g4]? = some (.cells (u8s h).toArray 28 (0, 0))) := Lib.hid (t9.obj D4.out (by omega))
      have D89 : Hid (w9.heap[g8]? = some (.cells X.toArray 28 (0, 0))) := Lib.hid (t9.obj D8.out (by omega))
      have D119 : Hid (w9.heap[g11]? = some (.cells (u8s x).toArray 28 (0, 0))) := Lib.hid (t9.obj D11.out (by omega))
      have Cg129 := Lib.hid c9
      clear PB HP D4 D8 D11 Cg12
      have PB := Lib.hid PB9.out
      have HP := Lib.hid HP9.out
      have D4 := Lib.hid D49.out
      have D8 := Lib.hid D89.out
      have D11 := Lib.hid D119.out
      have Cg12 := Lib.hid Cg129.out
      clear PB9 HP9 D49 D89 D119 Cg129
      refine hK.out _ _ (range_of_row D4.out) ?_
      clear hK K t9 c9 s9
      try simp only [List.getElem_toArray, List.getElem_cons_succ, List.getElem_cons_zero, Act.put]
      refine wpAnyH_take (i := 18) (v := .bool OK) rfl (by kernel_rfl) (by kernel_rfl) (by kernel_rfl) (fun _ _ _ h => nomatch h.1) (Or.inl ⟨by rfl, fun w hSw => by go_simp⟩) (range_of_row D4.out) ?_
      simp only [List.getElem_toArray, List.getElem_cons_succ, List.getElem_cons_zero, Act.put, List.setIfInBounds_toArray, List.set_cons_zero, List.set_cons_succ]
      refine wpAnyH_done (by kernel_rfl) ?_ _
      exact ⟨rfl, g12, rfl, PB.out, D8.out, D11.out, Cg12.out, Mg12⟩
    · refine step_allocZ rfl 28 rfl X HZ.out ?_
      intro g12 w9 e9 c9 t9 s9
      have PB9 : Hid (Pure w4.drew w9) := Lib.hid (PB.out.pure t9)
      have HP9 : Hid (Hashs w9 (.slice (some ⟨b, o, none⟩) m c) a) := Lib.hid (HP.out.pure t9)
      have D49 : Hid (w9.heap[g4]? = some (.cells (u8s h).toArray 28 (0, 0))) := Lib.hid (t9.obj D4.out (fun e => e))
      have D89 : Hid (w9.heap[g8]? = some (.cells X.toArray 28 (0, 0))) := Lib.hid (t9.obj D8.out (fun e => e))
      have D119 : Hid (w9.heap[g11]? = some (.cells (u8s x).toArray 28 (0, 0))) := Lib.hid (t9.obj D11.out (fun e => e))
      have Cg12 := Lib.hid c9
      have Lg12 := Lib.hid e9
      have Mg12 : w4.drew.heap.size ≤ g12 := by have := PB.out.size; omega
      clear PB HP D4 D8 D11
      have PB := Lib.hid PB9.out
      have HP := Lib.hid HP9.out
      have D4 := Lib.hid D49.out
      have D8 := Lib.hid D89.out
      have D11 := Lib.hid D119.out
      clear PB9 HP9 D49 D89 D119
      refine hK.out _ _ (range_of_row D4.out) (fun _ => ?_)
      clear hK K t9 c9 e9 s9 Lg12
      try simp only [List.getElem_toArray, List.getElem_cons_succ, List.getElem_cons_zero, Act.put, List.setIfInBounds_toArray, List.set_cons_zero, List.set_cons_succ]
      refine wpAnyH_step (i := 12) (by kernel_rfl) rfl fun K hK => ?_
      go_simp
      refine (IH.out _ HP.out).mono ?_
      rintro e w9 ⟨rfl, t9⟩
      have PB9 : Hid (Pure w4.drew w9) := Lib.hid (PB.out.pure t9)
      have HP9 : Hid (Hashs w9 (.slice (some ⟨b, o, none⟩) m c) a) := Lib.hid (HP.out.pure t9)
      have D49 : Hid (w9.heap[g4]? = some (.cells (u8s h).toArray 28 (0, 0))) := Lib.hid (t9.obj D4.out (fun e => e))
      have D89 : Hid (w9.heap[g8]? = some (.cells X.toArray 28 (0, 0))) := Lib.hid (t9.obj D8.out (fun e => e))
      have D119 : Hid (w9.heap[g11]? = some (.cells (u8s x).toArray 28 (0, 0))) := Lib.hid (t9.obj D11.out (fun e => e))
      have Cg129 : Hid (w9.heap[g12]? = some (.cells X.toArray 28 (0, 0))) := Lib.hid (t9.obj Cg12.out (fun e => e))
      clear PB HP D4 D8 D11 Cg12
      have PB := Lib.hid PB9.out
      have HP := Lib.hid HP9.out
      have D4 := Lib.hid D49.out
      have D8 := Lib.hid D89.out
      have D11 := Lib.hid D119.out
      have Cg12 := Lib.hid Cg129.out
      clear PB9 HP9 D49 D89 D119 Cg129
      refine hK.out _ _ (range_of_row D4.out) ?_
      clear hK K t9
      try simp only [List.getElem_toArray, List.getElem_cons_succ, List.getElem_cons_zero, Act.put, List.setIfInBounds_toArray, List.set_cons_zero, List.set_cons_succ]
      refine wpAnyH_take (i := 13) (v := .tuple #[hv R, .bool OK]) rfl (by kernel_rfl) (by kernel_rfl) (by kernel_rfl) (fun _ _ _ h => nomatch h.1) (Or.inl ⟨by rfl, fun w hSw => by go_simp⟩) (range_of_row D4.out) ?_
      simp only [List.getElem_toArray, List.getElem_cons_succ, List.getElem_cons_zero, Act.put, List.setIfInBounds_toArray, List.set_cons_zero, List.set_cons_succ]
      refine wpAnyH_take (i := 14) (v := hv R) rfl (by kernel_rfl) (by kernel_rfl) (by kernel_rfl) (fun _ _ _ h => nomatch h.1) (Or.inl ⟨by rfl, fun w hSw => by go_simp⟩) (range_of_row D4.out) ?_
      simp only [List.getElem_toArray, List.getElem_cons_succ, List.getElem_cons_zero, Act.put, List.setIfInBounds_toArray, List.set_cons_zero, List.set_cons_succ]
      refine wpAnyH_take (i := 15) (v := .bool OK) rfl (by kernel_rfl) (by kernel_rfl) (by kernel_rfl) (fun _ _ _ h => nomatch h.1) (Or.inl ⟨by rfl, fun w hSw => by go_simp⟩) (range_of_row D4.out) ?_
      simp only [List.getElem_toArray, List.getElem_cons_succ, List.getElem_cons_zero, Act.put, List.setIfInBounds_toArray, List.set_cons_zero, List.set_cons_succ]
      refine wpAnyH_step (i := 17) (by kernel_rfl) rfl fun K hK => ?_
      refine step_store_blk rfl 28 _ _ rfl g12 _ (u8s R) _ rfl rfl Cg12.out (size28 hXl hR) (info28_l hR) (u8s_one _) ?_
      intro w9 c9 t9 s9
      have PB9 : Hid (Pure w4.drew w9) := Lib.hid (PB.out.trans t9 (fun q hq e => by omega))
      have HP9 : Hid (Hashs w9 (.slice (some ⟨b, o, none⟩) m c) a) := Lib.hid (HP.out.turn t9 (fun hne q hq e => by have := HLT.out hne q hq; omega))
      have D49 : Hid (w9.heap[g4]? = some (.cells (u8s h).toArray 28 (0, 0))) := Lib.hid (t9.obj D4.out (by omega))
      have D89 : Hid (w9.heap[g8]? = some (.cells X.toArray 28 (0, 0))) := Lib.hid (t9.obj D8.out (by omega))
      have D119 : Hid (w9.heap[g11]? = some (.cells (u8s x).toArray 28 (0, 0))) := Lib.hid (t9.obj D11.out (by omega))
      have Cg129 := Lib.hid c9
      clear PB HP D4 D8 D11 Cg12
      have PB := Lib.hid PB9.out
      have HP := Lib.hid HP9.out
      have D4 := Lib.hid D49.out
      have D8 := Lib.hid D89.out
      have D11 := Lib.hid D119.out
      have Cg12 := Lib.hid Cg129.out
      clear PB9 HP9 D49 D89 D119 Cg129
      refine hK.out _ _ (range_of_row D4.out) ?_
      clear hK K t9 c9 s9
      try simp only [List.getElem_toArray, List.getElem_cons_succ, List.getElem_cons_zero, Act.put]
      refine wpAnyH_take (i := 18) (v := .bool OK) rfl (by kernel_rfl) (by kernel_rfl) (by kernel_rfl) (fun _ _ _ h => nomatch h.1) (Or.inl ⟨by rfl, fun w hSw => by go_simp⟩) (range_of_row D4.out) ?_
      simp only [List.getElem_toArray, List.getElem_cons_succ, List.getElem_cons_zero, Act.put, List.setIfInBounds_toArray, List.set_cons_zero, List.set_cons_succ]
      refine wpAnyH_done (by kernel_rfl) ?_ _
      exact ⟨rfl, g12, rfl, PB.out, D8.out, D11.out, Cg12.out, Mg12⟩
  · rintro g12 w5 ⟨t5, d8, d11, d12, lg⟩
    have PT5 := Lib.hid (PT4.out.drew.pure t5)
    have D8 := Lib.hid d8; have D11 := Lib.hid d11; have C12 := Lib.hid d12
    clear t5 d8 d11 d12 D8b D11b D4b
    go_wp2_with (first | (refine wpList_load_row rfl 28 _ rfl g12 rfl _ (u8s R).toArray _ _ C12.out hu28 rfl (info28_a hR) ?_) | (refine wpList_load_row rfl 28 _ rfl g11 rfl _ (u8s x).toArray _ _ D11.out hu28 rfl (info28_a hx) ?_))
    refine (over_any _ x R hx hR).mono ?_
    rintro e w6 ⟨rfl, t6⟩
    have D8c := Lib.hid (t6.obj D8.out (fun e => e)); have PT6 := Lib.hid (PT5.out.pure t6)
    clear t6 D8 D11 C12 PT5
    have hJ : (joinV x R).length = 32 := joinV_length _ _
    go_wp2_with (refine wpList_store_blk rfl 28 _ _ rfl g8 _ (u8s (joinV x R)) _ rfl rfl D8c.out (size28 hXl hJ) (info28_l hJ) (u8s_one _) ?_)
    intro w9 c9 t9 _
    have hc9 := Lib.hid c9
    have PT9 := Lib.hid (PT6.out.trans t9 fun q hq e => by omega : Pure w w9)
    clear c9 t9
    go_wp2
    exact bodyPost_ret (v := .tuple #[hv (joinV x R), .bool OK]) (results_cell2 Try.results52 _ _ g8 _ (u8s (joinV x R)).toArray _ _ rfl hc9.out hu28 rfl (info28_a hJ)) rfl ⟨rfl, PT9.out⟩

/-- The reference's climb. -/
theorem climb_any : ∀ (size : Nat), 1 ≤ size → size ≤ 4611686018427387904 → ∀ (p : List (List UInt8)) (w : World) (v : Value) (h : List UInt8) (i : Nat), Hashs w v p → h.length = 32 → i ≤ 4611686018427387904 → p.length ≤ 4398046510976 →
    Calls Try.prog 52 #[hv h, .int .i64 (i : Int), .int .i64 (size : Int), v] w fun e w' => e = .returned (.tuple #[hv (climbV size p h i).1, .bool (climbV size p h i).2]) ∧ Pure w w' := by
  intro size
  induction size using Nat.strongRecOn with
  | _ size ih =>
    intro h1 hsz p w v h i hp hh hi0 hlen
    by_cases h2 : 2 ≤ size
    · have hk1 := belowV_lt h2
      have hk0 := belowV_pos size
      rcases List.eq_nil_or_concat p with rfl | ⟨a, x, rfl⟩
      · rw [climbV_nil h i h2]
        exact climb_nil w v h i size h2 hp hh
      · have hal : a.length ≤ 4398046510976 := by simp at hlen; omega
        have hp' := hp
        obtain ⟨ao, c, rfl, _, _, _⟩ := hp'
        rw [List.concat_eq_append] at hp ⊢
        by_cases hi : i < belowV size
        · rw [climbV_left a x h h2 hi]
          exact climb_left w ao _ c a x h i (belowV size) size h2 hsz rfl hi hp hal hh _ _ (climbV_len _ _ _ _ hh) fun W V hW => ih (belowV size) hk1 hk0 (by omega) a W V h i hW hh hi0 hal
        · rw [climbV_right a x h h2 hi]
          exact climb_right w ao _ c a x h i (belowV size) size h2 hsz rfl hi hi0 hp hal hh _ _ (climbV_len _ _ _ _ hh) fun W V hW => ih (size - belowV size) (by omega) (by omega) (by omega) a W V h (i - belowV size) hW hh (by omega) hal
    · obtain rfl : size = 1 := by omega
      rw [climbV_one 1 p h i h2]
      exact climb_one w v p h i hp hh
end Go.Proofs.Ytjbigghjbcjelaa
