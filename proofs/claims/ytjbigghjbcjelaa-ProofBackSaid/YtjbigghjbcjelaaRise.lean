/- Chapter 10: the roots that a proof of consistency makes (the reference's rise). -/
import Derived.Test.YtjbigghjbcjelaaBoth
namespace Go.Proofs.Ytjbigghjbcjelaa
open Go.RowKit

/-- The roots of the first m and of all that a path makes. -/
def riseV (m size : Nat) (old : List UInt8) (whole : Bool) (p : List (List UInt8)) : List UInt8 × List UInt8 × Bool :=
  if m = size then (if whole = true then (old, old, p.isEmpty) else if p.length = 1 then (p.headD [], p.headD [], true) else (old, old, false))
  else if _h : 2 ≤ size then
    if p = [] then (old, old, false)
    else if m ≤ belowV size then
      ((riseV m (belowV size) old whole p.dropLast).1, joinV (riseV m (belowV size) old whole p.dropLast).2.1 (p.getLastD []), (riseV m (belowV size) old whole p.dropLast).2.2)
    else
      (joinV (p.getLastD []) (riseV (m - belowV size) (size - belowV size) old false p.dropLast).1, joinV (p.getLastD []) (riseV (m - belowV size) (size - belowV size) old false p.dropLast).2.1, (riseV (m - belowV size) (size - belowV size) old false p.dropLast).2.2)
  else (old, old, false)
termination_by size
decreasing_by
  all_goals first | exact belowV_lt _h | (have := belowV_pos size; omega)
theorem riseV_whole (size : Nat) (old : List UInt8) (p : List (List UInt8)) : riseV size size old true p = (old, old, p.isEmpty) := by rw [riseV, if_pos rfl, if_pos rfl]
theorem riseV_one (size : Nat) (old x : List UInt8) : riseV size size old false [x] = (x, x, true) := by rw [riseV, if_pos rfl, if_neg (by decide)]; rfl
theorem riseV_many (size : Nat) (old : List UInt8) (p : List (List UInt8)) (h : p.length ≠ 1) : riseV size size old false p = (old, old, false) := by rw [riseV, if_pos rfl, if_neg (by decide), if_neg h]
theorem riseV_nil {m size : Nat} (old : List UInt8) (whole : Bool) (h2 : 2 ≤ size) (hne : m ≠ size) : riseV m size old whole [] = (old, old, false) := by rw [riseV, if_neg hne, dif_pos h2, if_pos rfl]
theorem riseV_left {m size : Nat} (old : List UInt8) (whole : Bool) (a : List (List UInt8)) (x : List UInt8) (h2 : 2 ≤ size) (hne : m ≠ size) (hi : m ≤ belowV size) : riseV m size old whole (a ++ [x]) =
    ((riseV m (belowV size) old whole a).1, joinV (riseV m (belowV size) old whole a).2.1 x, (riseV m (belowV size) old whole a).2.2) := by
  rw [riseV, if_neg hne, dif_pos h2, if_neg (by simp), if_pos hi]
  simp
theorem riseV_right {m size : Nat} (old : List UInt8) (whole : Bool) (a : List (List UInt8)) (x : List UInt8) (h2 : 2 ≤ size) (hne : m ≠ size) (hi : ¬ m ≤ belowV size) : riseV m size old whole (a ++ [x]) =
    (joinV x (riseV (m - belowV size) (size - belowV size) old false a).1, joinV x (riseV (m - belowV size) (size - belowV size) old false a).2.1, (riseV (m - belowV size) (size - belowV size) old false a).2.2) := by
  rw [riseV, if_neg hne, dif_pos h2, if_neg (by simp), if_neg hi]
  simp
theorem riseV_ok : ∀ (size m : Nat) (old : List UInt8) (whole : Bool) (p : List (List UInt8)), old.length = 32 → (∀ x ∈ p, x.length = 32) → (riseV m size old whole p).1.length = 32 ∧ (riseV m size old whole p).2.1.length = 32 := by
  intro size
  induction size using Nat.strongRecOn with
  | _ size ih =>
    intro m old whole p ho hx
    by_cases he : m = size
    · subst he
      cases whole with
      | true => rw [riseV_whole]; exact ⟨ho, ho⟩
      | false =>
        by_cases h1 : p.length = 1
        · obtain ⟨x, rfl⟩ := List.length_eq_one_iff.1 h1
          rw [riseV_one]
          exact ⟨hx x (by simp), hx x (by simp)⟩
        · rw [riseV_many m old p h1]; exact ⟨ho, ho⟩
    · by_cases h2 : 2 ≤ size
      · have hk1 := belowV_lt h2
        have hk0 := belowV_pos size
        rcases List.eq_nil_or_concat p with rfl | ⟨a, x, rfl⟩
        · rw [riseV_nil old whole h2 he]; exact ⟨ho, ho⟩
        · rw [List.concat_eq_append] at hx ⊢
          by_cases hi : m ≤ belowV size
          · rw [riseV_left old whole a x h2 he hi]
            exact ⟨(ih (belowV size) hk1 m old whole a ho (fun y hy => hx y (by simp [hy]))).1, joinV_length _ _⟩
          · rw [riseV_right old whole a x h2 he hi]
            exact ⟨joinV_length _ _, joinV_length _ _⟩
      · rw [riseV, if_neg he, dif_neg h2]; exact ⟨ho, ho⟩

set_option maxRecDepth 100000 in
set_option maxHeartbeats 1000000 in
theorem rise_whole (w : World) (v : Value) (p : List (List UInt8)) (old : List UInt8) (size : Nat) (hp : Hashs w v p) (ho : old.length = 32) :
    Calls Try.prog 56 #[.int .i64 (size : Int), .int .i64 (size : Int), hv old, .bool true, v] w fun e w' => e = .returned (.tuple #[hv old, hv old, .bool p.isEmpty]) ∧ Pure w w' := by
  obtain ⟨X, hXl, HZ⟩ := ex28
  have hu28 := Try.underlying28
  obtain ⟨ao, c, rfl, _, _, _⟩ := hp
  obtain ⟨n, hn⟩ : ∃ n, n = p.length := ⟨_, rfl⟩
  have hq : ((n : Int) == 0) = p.isEmpty := by
    cases p with
    | nil => simp at hn; rw [hn]; rfl
    | cons a t => simp at hn; simp; omega
  have hq2 : (n == 0) = p.isEmpty := by rw [← hq]; cases n <;> rfl
  rw [← hn]
  clear hn
  obtain ⟨B, hB⟩ : ∃ B, B = p.isEmpty := ⟨_, rfl⟩
  rw [← hB] at hq hq2 ⊢
  clear hB
  go_enter Try.func56, Try.ntmps56
  go_wp2_with (refine wpList_boxV rfl 28 _ rfl (u8s old) rfl ?_)
  intro g7 w1 e1 c1 t1 s1
  have l7 : w.heap.size ≤ g7 := by omega
  clear e1
  go_wp2_with (refine wpList_allocZ rfl 28 rfl X HZ.out ?_)
  intro g10 w2 e2 c2 t2 s2
  have l10 : g7 < g10 := by omega
  clear e2
  go_wp2_with (refine wpList_allocZ rfl 28 rfl X HZ.out ?_)
  intro g11 w3 e3 c3 t3 s3
  have l11 : g10 < g11 := by omega
  clear e3
  have D7 := Lib.hid (t3.obj (t2.obj c1 (fun e => e)) (fun e => e)); have Cg10 := Lib.hid (t3.obj c2 (fun e => e)); have Cg11 := Lib.hid c3
  have PT := Lib.hid ((t1.pure t2).pure t3)
  have s3g : g11 < w3.heap.size := by omega
  clear c1 c2 c3 t1 t2 t3 s1 s2 s3
  go_wp2_with fail
  refine wp_region_held_drew (S := fun w' => w'.rangeAt g7 0 (u8s old)) (by kernel_rfl) (show w3.drew.rangeAt g7 0 (u8s old) from range_of_row D7.out) (fun _ => ?_)
  have PT9 : Hid (Pure w w3.drew) := Lib.hid PT.out.drew
  have D79 : Hid (w3.drew.heap[g7]? = some (.cells (u8s old).toArray 28 (0, 0))) := Lib.hid D7.out
  have Cg109 : Hid (w3.drew.heap[g10]? = some (.cells X.toArray 28 (0, 0))) := Lib.hid Cg10.out
  have Cg119 : Hid (w3.drew.heap[g11]? = some (.cells X.toArray 28 (0, 0))) := Lib.hid Cg11.out
  clear PT D7 Cg10 Cg11
  have PT := Lib.hid PT9.out
  have D7 := Lib.hid D79.out
  have Cg10 := Lib.hid Cg109.out
  have Cg11 := Lib.hid Cg119.out
  clear PT9 D79 Cg109 Cg119
  generalize w3.drew = w5 at *
  refine wpAnyH_take (i := 0) (v := hv old) rfl (by kernel_rfl) (by kernel_rfl) (by kernel_rfl) (fun _ _ _ h => h) (yieldsIf_load_mid (by rfl) 28 _ rfl g7 0 rfl (u8s old) _ (fun w h => h) hu28 rfl (info28_l ho)) (range_of_row D7.out) ?_
  simp only [List.getElem_toArray, List.getElem_cons_zero, Act.put, List.setIfInBounds_toArray, List.set_cons_zero, List.set_cons_succ]
  refine wpAnyH_take (i := 1) (v := hv old) rfl (by kernel_rfl) (by kernel_rfl) (by kernel_rfl) (fun _ _ _ h => h) (yieldsIf_load_mid (by rfl) 28 _ rfl g7 0 rfl (u8s old) _ (fun w h => h) hu28 rfl (info28_l ho)) (range_of_row D7.out) ?_
  simp only [List.getElem_toArray, List.getElem_cons_succ, List.getElem_cons_zero, Act.put, List.setIfInBounds_toArray, List.set_cons_zero, List.set_cons_succ]
  refine wpAnyH_take (i := 2) (v := .slice ao n c) rfl (by kernel_rfl) (by kernel_rfl) (by kernel_rfl) (fun _ _ _ h => h) (Or.inl ⟨by rfl, fun w hSw => by go_simp⟩) (range_of_row D7.out) ?_
  simp only [List.getElem_toArray, List.getElem_cons_succ, List.getElem_cons_zero, Act.put, List.setIfInBounds_toArray, List.set_cons_zero, List.set_cons_succ]
  refine wpAnyH_take (i := 3) (v := .int .i64 (n : Int)) rfl (by kernel_rfl) (by kernel_rfl) (by kernel_rfl) (fun _ _ _ h => h) (Or.inl ⟨by rfl, fun w hSw => by go_simp⟩) (range_of_row D7.out) ?_
  simp only [List.getElem_toArray, List.getElem_cons_succ, List.getElem_cons_zero, Act.put, List.setIfInBounds_toArray, List.set_cons_zero, List.set_cons_succ]
  refine wpAnyH_take (i := 4) (v := .bool B) rfl (by kernel_rfl) (by kernel_rfl) (by kernel_rfl) (fun _ _ _ h => h) (Or.inl ⟨by rfl, fun w hSw => by go_simp⟩) (range_of_row D7.out) ?_
  simp only [List.getElem_toArray, List.getElem_cons_succ, List.getElem_cons_zero, Act.put, List.setIfInBounds_toArray, List.set_cons_zero, List.set_cons_succ]
  refine wpAnyH_step (i := 5) (by kernel_rfl) rfl fun K hK => ?_
  refine step_store_blk rfl 28 _ _ rfl g10 _ (u8s old) _ rfl rfl Cg10.out (size28 hXl ho) (info28_l ho) (u8s_one _) ?_
  intro w9 c9 t9 s9
  have PT9 : Hid (Pure w w9) := Lib.hid (PT.out.trans t9 (fun q hq e => by omega))
  have D79 : Hid (w9.heap[g7]? = some (.cells (u8s old).toArray 28 (0, 0))) := Lib.hid (t9.obj D7.out (by omega))
  have Cg119 : Hid (w9.heap[g11]? = some (.cells X.toArray 28 (0, 0))) := Lib.hid (t9.obj Cg11.out (by omega))
  have Cg109 := Lib.hid c9
  clear PT D7 Cg11 Cg10
  have PT := Lib.hid PT9.out
  have D7 := Lib.hid D79.out
  have Cg11 := Lib.hid Cg119.out
  have Cg10 := Lib.hid Cg109.out
  clear PT9 D79 Cg119 Cg109
  refine hK.out _ _ (range_of_row D7.out) ?_
  clear hK K t9 c9 s9
  try simp only [List.getElem_toArray, List.getElem_cons_succ, List.getElem_cons_zero, Act.put]
  refine wpAnyH_step (i := 6) (by kernel_rfl) rfl fun K hK => ?_
  refine step_store_blk rfl 28 _ _ rfl g11 _ (u8s old) _ rfl rfl Cg11.out (size28 hXl ho) (info28_l ho) (u8s_one _) ?_
  intro w9 c9 t9 s9
  have PT9 : Hid (Pure w w9) := Lib.hid (PT.out.trans t9 (fun q hq e => by omega))
  have D79 : Hid (w9.heap[g7]? = some (.cells (u8s old).toArray 28 (0, 0))) := Lib.hid (t9.obj D7.out (by omega))
  have Cg109 : Hid (w9.heap[g10]? = some (.cells (u8s old).toArray 28 (0, 0))) := Lib.hid (t9.obj Cg10.out (by omega))
  have Cg119 := Lib.hid c9
  clear PT D7 Cg10 Cg11
  have PT := Lib.hid PT9.out
  have D7 := Lib.hid D79.out
  have Cg10 := Lib.hid Cg109.out
  have Cg11 := Lib.hid Cg119.out
  clear PT9 D79 Cg109 Cg119
  refine hK.out _ _ (range_of_row D7.out) ?_
  clear hK K t9 c9 s9
  try simp only [List.getElem_toArray, List.getElem_cons_succ, List.getElem_cons_zero, Act.put]
  refine wpAnyH_take (i := 7) (v := .bool B) rfl (by kernel_rfl) (by kernel_rfl) (by kernel_rfl) (fun _ _ _ h => h) (Or.inl ⟨by rfl, fun w hSw => by go_simp⟩) (range_of_row D7.out) ?_
  simp only [List.getElem_toArray, List.getElem_cons_succ, List.getElem_cons_zero, Act.put, List.setIfInBounds_toArray, List.set_cons_zero, List.set_cons_succ]
  refine wpAnyH_done (by kernel_rfl) ?_ _
  go_wp2
  exact bodyPost_ret (v := .tuple #[hv old, hv old, .bool B]) (results_cct Try.results56 _ _ g10 g11 (u8s old).toArray (u8s old).toArray _ rfl rfl Cg10.out Cg11.out hu28 rfl (info28_a ho) (info28_a ho)) rfl ⟨rfl, PT.out⟩

set_option maxRecDepth 100000 in
set_option maxHeartbeats 1000000 in
theorem rise_many (w : World) (v : Value) (p : List (List UInt8)) (old : List UInt8) (size : Nat) (hp : Hashs w v p) (h1 : p.length ≠ 1) (ho : old.length = 32) :
    Calls Try.prog 56 #[.int .i64 (size : Int), .int .i64 (size : Int), hv old, .bool false, v] w fun e w' => e = .returned (.tuple #[hv old, hv old, .bool false]) ∧ Pure w w' := by
  obtain ⟨X, hXl, HZ⟩ := ex28
  have hu28 := Try.underlying28
  obtain ⟨ao, c, rfl, _, _, _⟩ := hp
  obtain ⟨n, hn⟩ : ∃ n, n = p.length := ⟨_, rfl⟩
  have hq : ((n : Int) != 1) = true := by simp; omega
  have hq2 : (n != 1) = true := by simp; omega
  rw [← hn]
  clear hn
  go_enter Try.func56, Try.ntmps56
  go_wp2_with (refine wpList_boxV rfl 28 _ rfl (u8s old) rfl ?_)
  intro g7 w1 e1 c1 t1 s1
  have l7 : w.heap.size ≤ g7 := by omega
  clear e1
  go_wp2_with (refine wpList_allocZ rfl 28 rfl X HZ.out ?_)
  intro g10 w2 e2 c2 t2 s2
  have l10 : g7 < g10 := by omega
  clear e2
  go_wp2_with (refine wpList_allocZ rfl 28 rfl X HZ.out ?_)
  intro g11 w3 e3 c3 t3 s3
  have l11 : g10 < g11 := by omega
  clear e3
  have D7 := Lib.hid (t3.obj (t2.obj c1 (fun e => e)) (fun e => e)); have Cg10 := Lib.hid (t3.obj c2 (fun e => e)); have Cg11 := Lib.hid c3
  have PT := Lib.hid ((t1.pure t2).pure t3)
  have s3g : g11 < w3.heap.size := by omega
  clear c1 c2 c3 t1 t2 t3 s1 s2 s3
  go_wp2_with fail
  refine wp_region_held_drew (S := fun w' => w'.rangeAt g7 0 (u8s old)) (by kernel_rfl) (show w3.drew.rangeAt g7 0 (u8s old) from range_of_row D7.out) (fun _ => ?_)
  have PT9 : Hid (Pure w w3.drew) := Lib.hid PT.out.drew
  have D79 : Hid (w3.drew.heap[g7]? = some (.cells (u8s old).toArray 28 (0, 0))) := Lib.hid D7.out
  have Cg109 : Hid (w3.drew.heap[g10]? = some (.cells X.toArray 28 (0, 0))) := Lib.hid Cg10.out
  have Cg119 : Hid (w3.drew.heap[g11]? = some (.cells X.toArray 28 (0, 0))) := Lib.hid Cg11.out
  clear PT D7 Cg10 Cg11
  have PT := Lib.hid PT9.out
  have D7 := Lib.hid D79.out
  have Cg10 := Lib.hid Cg109.out
  have Cg11 := Lib.hid Cg119.out
  clear PT9 D79 Cg109 Cg119
  generalize w3.drew = w5 at *
  refine wpAnyH_take (i := 0) (v := hv old) rfl (by kernel_rfl) (by kernel_rfl) (by kernel_rfl) (fun _ _ _ h => h) (yieldsIf_load_mid (by rfl) 28 _ rfl g7 0 rfl (u8s old) _ (fun w h => h) hu28 rfl (info28_l ho)) (range_of_row D7.out) ?_
  simp only [List.getElem_toArray, List.getElem_cons_zero, Act.put, List.setIfInBounds_toArray, List.set_cons_zero, List.set_cons_succ]
  refine wpAnyH_take (i := 1) (v := hv old) rfl (by kernel_rfl) (by kernel_rfl) (by kernel_rfl) (fun _ _ _ h => h) (yieldsIf_load_mid (by rfl) 28 _ rfl g7 0 rfl (u8s old) _ (fun w h => h) hu28 rfl (info28_l ho)) (range_of_row D7.out) ?_
  simp only [List.getElem_toArray, List.getElem_cons_succ, List.getElem_cons_zero, Act.put, List.setIfInBounds_toArray, List.set_cons_zero, List.set_cons_succ]
  refine wpAnyH_step (i := 2) (by kernel_rfl) rfl fun K hK => ?_
  refine step_store_blk rfl 28 _ _ rfl g10 _ (u8s old) _ rfl rfl Cg10.out (size28 hXl ho) (info28_l ho) (u8s_one _) ?_
  intro w9 c9 t9 s9
  have PT9 : Hid (Pure w w9) := Lib.hid (PT.out.trans t9 (fun q hq e => by omega))
  have D79 : Hid (w9.heap[g7]? = some (.cells (u8s old).toArray 28 (0, 0))) := Lib.hid (t9.obj D7.out (by omega))
  have Cg119 : Hid (w9.heap[g11]? = some (.cells X.toArray 28 (0, 0))) := Lib.hid (t9.obj Cg11.out (by omega))
  have Cg109 := Lib.hid c9
  clear PT D7 Cg11 Cg10
  have PT := Lib.hid PT9.out
  have D7 := Lib.hid D79.out
  have Cg11 := Lib.hid Cg119.out
  have Cg10 := Lib.hid Cg109.out
  clear PT9 D79 Cg119 Cg109
  refine hK.out _ _ (range_of_row D7.out) ?_
  clear hK K t9 c9 s9
  try simp only [List.getElem_toArray, List.getElem_cons_succ, List.getElem_cons_zero, Act.put]
  refine wpAnyH_step (i := 3) (by kernel_rfl) rfl fun K hK => ?_
  refine step_store_blk rfl 28 _ _ rfl g11 _ (u8s old) _ rfl rfl Cg11.out (size28 hXl ho) (info28_l ho) (u8s_one _) ?_
  intro w9 c9 t9 s9
  have PT9 : Hid (Pure w w9) := Lib.hid (PT.out.trans t9 (fun q hq e => by omega))
  have D79 : Hid (w9.heap[g7]? = some (.cells (u8s old).toArray 28 (0, 0))) := Lib.hid (t9.obj D7.out (by omega))
  have Cg109 : Hid (w9.heap[g10]? = some (.cells (u8s old).toArray 28 (0, 0))) := Lib.hid (t9.obj Cg10.out (by omega))
  have Cg119 := Lib.hid c9
  clear PT D7 Cg10 Cg11
  have PT := Lib.hid PT9.out
  have D7 := Lib.hid D79.out
  have Cg10 := Lib.hid Cg109.out
  have Cg11 := Lib.hid Cg119.out
  clear PT9 D79 Cg109 Cg119
  refine hK.out _ _ (range_of_row D7.out) ?_
  clear hK K t9 c9 s9
  try simp only [List.getElem_toArray, List.getElem_cons_succ, List.getElem_cons_zero, Act.put]
  refine wpAnyH_take (i := 4) (v := .bool false) rfl (by kernel_rfl) (by kernel_rfl) (by kernel_rfl) (fun _ _ _ h => h) (Or.inl ⟨by rfl, fun w hSw => by go_simp⟩) (range_of_row D7.out) ?_
  simp only [List.getElem_toArray, List.getElem_cons_succ, List.getElem_cons_zero, Act.put, List.setIfInBounds_toArray, List.set_cons_zero, List.set_cons_succ]
  refine wpAnyH_done (by kernel_rfl) ?_ _
  go_wp2
  exact bodyPost_ret (v := .tuple #[hv old, hv old, .bool false]) (results_cct Try.results56 _ _ g10 g11 (u8s old).toArray (u8s old).toArray _ rfl rfl Cg10.out Cg11.out hu28 rfl (info28_a ho) (info28_a ho)) rfl ⟨rfl, PT.out⟩

set_option maxRecDepth 100000 in
set_option maxHeartbeats 1000000 in
theorem rise_nil (w : World) (v : Value) (old : List UInt8) (m size : Nat) (whole : Bool) (hne : m ≠ size) (hp : Hashs w v []) (ho : old.length = 32) :
    Calls Try.prog 56 #[.int .i64 (m : Int), .int .i64 (size : Int), hv old, .bool whole, v] w fun e w' => e = .returned (.tuple #[hv old, hv old, .bool false]) ∧ Pure w w' := by
  obtain ⟨X, hXl, HZ⟩ := ex28
  have hu28 := Try.underlying28
  obtain ⟨ao, c, rfl, _, _, _⟩ := hp
  have q1 : ((m : Int) == size) = false := by simp; omega
  have q2 : (m == size) = false := by simp; omega
  go_enter Try.func56, Try.ntmps56
  go_wp2_with (refine wpList_boxV rfl 28 _ rfl (u8s old) rfl ?_)
  intro g7 w1 e1 c1 t1 s1
  have l7 : w.heap.size ≤ g7 := by omega
  clear e1
  go_wp2_with (refine wpList_allocZ rfl 28 rfl X HZ.out ?_)
  intro g10 w2 e2 c2 t2 s2
  have l10 : g7 < g10 := by omega
  clear e2
  go_wp2_with (refine wpList_allocZ rfl 28 rfl X HZ.out ?_)
  intro g11 w3 e3 c3 t3 s3
  have l11 : g10 < g11 := by omega
  clear e3
  have D7 := Lib.hid (t3.obj (t2.obj c1 (fun e => e)) (fun e => e)); have Cg10 := Lib.hid (t3.obj c2 (fun e => e)); have Cg11 := Lib.hid c3
  have PT := Lib.hid ((t1.pure t2).pure t3)
  have s3g : g11 < w3.heap.size := by omega
  clear c1 c2 c3 t1 t2 t3 s1 s2 s3
  go_wp2_with fail
  refine wp_region_held_drew (S := fun w' => w'.rangeAt g7 0 (u8s old)) (by kernel_rfl) (show w3.drew.rangeAt g7 0 (u8s old) from range_of_row D7.out) (fun _ => ?_)
  have PT9 : Hid (Pure w w3.drew) := Lib.hid PT.out.drew
  have D79 : Hid (w3.drew.heap[g7]? = some (.cells (u8s old).toArray 28 (0, 0))) := Lib.hid D7.out
  have Cg109 : Hid (w3.drew.heap[g10]? = some (.cells X.toArray 28 (0, 0))) := Lib.hid Cg10.out
  have Cg119 : Hid (w3.drew.heap[g11]? = some (.cells X.toArray 28 (0, 0))) := Lib.hid Cg11.out
  clear PT D7 Cg10 Cg11
  have PT := Lib.hid PT9.out
  have D7 := Lib.hid D79.out
  have Cg10 := Lib.hid Cg109.out
  have Cg11 := Lib.hid Cg119.out
  clear PT9 D79 Cg109 Cg119
  generalize w3.drew = w5 at *
  refine wpAnyH_take (i := 0) (v := hv old) rfl (by kernel_rfl) (by kernel_rfl) (by kernel_rfl) (fun _ _ _ h => h) (yieldsIf_load_mid (by rfl) 28 _ rfl g7 0 rfl (u8s old) _ (fun w h => h) hu28 rfl (info28_l ho)) (range_of_row D7.out) ?_
  simp only [List.getElem_toArray, List.getElem_cons_zero, Act.put, List.setIfInBounds_toArray, List.set_cons_zero, List.set_cons_succ]
  refine wpAnyH_take (i := 1) (v := hv old) rfl (by kernel_rfl) (by kernel_rfl) (by kernel_rfl) (fun _ _ _ h => h) (yieldsIf_load_mid (by rfl) 28 _ rfl g7 0 rfl (u8s old) _ (fun w h => h) hu28 rfl (info28_l ho)) (range_of_row D7.out) ?_
  simp only [List.getElem_toArray, List.getElem_cons_succ, List.getElem_cons_zero, Act.put, List.setIfInBounds_toArray, List.set_cons_zero, List.set_cons_succ]
  refine wpAnyH_step (i := 2) (by kernel_rfl) rfl fun K hK => ?_
  refine step_store_blk rfl 28 _ _ rfl g10 _ (u8s old) _ rfl rfl Cg10.out (size28 hXl ho) (info28_l ho) (u8s_one _) ?_
  intro w9 c9 t9 s9
  have PT9 : Hid (Pure w w9) := Lib.hid (PT.out.trans t9 (fun q hq e => by omega))
  have D79 : Hid (w9.heap[g7]? = some (.cells (u8s old).toArray 28 (0, 0))) := Lib.hid (t9.obj D7.out (by omega))
  have Cg119 : Hid (w9.heap[g11]? = some (.cells X.toArray 28 (0, 0))) := Lib.hid (t9.obj Cg11.out (by omega))
  have Cg109 := Lib.hid c9
  clear PT D7 Cg11 Cg10
  have PT := Lib.hid PT9.out
  have D7 := Lib.hid D79.out
  have Cg11 := Lib.hid Cg119.out
  have Cg10 := Lib.hid Cg109.out
  clear PT9 D79 Cg119 Cg109
  refine hK.out _ _ (range_of_row D7.out) ?_
  clear hK K t9 c9 s9
  try simp only [List.getElem_toArray, List.getElem_cons_succ, List.getElem_cons_zero, Act.put]
  refine wpAnyH_step (i := 3) (by kernel_rfl) rfl fun K hK => ?_
  refine step_store_blk rfl 28 _ _ rfl g11 _ (u8s old) _ rfl rfl Cg11.out (size28 hXl ho) (info28_l ho) (u8s_one _) ?_
  intro w9 c9 t9 s9
  have PT9 : Hid (Pure w w9) := Lib.hid (PT.out.trans t9 (fun q hq e => by omega))
  have D79 : Hid (w9.heap[g7]? = some (.cells (u8s old).toArray 28 (0, 0))) := Lib.hid (t9.obj D7.out (by omega))
  have Cg109 : Hid (w9.heap[g10]? = some (.cells (u8s old).toArray 28 (0, 0))) := Lib.hid (t9.obj Cg10.out (by omega))
  have Cg119 := Lib.hid c9
  clear PT D7 Cg10 Cg11
  have PT := Lib.hid PT9.out
  have D7 := Lib.hid D79.out
  have Cg10 := Lib.hid Cg109.out
  have Cg11 := Lib.hid Cg119.out
  clear PT9 D79 Cg109 Cg119
  refine hK.out _ _ (range_of_row D7.out) ?_
  clear hK K t9 c9 s9
  try simp only [List.getElem_toArray, List.getElem_cons_succ, List.getElem_cons_zero, Act.put]
  refine wpAnyH_take (i := 4) (v := .bool false) rfl (by kernel_rfl) (by kernel_rfl) (by kernel_rfl) (fun _ _ _ h => h) (Or.inl ⟨by rfl, fun w hSw => by go_simp⟩) (range_of_row D7.out) ?_
  simp only [List.getElem_toArray, List.getElem_cons_succ, List.getElem_cons_zero, Act.put, List.setIfInBounds_toArray, List.set_cons_zero, List.set_cons_succ]
  refine wpAnyH_done (by kernel_rfl) ?_ _
  go_wp2
  exact bodyPost_ret (v := .tuple #[hv old, hv old, .bool false]) (results_cct Try.results56 _ _ g10 g11 (u8s old).toArray (u8s old).toArray _ rfl rfl Cg10.out Cg11.out hu28 rfl (info28_a ho) (info28_a ho)) rfl ⟨rfl, PT.out⟩

set_option maxRecDepth 100000 in
set_option maxHeartbeats 1000000 in
theorem rise_one (w : World) (v : Value) (x : List UInt8) (old : List UInt8) (size : Nat) (hp : Hashs w v [x]) :
    Calls Try.prog 56 #[.int .i64 (size : Int), .int .i64 (size : Int), hv old, .bool false, v] w fun e w' => e = .returned (.tuple #[hv x, hv x, .bool true]) ∧ Pure w w' := by
  obtain ⟨X, hXl, HZ⟩ := ex28
  have hu28 := Try.underlying28
  have hbl := hp.lt (by simp)
  obtain ⟨ao, c, rfl, hc, h3, h4⟩ := hp
  obtain ⟨b, o, rfl, hr⟩ := h3 (by simp)
  have hx : x.length = 32 := h4 x (by simp)
  have hb : b < w.heap.size := hbl b rfl
  have HR0 := Lib.hid (hrow_at [x] o 0 x rfl hr h4)
  simp only [List.length_singleton] at hc ⊢
  clear hr h3 h4 hbl
  go_enter Try.func56, Try.ntmps56
  go_wp2_with (refine wpList_boxV rfl 28 _ rfl (u8s old) rfl ?_)
  intro g7 w1 e1 c1 t1 s1
  have l7 : w.heap.size ≤ g7 := by omega
  clear e1
  go_wp2_with (refine wpList_allocZ rfl 28 rfl X HZ.out ?_)
  intro g10 w2 e2 c2 t2 s2
  have l10 : g7 < g10 := by omega
  clear e2
  go_wp2_with (refine wpList_allocZ rfl 28 rfl X HZ.out ?_)
  intro g11 w3 e3 c3 t3 s3
  have l11 : g10 < g11 := by omega
  clear e3
  have D7 := Lib.hid (t3.obj (t2.obj c1 (fun e => e)) (fun e => e)); have Cg10 := Lib.hid (t3.obj c2 (fun e => e)); have Cg11 := Lib.hid c3
  have PT := Lib.hid ((t1.pure t2).pure t3)
  have s3g : g11 < w3.heap.size := by omega
  clear c1 c2 c3 t1 t2 t3 s1 s2 s3
  have HR : Hid (w3.rangeAt b o (u8s x)) := Lib.hid (by simpa using PT.out.range HR0.out (fun e => e))
  clear HR0 D7
  go_wp2_with fail
  refine wp_region_held_drew (S := fun w' => w'.rangeAt b o (u8s x)) (by kernel_rfl) (show w3.drew.rangeAt b o (u8s x) from HR.out) (fun _ => ?_)
  have PT9 : Hid (Pure w w3.drew) := Lib.hid PT.out.drew
  have HR9 : Hid (w3.drew.rangeAt b o (u8s x)) := Lib.hid HR.out
  have Cg109 : Hid (w3.drew.heap[g10]? = some (.cells X.toArray 28 (0, 0))) := Lib.hid Cg10.out
  have Cg119 : Hid (w3.drew.heap[g11]? = some (.cells X.toArray 28 (0, 0))) := Lib.hid Cg11.out
  clear PT HR Cg10 Cg11
  have PT := Lib.hid PT9.out
  have HR := Lib.hid HR9.out
  have Cg10 := Lib.hid Cg109.out
  have Cg11 := Lib.hid Cg119.out
  clear PT9 HR9 Cg109 Cg119
  generalize w3.drew = w5 at *
  refine wpAnyH_take (i := 0) (v := .slice (some ⟨b, o, none⟩) 1 c) rfl (by kernel_rfl) (by kernel_rfl) (by kernel_rfl) (fun _ _ _ h => h) (Or.inl ⟨by rfl, fun w hSw => by go_simp⟩) HR.out ?_
  simp only [List.getElem_toArray, List.getElem_cons_zero, Act.put, List.setIfInBounds_toArray, List.set_cons_zero, List.set_cons_succ]
  refine wpAnyH_take (i := 1) (v := .pointer (some ⟨b, o, none⟩)) rfl (by kernel_rfl) (by kernel_rfl) (by kernel_rfl) (fun _ _ _ h => h) (Or.inl ⟨by rfl, fun w hSw => by go_simp⟩) HR.out ?_
  simp only [List.getElem_toArray, List.getElem_cons_succ, List.getElem_cons_zero, Act.put, List.setIfInBounds_toArray, List.set_cons_zero, List.set_cons_succ]
  refine wpAnyH_take (i := 2) (v := hv x) rfl (by kernel_rfl) (by kernel_rfl) (by kernel_rfl) (fun _ _ _ h => h) (yieldsIf_load_mid (by rfl) 28 _ rfl b o rfl (u8s x) _ (fun w h => h) hu28 rfl (info28_l hx)) HR.out ?_
  simp only [List.getElem_toArray, List.getElem_cons_succ, List.getElem_cons_zero, Act.put, List.setIfInBounds_toArray, List.set_cons_zero, List.set_cons_succ]
  refine wpAnyH_take (i := 3) (v := .slice (some ⟨b, o, none⟩) 1 c) rfl (by kernel_rfl) (by kernel_rfl) (by kernel_rfl) (fun _ _ _ h => h) (Or.inl ⟨by rfl, fun w hSw => by go_simp⟩) HR.out ?_
  simp only [List.getElem_toArray, List.getElem_cons_succ, List.getElem_cons_zero, Act.put, List.setIfInBounds_toArray, List.set_cons_zero, List.set_cons_succ]
  refine wpAnyH_take (i := 4) (v := .pointer (some ⟨b, o, none⟩)) rfl (by kernel_rfl) (by kernel_rfl) (by kernel_rfl) (fun _ _ _ h => h) (Or.inl ⟨by rfl, fun w hSw => by go_simp⟩) HR.out ?_
  simp only [List.getElem_toArray, List.getElem_cons_succ, List.getElem_cons_zero, Act.put, List.setIfInBounds_toArray, List.set_cons_zero, List.set_cons_succ]
  refine wpAnyH_take (i := 5) (v := hv x) rfl (by kernel_rfl) (by kernel_rfl) (by kernel_rfl) (fun _ _ _ h => h) (yieldsIf_load_mid (by rfl) 28 _ rfl b o rfl (u8s x) _ (fun w h => h) hu28 rfl (info28_l hx)) HR.out ?_
  simp only [List.getElem_toArray, List.getElem_cons_succ, List.getElem_cons_zero, Act.put, List.setIfInBounds_toArray, List.set_cons_zero, List.set_cons_succ]
  refine wpAnyH_step (i := 6) (by kernel_rfl) rfl fun K hK => ?_
  refine step_store_blk rfl 28 _ _ rfl g10 _ (u8s x) _ rfl rfl Cg10.out (size28 hXl hx) (info28_l hx) (u8s_one _) ?_
  intro w9 c9 t9 s9
  have PT9 : Hid (Pure w w9) := Lib.hid (PT.out.trans t9 (fun q hq e => by omega))
  have HR9 : Hid (w9.rangeAt b o (u8s x)) := Lib.hid (t9.range HR.out (by omega))
  have Cg119 : Hid (w9.heap[g11]? = some (.cells X.toArray 28 (0, 0))) := Lib.hid (t9.obj Cg11.out (by omega))
  have Cg109 := Lib.hid c9
  clear PT HR Cg11 Cg10
  have PT := Lib.hid PT9.out
  have HR := Lib.hid HR9.out
  have Cg11 := Lib.hid Cg119.out
  have Cg10 := Lib.hid Cg109.out
  clear PT9 HR9 Cg119 Cg109
  refine hK.out _ _ HR.out ?_
  clear hK K t9 c9 s9
  try simp only [List.getElem_toArray, List.getElem_cons_succ, List.getElem_cons_zero, Act.put]
  refine wpAnyH_step (i := 7) (by kernel_rfl) rfl fun K hK => ?_
  refine step_store_blk rfl 28 _ _ rfl g11 _ (u8s x) _ rfl rfl Cg11.out (size28 hXl hx) (info28_l hx) (u8s_one _) ?_
  intro w9 c9 t9 s9
  have PT9 : Hid (Pure w w9) := Lib.hid (PT.out.trans t9 (fun q hq e => by omega))
  have HR9 : Hid (w9.rangeAt b o (u8s x)) := Lib.hid (t9.range HR.out (by omega))
  have Cg109 : Hid (w9.heap[g10]? = some (.cells (u8s x).toArray 28 (0, 0))) := Lib.hid (t9.obj Cg10.out (by omega))
  have Cg119 := Lib.hid c9
  clear PT HR Cg10 Cg11
  have PT := Lib.hid PT9.out
  have HR := Lib.hid HR9.out
  have Cg10 := Lib.hid Cg109.out
  have Cg11 := Lib.hid Cg119.out
  clear PT9 HR9 Cg109 Cg119
  refine hK.out _ _ HR.out ?_
  clear hK K t9 c9 s9
  try simp only [List.getElem_toArray, List.getElem_cons_succ, List.getElem_cons_zero, Act.put]
  refine wpAnyH_take (i := 8) (v := .bool true) rfl (by kernel_rfl) (by kernel_rfl) (by kernel_rfl) (fun _ _ _ h => h) (Or.inl ⟨by rfl, fun w hSw => by go_simp⟩) HR.out ?_
  simp only [List.getElem_toArray, List.getElem_cons_succ, List.getElem_cons_zero, Act.put, List.setIfInBounds_toArray, List.set_cons_zero, List.set_cons_succ]
  refine wpAnyH_done (by kernel_rfl) ?_ _
  go_wp2
  exact bodyPost_ret (v := .tuple #[hv x, hv x, .bool true]) (results_cct Try.results56 _ _ g10 g11 (u8s x).toArray (u8s x).toArray _ rfl rfl Cg10.out Cg11.out hu28 rfl (info28_a hx) (info28_a hx)) rfl ⟨rfl, PT.out⟩

set_option maxRecDepth 100000 in
set_option maxHeartbeats 4000000 in
theorem rise_left (w : World) (ao : Option Addr) (n c : Nat) (a : List (List UInt8)) (x old : List UInt8) (m k size : Nat) (whole : Bool) (h2 : 2 ≤ size) (hsz : size ≤ 4611686018427387904) (hne : m ≠ size) (hk : k = belowV size) (hik : m ≤ k) (hp : Hashs w (.slice ao n c) (a ++ [x])) (hal : a.length ≤ 4398046510976) (ho : old.length = 32)
    (A B : List UInt8) (OK : Bool) (hA : A.length = 32) (hB : B.length = 32)
    (ih : ∀ (W : World) (V : Value), Hashs W V a → Calls Try.prog 56 #[.int .i64 (m : Int), .int .i64 (k : Int), hv old, .bool whole, V] W fun e w' => e = .returned (.tuple #[hv A, hv B, .bool OK]) ∧ Pure W w') :
    Calls Try.prog 56 #[.int .i64 (m : Int), .int .i64 (size : Int), hv old, .bool whole, .slice ao n c] w fun e w' => e = .returned (.tuple #[hv A, hv (joinV B x), .bool OK]) ∧ Pure w w' := by
  obtain ⟨X, hXl, HZ⟩ := ex28
  have hu28 := Try.underlying28
  obtain ⟨b, o, rfl, hn, hnc, hrx, hx, hfr⟩ := hp.front
  obtain ⟨mm, hm⟩ : ∃ mm, mm = a.length := ⟨_, rfl⟩
  rw [← hm] at hn hnc hrx hfr hal
  have hklt : k < size := by rw [hk]; exact belowV_lt h2
  have hbel := fun W => cut_any W size h2 hsz
  rw [← hk] at hbel
  have HBEL := Lib.hid hbel; clear hbel hk
  have IH : Hid (∀ W : World, Hashs W (.slice (some ⟨b, o, none⟩) mm c) a → _) := Lib.hid fun W hW => ih W _ hW
  clear ih
  have HRX := Lib.hid hrx; have HFR := Lib.hid hfr
  have HLT : Hid (a ≠ [] → ∀ q, (Value.slice (some ⟨b, o, none⟩) mm c).ownBlock = some q → q < w.heap.size) := Lib.hid fun hne => hfr.lt hne
  clear hrx hfr hp hm
  have q1 : ((m : Int) == size) = false := by simp; omega
  have q2 : (m == size) = false := by simp; omega
  have q3 : (m : Int) ≤ k := by omega
  have q4 : ((n : Int) == 0) = false := by simp; omega
  have q5 : (n == 0) = false := by simp; omega
  have i2 : IntKind.i64.wrap ((n : Int) - 1) = (mm : Int) := by rw [IntWalk.i64_in _ (by omega)]; omega
  have q6 : (mm : Int) < n := by omega
  have q7 : (0 : Int) ≤ mm := by omega
  have q8 : (mm : Int) ≤ c := by omega
  have q9 : ¬ c = 0 := by omega
  have HN := Lib.hid hn; clear hn
  go_enter Try.func56, Try.ntmps56
  go_wp2_with (refine wpList_boxV rfl 28 _ rfl (u8s old) rfl ?_)
  intro g7 w1 e1 c1 t1 s1
  have l7 : w.heap.size ≤ g7 := by omega
  clear e1
  go_wp2_with (refine wpList_allocZ rfl 28 rfl X HZ.out ?_)
  intro g10 w2 e2 c2 t2 s2
  have l10 : g7 < g10 := by omega
  clear e2
  go_wp2_with (refine wpList_allocZ rfl 28 rfl X HZ.out ?_)
  intro g11 w3 e3 c3 t3 s3
  have l11 : g10 < g11 := by omega
  clear e3
  have D7 := Lib.hid (t3.obj (t2.obj c1 (fun e => e)) (fun e => e)); have Cg10 := Lib.hid (t3.obj c2 (fun e => e)); have Cg11 := Lib.hid c3
  have PT := Lib.hid ((t1.pure t2).pure t3)
  have s3g : g11 < w3.heap.size := by omega
  clear c1 c2 c3 t1 t2 t3 s1 s2 s3
  have HR2 := Lib.hid (PT.out.range HRX.out (fun e => e))
  go_wp2_with fail
  refine (HBEL.out _).mono ?_
  rintro e wx ⟨rfl, rfl⟩
  go_wp2_with (first | (refine wpList_load_mid rfl 28 _ rfl b (o + mm * 32) rfl (u8s x) _ HR2.out hu28 rfl (info28_l hx) ?_) | (refine wpList_allocZ rfl 28 rfl X HZ.out ?_))
  intro g14 wy ey cy ty sy
  have l14 : g11 < g14 := by omega
  clear ey
  go_wp2_with (refine wpList_store_blk rfl 28 _ _ rfl g14 _ (u8s x) _ rfl rfl cy (size28 hXl hx) (info28_l hx) (u8s_one _) ?_)
  intro w4 c4 t4 s4
  have D7b := Lib.hid (t4.obj (ty.obj D7.out (fun e => e)) (by omega)); have D10b := Lib.hid (t4.obj (ty.obj Cg10.out (fun e => e)) (by omega)); have D11b := Lib.hid (t4.obj (ty.obj Cg11.out (fun e => e)) (by omega))
  have PT4 := Lib.hid ((PT.out.pure ty).trans t4 fun q hq e => by omega : Pure w w4)
  have D14b := Lib.hid c4
  have l14b : g14 < w4.heap.size := by omega
  clear cy ty sy c4 t4 s4 D7 Cg10 Cg11 PT HR2 s3g
  go_wp2_with fail
  refine wp_region_cut2 (R := fun g g' w' => Pure w4.drew w' ∧ w'.heap[g10]? = some (.cells X.toArray 28 (0, 0)) ∧ w'.heap[g11]? = some (.cells X.toArray 28 (0, 0)) ∧ w'.heap[g14]? = some (.cells (u8s x).toArray 28 (0, 0)) ∧ w'.heap[g]? = some (.cells (u8s A).toArray 28 (0, 0)) ∧ w'.heap[g']? = some (.cells (u8s B).toArray 28 (0, 0)) ∧ w4.drew.heap.size ≤ g ∧ w4.drew.heap.size ≤ g') ?_
  apply Exists.intro
  constructor
  · refine wp_region_held_drew (S := fun w' => w'.rangeAt g7 0 (u8s old)) (by kernel_rfl) (show w4.drew.rangeAt g7 0 (u8s old) from range_of_row D7b.out) (fun _ => ?_)
    have PB := Lib.hid (Turn.refl (fun _ => False) w4.drew)
    have HP := Lib.hid (HFR.out.turn PT4.out.drew (fun _ _ _ e => e))
    have D7 := Lib.hid (show w4.drew.heap[g7]? = _ from D7b.out); have D10 := Lib.hid (show w4.drew.heap[g10]? = _ from D10b.out); have D11 := Lib.hid (show w4.drew.heap[g11]? = _ from D11b.out); have D14 := Lib.hid (show w4.drew.heap[g14]? = _ from D14b.out)
    have hWB : w.heap.size ≤ w4.drew.heap.size := PT4.out.drew.size
    have l14c : g14 < w4.drew.heap.size := l14b
    refine wpAnyH_take (i := 0) (v := .int .i64 (m : Int)) rfl (by kernel_rfl) (by kernel_rfl) (by kernel_rfl) (fun _ _ _ h => nomatch h.1) (Or.inl ⟨by rfl, fun w hSw => by go_simp⟩) (range_of_row D7.out) ?_
    simp only [List.getElem_toArray, List.getElem_cons_zero, Act.put, List.setIfInBounds_toArray, List.set_cons_zero, List.set_cons_succ]
    refine wpAnyH_take (i := 1) (v := .int .i64 (k : Int)) rfl (by kernel_rfl) (by kernel_rfl) (by kernel_rfl) (fun _ _ _ h => nomatch h.1) (Or.inl ⟨by rfl, fun w hSw => by go_simp⟩) (range_of_row D7.out) ?_
    simp only [List.getElem_toArray, List.getElem_cons_succ, List.getElem_cons_zero, Act.put, List.setIfInBounds_toArray, List.set_cons_zero, List.set_cons_succ]
    refine wpAnyH_take (i := 2) (v := hv old) rfl (by kernel_rfl) (by kernel_rfl) (by kernel_rfl) (fun _ _ _ h => nomatch h.1) (yieldsIf_load_mid (by rfl) 28 _ rfl g7 0 rfl (u8s old) _ (fun w h => h) hu28 rfl (info28_l ho)) (range_of_row D7.out) ?_
    simp only [List.getElem_toArray, List.getElem_cons_succ, List.getElem_cons_zero, Act.put, List.setIfInBounds_toArray, List.set_cons_zero, List.set_cons_succ]
    refine wpAnyH_take (i := 3) (v := .bool whole) rfl (by kernel_rfl) (by kernel_rfl) (by kernel_rfl) (fun _ _ _ h => nomatch h.1) (Or.inl ⟨by rfl, fun w hSw => by go_simp⟩) (range_of_row D7.out) ?_
    simp only [List.getElem_toArray, List.getElem_cons_succ, List.getElem_cons_zero, Act.put, List.setIfInBounds_toArray, List.set_cons_zero, List.set_cons_succ]
    refine wpAnyH_take (i := 4) (v := .slice (some ⟨b, o, none⟩) n c) rfl (by kernel_rfl) (by kernel_rfl) (by kernel_rfl) (fun _ _ _ h => nomatch h.1) (Or.inl ⟨by rfl, fun w hSw => by go_simp⟩) (range_of_row D7.out) ?_
    simp only [List.getElem_toArray, List.getElem_cons_succ, List.getElem_cons_zero, Act.put, List.setIfInBounds_toArray, List.set_cons_zero, List.set_cons_succ]
    refine wpAnyH_take (i := 5) (v := .slice (some ⟨b, o, none⟩) n c) rfl (by kernel_rfl) (by kernel_rfl) (by kernel_rfl) (fun _ _ _ h => nomatch h.1) (Or.inl ⟨by rfl, fun w hSw => by go_simp⟩) (range_of_row D7.out) ?_
    simp only [List.getElem_toArray, List.getElem_cons_succ, List.getElem_cons_zero, Act.put, List.setIfInBounds_toArray, List.set_cons_zero, List.set_cons_succ]
    refine wpAnyH_take (i := 6) (v := .int .i64 (n : Int)) rfl (by kernel_rfl) (by kernel_rfl) (by kernel_rfl) (fun _ _ _ h => nomatch h.1) (Or.inl ⟨by rfl, fun w hSw => by go_simp⟩) (range_of_row D7.out) ?_
    simp only [List.getElem_toArray, List.getElem_cons_succ, List.getElem_cons_zero, Act.put, List.setIfInBounds_toArray, List.set_cons_zero, List.set_cons_succ]
    refine wpAnyH_take (i := 7) (v := .int .i64 (mm : Int)) rfl (by kernel_rfl) (by kernel_rfl) (by kernel_rfl) (fun _ _ _ h => nomatch h.1) (Or.inl ⟨by rfl, fun w hSw => by go_simp⟩) (range_of_row D7.out) ?_
    simp only [List.getElem_toArray, List.getElem_cons_succ, List.getElem_cons_zero, Act.put, List.setIfInBounds_toArray, List.set_cons_zero, List.set_cons_succ]
    refine wpAnyH_take (i := 8) (v := .slice (some ⟨b, o, none⟩) mm c) rfl (by kernel_rfl) (by kernel_rfl) (by kernel_rfl) (fun _ _ _ h => nomatch h.1) (Or.inl ⟨by rfl, fun w hSw => by go_simp⟩) (range_of_row D7.out) ?_
    simp only [List.getElem_toArray, List.getElem_cons_succ, List.getElem_cons_zero, Act.put, List.setIfInBounds_toArray, List.set_cons_zero, List.set_cons_succ]
    refine wpAnyH_ready (rs := [9, 14, 15]) (by kernel_rfl) (by simp) (AllReadyH.cons rfl (fun K hK => ?_) (AllReadyH.cons rfl (fun K hK => ?_) (AllReadyH.cons rfl (fun K hK => ?_) AllReadyH.nil)))
    · go_simp
      refine (IH.out _ HP.out).mono ?_
      rintro e w9 ⟨rfl, t9⟩
      have PB9 : Hid (Pure w4.drew w9) := Lib.hid (PB.out.pure t9)
      have HP9 : Hid (Hashs w9 (.slice (some ⟨b, o, none⟩) mm c) a) := Lib.hid (HP.out.pure t9)
      have D79 : Hid (w9.heap[g7]? = some (.cells (u8s old).toArray 28 (0, 0))) := Lib.hid (t9.obj D7.out (fun e => e))
      have D109 : Hid (w9.heap[g10]? = some (.cells X.toArray 28 (0, 0))) := Lib.hid (t9.obj D10.out (fun e => e))
      have D119 : Hid (w9.heap[g11]? = some (.cells X.toArray 28 (0, 0))) := Lib.hid (t9.obj D11.out (fun e => e))
      have D149 : Hid (w9.heap[g14]? = some (.cells (u8s x).toArray 28 (0, 0))) := Lib.hid (t9.obj D14.out (fun e => e))
      clear PB HP D7 D10 D11 D14
      have PB := Lib.hid PB9.out
      have HP := Lib.hid HP9.out
      have D7 := Lib.hid D79.out
      have D10 := Lib.hid D109.out
      have D11 := Lib.hid D119.out
      have D14 := Lib.hid D149.out
      clear PB9 HP9 D79 D109 D119 D149
      refine hK.out _ _ (range_of_row D7.out) (fun _ => ?_)
      clear hK K t9
      try simp only [List.getElem_toArray, List.getElem_cons_succ, List.getElem_cons_zero, Act.put, List.setIfInBounds_toArray, List.set_cons_zero, List.set_cons_succ]
      refine wpAnyH_take (i := 10) (v := .tuple #[hv A, hv B, .bool OK]) rfl (by kernel_rfl) (by kernel_rfl) (by kernel_rfl) (fun _ _ _ h => nomatch h.1) (Or.inl ⟨by rfl, fun w hSw => by go_simp⟩) (range_of_row D7.out) ?_
      simp only [List.getElem_toArray, List.getElem_cons_succ, List.getElem_cons_zero, Act.put, List.setIfInBounds_toArray, List.set_cons_zero, List.set_cons_succ]
      refine wpAnyH_take (i := 11) (v := hv A) rfl (by kernel_rfl) (by kernel_rfl) (by kernel_rfl) (fun _ _ _ h => nomatch h.1) (Or.inl ⟨by rfl, fun w hSw => by go_simp⟩) (range_of_row D7.out) ?_
      simp only [List.getElem_toArray, List.getElem_cons_succ, List.getElem_cons_zero, Act.put, List.setIfInBounds_toArray, List.set_cons_zero, List.set_cons_succ]
      refine wpAnyH_take (i := 12) (v := hv B) rfl (by kernel_rfl) (by kernel_rfl) (by kernel_rfl) (fun _ _ _ h => nomatch h.1) (Or.inl ⟨by rfl, fun w hSw => by go_simp⟩) (range_of_row D7.out) ?_
      simp only [List.getElem_toArray, List.getElem_cons_succ, List.getElem_cons_zero, Act.put, List.setIfInBounds_toArray, List.set_cons_zero, List.set_cons_succ]
      refine wpAnyH_take (i := 13) (v := .bool OK) rfl (by kernel_rfl) (by kernel_rfl) (by kernel_rfl) (fun _ _ _ h => nomatch h.1) (Or.inl ⟨by rfl, fun w hSw => by go_simp⟩) (range_of_row D7.out) ?_
      simp only [List.getElem_toArray, List.getElem_cons_succ, List.getElem_cons_zero, Act.put, List.setIfInBounds_toArray, List.set_cons_zero, List.set_cons_succ]
      refine wpAnyH_ready (rs := [14, 15]) (by kernel_rfl) (by simp) (AllReadyH.cons rfl (fun K hK => ?_) (AllReadyH.cons rfl (fun K hK => ?_) AllReadyH.nil))
      · refine step_allocZ rfl 28 rfl X HZ.out ?_
        intro g15 w9 e9 c9 t9 s9
        have PB9 : Hid (Pure w4.drew w9) := Lib.hid (PB.out.pure t9)
        have HP9 : Hid (Hashs w9 (.slice (some ⟨b, o, none⟩) mm c) a) := Lib.hid (HP.out.pure t9)
        have D79 : Hid (w9.heap[g7]? = some (.cells (u8s old).toArray 28 (0, 0))) := Lib.hid (t9.obj D7.out (fun e => e))
        have D109 : Hid (w9.heap[g10]? = some (.cells X.toArray 28 (0, 0))) := Lib.hid (t9.obj D10.out (fun e => e))
        have D119 : Hid (w9.heap[g11]? = some (.cells X.toArray 28 (0, 0))) := Lib.hid (t9.obj D11.out (fun e => e))
        have D149 : Hid (w9.heap[g14]? = some (.cells (u8s x).toArray 28 (0, 0))) := Lib.hid (t9.obj D14.out (fun e => e))
        have Cg15 := Lib.hid c9
        have Lg15 := Lib.hid e9
        have Mg15 : w4.drew.heap.size ≤ g15 := by have := PB.out.size; omega
        clear PB HP D7 D10 D11 D14
        have PB := Lib.hid PB9.out
        have HP := Lib.hid HP9.out
        have D7 := Lib.hid D79.out
        have D10 := Lib.hid D109.out
        have D11 := Lib.hid D119.out
        have D14 := Lib.hid D149.out
        clear PB9 HP9 D79 D109 D119 D149
        refine hK.out _ _ (range_of_row D7.out) (fun _ => ?_)
        clear hK K t9 c9 e9 s9 Lg15
        try simp only [List.getElem_toArray, List.getElem_cons_succ, List.getElem_cons_zero, Act.put, List.setIfInBounds_toArray, List.set_cons_zero, List.set_cons_succ]
        refine wpAnyH_step (i := 15) (by kernel_rfl) rfl fun K hK => ?_
        refine step_allocZ rfl 28 rfl X HZ.out ?_
        intro g16 w9 e9 c9 t9 s9
        have PB9 : Hid (Pure w4.drew w9) := Lib.hid (PB.out.pure t9)
        have HP9 : Hid (Hashs w9 (.slice (some ⟨b, o, none⟩) mm c) a) := Lib.hid (HP.out.pure t9)
        have D79 : Hid (w9.heap[g7]? = some (.cells (u8s old).toArray 28 (0, 0))) := Lib.hid (t9.obj D7.out (fun e => e))
        have D109 : Hid (w9.heap[g10]? = some (.cells X.toArray 28 (0, 0))) := Lib.hid (t9.obj D10.out (fun e => e))
        have D119 : Hid (w9.heap[g11]? = some (.cells X.toArray 28 (0, 0))) := Lib.hid (t9.obj D11.out (fun e => e))
        have D149 : Hid (w9.heap[g14]? = some (.cells (u8s x).toArray 28 (0, 0))) := Lib.hid (t9.obj D14.out (fun e => e))
        have Cg159 : Hid (w9.heap[g15]? = some (.cells X.toArray 28 (0, 0))) := Lib.hid (t9.obj Cg15.out (fun e => e))
        have Cg16 := Lib.hid c9
        have Lg16 := Lib.hid e9
        have Ng15g16 : g15 ≠ g16 := by have := (Array.getElem?_eq_some_iff.1 Cg15.out).1; omega
        have Mg16 : w4.drew.heap.size ≤ g16 := by have := PB.out.size; omega
        clear PB HP D7 D10 D11 D14 Cg15
        have PB := Lib.hid PB9.out
        have HP := Lib.hid HP9.out
        have D7 := Lib.hid D79.out
        have D10 := Lib.hid D109.out
        have D11 := Lib.hid D119.out
        have D14 := Lib.hid D149.out
        have Cg15 := Lib.hid Cg159.out
        clear PB9 HP9 D79 D109 D119 D149 Cg159
        refine hK.out _ _ (range_of_row D7.out) ?_
        clear hK K t9 c9 e9 s9 Lg16
        try simp only [List.getElem_toArray, List.getElem_cons_succ, List.getElem_cons_zero, Act.put, List.setIfInBounds_toArray, List.set_cons_zero, List.set_cons_succ]
        refine wpAnyH_step (i := 16) (by kernel_rfl) rfl fun K hK => ?_
        refine step_store_blk rfl 28 _ _ rfl g15 _ (u8s A) _ rfl rfl Cg15.out (size28 hXl hA) (info28_l hA) (u8s_one _) ?_
        intro w9 c9 t9 s9
        have PB9 : Hid (Pure w4.drew w9) := Lib.hid (PB.out.trans t9 (fun q hq e => by omega))
        have HP9 : Hid (Hashs w9 (.slice (some ⟨b, o, none⟩) mm c) a) := Lib.hid (HP.out.turn t9 (fun hne q hq e => by have := HLT.out hne q hq; omega))
        have D79 : Hid (w9.heap[g7]? = some (.cells (u8s old).toArray 28 (0, 0))) := Lib.hid (t9.obj D7.out (by omega))
        have D109 : Hid (w9.heap[g10]? = some (.cells X.toArray 28 (0, 0))) := Lib.hid (t9.obj D10.out (by omega))
        have D119 : Hid (w9.heap[g11]? = some (.cells X.toArray 28 (0, 0))) := Lib.hid (t9.obj D11.out (by omega))
        have D149 : Hid (w9.heap[g14]? = some (.cells (u8s x).toArray 28 (0, 0))) := Lib.hid (t9.obj D14.out (by omega))
        have Cg169 : Hid (w9.heap[g16]? = some (.cells X.toArray 28 (0, 0))) := Lib.hid (t9.obj Cg16.out (by omega))
        have Cg159 := Lib.hid c9
        clear PB HP D7 D10 D11 D14 Cg16 Cg15
        have PB := Lib.hid PB9.out
        have HP := Lib.hid HP9.out
        have D7 := Lib.hid D79.out
        have D10 := Lib.hid D109.out
        have D11 := Lib.hid D119.out
        have D14 := Lib.hid D149.out
        have Cg16 := Lib.hid Cg169.out
        have Cg15 := Lib.hid Cg159.out
        clear PB9 HP9 D79 D109 D119 D149 Cg169 Cg159
        refine hK.out _ _ (range_of_row D7.out) ?_
        clear hK K t9 c9 s9
        try simp only [List.getElem_toArray, List.getElem_cons_succ, List.getElem_cons_zero, Act.put]
        refine wpAnyH_step (i := 17) (by kernel_rfl) rfl fun K hK => ?_
        refine step_store_blk rfl 28 _ _ rfl g16 _ (u8s B) _ rfl rfl Cg16.out (size28 hXl hB) (info28_l hB) (u8s_one _) ?_
        intro w9 c9 t9 s9
        have PB9 : Hid (Pure w4.drew w9) := Lib.hid (PB.out.trans t9 (fun q hq e => by omega))
        have HP9 : Hid (Hashs w9 (.slice (some ⟨b, o, none⟩) mm c) a) := Lib.hid (HP.out.turn t9 (fun hne q hq e => by have := HLT.out hne q hq; omega))
        have D79 : Hid (w9.heap[g7]? = some (.cells (u8s old).toArray 28 (0, 0))) := Lib.hid (t9.obj D7.out (by omega))
        have D109 : Hid (w9.heap[g10]? = some (.cells X.toArray 28 (0, 0))) := Lib.hid (t9.obj D10.out (by omega))
        have D119 : Hid (w9.heap[g11]? = some (.cells X.toArray 28 (0, 0))) := Lib.hid (t9.obj D11.out (by omega))
        have D149 : Hid (w9.heap[g14]? = some (.cells (u8s x).toArray 28 (0, 0))) := Lib.hid (t9.obj D14.out (by omega))
        have Cg159 : Hid (w9.heap[g15]? = some (.cells (u8s A).toArray 28 (0, 0))) := Lib.hid (t9.obj Cg15.out (by omega))
        have Cg169 := Lib.hid c9
        clear PB HP D7 D10 D11 D14 Cg15 Cg16
        have PB := Lib.hid PB9.out
        have HP := Lib.hid HP9.out
        have D7 := Lib.hid D79.out
        have D10 := Lib.hid D109.out
        have D11 := Lib.hid D119.out
        have D14 := Lib.hid D149.out
        have Cg15 := Lib.hid Cg159.out
        have Cg16 := Lib.hid Cg169.out
        clear PB9 HP9 D79 D109 D119 D149 Cg159 Cg169
        refine hK.out _ _ (range_of_row D7.out) ?_
        clear hK K t9 c9 s9
        try simp only [List.getElem_toArray, List.getElem_cons_succ, List.getElem_cons_zero, Act.put]
        refine wpAnyH_take (i := 18) (v := .bool OK) rfl (by kernel_rfl) (by kernel_rfl) (by kernel_rfl) (fun _ _ _ h => nomatch h.1) (Or.inl ⟨by rfl, fun w hSw => by go_simp⟩) (range_of_row D7.out) ?_
        simp only [List.getElem_toArray, List.getElem_cons_succ, List.getElem_cons_zero, Act.put, List.setIfInBounds_toArray, List.set_cons_zero, List.set_cons_succ]
        refine wpAnyH_done (by kernel_rfl) ?_ _
        exact ⟨rfl, g15, g16, rfl, PB.out, D10.out, D11.out, D14.out, Cg15.out, Cg16.out, Mg15, Mg16⟩
      · refine step_allocZ rfl 28 rfl X HZ.out ?_
        intro g16 w9 e9 c9 t9 s9
        have PB9 : Hid (Pure w4.drew w9) := Lib.hid (PB.out.pure t9)
        have HP9 : Hid (Hashs w9 (.slice (some ⟨b, o, none⟩) mm c) a) := Lib.hid (HP.out.pure t9)
        have D79 : Hid (w9.heap[g7]? = some (.cells (u8s old).toArray 28 (0, 0))) := Lib.hid (t9.obj D7.out (fun e => e))
        have D109 : Hid (w9.heap[g10]? = some (.cells X.toArray 28 (0, 0))) := Lib.hid (t9.obj D10.out (fun e => e))
        have D119 : Hid (w9.heap[g11]? = some (.cells X.toArray 28 (0, 0))) := Lib.hid (t9.obj D11.out (fun e => e))
        have D149 : Hid (w9.heap[g14]? = some (.cells (u8s x).toArray 28 (0, 0))) := Lib.hid (t9.obj D14.out (fun e => e))
        have Cg16 := Lib.hid c9
        have Lg16 := Lib.hid e9
        have Mg16 : w4.drew.heap.size ≤ g16 := by have := PB.out.size; omega
        clear PB HP D7 D10 D11 D14
        have PB := Lib.hid PB9.out
        have HP := Lib.hid HP9.out
        have D7 := Lib.hid D79.out
        have D10 := Lib.hid D109.out
        have D11 := Lib.hid D119.out
        have D14 := Lib.hid D149.out
        clear PB9 HP9 D79 D109 D119 D149
        refine hK.out _ _ (range_of_row D7.out) (fun _ => ?_)
        clear hK K t9 c9 e9 s9 Lg16
        try simp only [List.getElem_toArray, List.getElem_cons_succ, List.getElem_cons_zero, Act.put, List.setIfInBounds_toArray, List.set_cons_zero, List.set_cons_succ]
        refine wpAnyH_step (i := 14) (by kernel_rfl) rfl fun K hK => ?_
        refine step_allocZ rfl 28 rfl X HZ.out ?_
        intro g15 w9 e9 c9 t9 s9
        have PB9 : Hid (Pure w4.drew w9) := Lib.hid (PB.out.pure t9)
        have HP9 : Hid (Hashs w9 (.slice (some ⟨b, o, none⟩) mm c) a) := Lib.hid (HP.out.pure t9)
        have D79 : Hid (w9.heap[g7]? = some (.cells (u8s old).toArray 28 (0, 0))) := Lib.hid (t9.obj D7.out (fun e => e))
        have D109 : Hid (w9.heap[g10]? = some (.cells X.toArray 28 (0, 0))) := Lib.hid (t9.obj D10.out (fun e => e))
        have D119 : Hid (w9.heap[g11]? = some (.cells X.toArray 28 (0, 0))) := Lib.hid (t9.obj D11.out (fun e => e))
        have D149 : Hid (w9.heap[g14]? = some (.cells (u8s x).toArray 28 (0, 0))) := Lib.hid (t9.obj D14.out (fun e => e))
        have Cg169 : Hid (w9.heap[g16]? = some (.cells X.toArray 28 (0, 0))) := Lib.hid (t9.obj Cg16.out (fun e => e))
        have Cg15 := Lib.hid c9
        have Lg15 := Lib.hid e9
        have Ng16g15 : g16 ≠ g15 := by have := (Array.getElem?_eq_some_iff.1 Cg16.out).1; omega
        have Mg15 : w4.drew.heap.size ≤ g15 := by have := PB.out.size; omega
        clear PB HP D7 D10 D11 D14 Cg16
        have PB := Lib.hid PB9.out
        have HP := Lib.hid HP9.out
        have D7 := Lib.hid D79.out
        have D10 := Lib.hid D109.out
        have D11 := Lib.hid D119.out
        have D14 := Lib.hid D149.out
        have Cg16 := Lib.hid Cg169.out
        clear PB9 HP9 D79 D109 D119 D149 Cg169
        refine hK.out _ _ (range_of_row D7.out) ?_
        clear hK K t9 c9 e9 s9 Lg15
        try simp only [List.getElem_toArray, List.getElem_cons_succ, List.getElem_cons_zero, Act.put, List.setIfInBounds_toArray, List.set_cons_zero, List.set_cons_succ]
        refine wpAnyH_step (i := 16) (by kernel_rfl) rfl fun K hK => ?_
        refine step_store_blk rfl 28 _ _ rfl g15 _ (u8s A) _ rfl rfl Cg15.out (size28 hXl hA) (info28_l hA) (u8s_one _) ?_
        intro w9 c9 t9 s9
        have PB9 : Hid (Pure w4.drew w9) := Lib.hid (PB.out.trans t9 (fun q hq e => by omega))
        have HP9 : Hid (Hashs w9 (.slice (some ⟨b, o, none⟩) mm c) a) := Lib.hid (HP.out.turn t9 (fun hne q hq e => by have := HLT.out hne q hq; omega))
        have D79 : Hid (w9.heap[g7]? = some (.cells (u8s old).toArray 28 (0, 0))) := Lib.hid (t9.obj D7.out (by omega))
        have D109 : Hid (w9.heap[g10]? = some (.cells X.toArray 28 (0, 0))) := Lib.hid (t9.obj D10.out (by omega))
        have D119 : Hid (w9.heap[g11]? = some (.cells X.toArray 28 (0, 0))) := Lib.hid (t9.obj D11.out (by omega))
        have D149 : Hid (w9.heap[g14]? = some (.cells (u8s x).toArray 28 (0, 0))) := Lib.hid (t9.obj D14.out (by omega))
        have Cg169 : Hid (w9.heap[g16]? = some (.cells X.toArray 28 (0, 0))) := Lib.hid (t9.obj Cg16.out (by omega))
        have Cg159 := Lib.hid c9
        clear PB HP D7 D10 D11 D14 Cg16 Cg15
        have PB := Lib.hid PB9.out
        have HP := Lib.hid HP9.out
        have D7 := Lib.hid D79.out
        have D10 := Lib.hid D109.out
        have D11 := Lib.hid D119.out
        have D14 := Lib.hid D149.out
        have Cg16 := Lib.hid Cg169.out
        have Cg15 := Lib.hid Cg159.out
        clear PB9 HP9 D79 D109 D119 D149 Cg169 Cg159
        refine hK.out _ _ (range_of_row D7.out) ?_
        clear hK K t9 c9 s9
        try simp only [List.getElem_toArray, List.getElem_cons_succ, List.getElem_cons_zero, Act.put]
        refine wpAnyH_step (i := 17) (by kernel_rfl) rfl fun K hK => ?_
        refine step_store_blk rfl 28 _ _ rfl g16 _ (u8s B) _ rfl rfl Cg16.out (size28 hXl hB) (info28_l hB) (u8s_one _) ?_
        intro w9 c9 t9 s9
        have PB9 : Hid (Pure w4.drew w9) := Lib.hid (PB.out.trans t9 (fun q hq e => by omega))
        have HP9 : Hid (Hashs w9 (.slice (some ⟨b, o, none⟩) mm c) a) := Lib.hid (HP.out.turn t9 (fun hne q hq e => by have := HLT.out hne q hq; omega))
        have D79 : Hid (w9.heap[g7]? = some (.cells (u8s old).toArray 28 (0, 0))) := Lib.hid (t9.obj D7.out (by omega))
        have D109 : Hid (w9.heap[g10]? = some (.cells X.toArray 28 (0, 0))) := Lib.hid (t9.obj D10.out (by omega))
        have D119 : Hid (w9.heap[g11]? = some (.cells X.toArray 28 (0, 0))) := Lib.hid (t9.obj D11.out (by omega))
        have D149 : Hid (w9.heap[g14]? = some (.cells (u8s x).toArray 28 (0, 0))) := Lib.hid (t9.obj D14.out (by omega))
        have Cg159 : Hid (w9.heap[g15]? = some (.cells (u8s A).toArray 28 (0, 0))) := Lib.hid (t9.obj Cg15.out (by omega))
        have Cg169 := Lib.hid c9
        clear PB HP D7 D10 D11 D14 Cg15 Cg16
        have PB := Lib.hid PB9.out
        have HP := Lib.hid HP9.out
        have D7 := Lib.hid D79.out
        have D10 := Lib.hid D109.out
        have D11 := Lib.hid D119.out
        have D14 := Lib.hid D149.out
        have Cg15 := Lib.hid Cg159.out
        have Cg16 := Lib.hid Cg169.out
        clear PB9 HP9 D79 D109 D119 D149 Cg159 Cg169
        refine hK.out _ _ (range_of_row D7.out) ?_
        clear hK K t9 c9 s9
        try simp only [List.getElem_toArray, List.getElem_cons_succ, List.getElem_cons_zero, Act.put]
        refine wpAnyH_take (i := 18) (v := .bool OK) rfl (by kernel_rfl) (by kernel_rfl) (by kernel_rfl) (fun _ _ _ h => nomatch h.1) (Or.inl ⟨by rfl, fun w hSw => by go_simp⟩) (range_of_row D7.out) ?_
        simp only [List.getElem_toArray, List.getElem_cons_succ, List.getElem_cons_zero, Act.put, List.setIfInBounds_toArray, List.set_cons_zero, List.set_cons_succ]
        refine wpAnyH_done (by kernel_rfl) ?_ _
        exact ⟨rfl, g15, g16, rfl, PB.out, D10.out, D11.out, D14.out, Cg15.out, Cg16.out, Mg15, Mg16⟩
    · refine step_allocZ rfl 28 rfl X HZ.out ?_
      intro g15 w9 e9 c9 t9 s9
      have PB9 : Hid (Pure w4.drew w9) := Lib.hid (PB.out.pure t9)
      have HP9 : Hid (Hashs w9 (.slice (some ⟨b, o, none⟩) mm c) a) := Lib.hid (HP.out.pure t9)
      have D79 : Hid (w9.heap[g7]? = some (.cells (u8s old).toArray 28 (0, 0))) := Lib.hid (t9.obj D7.out (fun e => e))
      have D109 : Hid (w9.heap[g10]? = some (.cells X.toArray 28 (0, 0))) := Lib.hid (t9.obj D10.out (fun e => e))
      have D119 : Hid (w9.heap[g11]? = some (.cells X.toArray 28 (0, 0))) := Lib.hid (t9.obj D11.out (fun e => e))
      have D149 : Hid (w9.heap[g14]? = some (.cells (u8s x).toArray 28 (0, 0))) := Lib.hid (t9.obj D14.out (fun e => e))
      have Cg15 := Lib.hid c9
      have Lg15 := Lib.hid e9
      have Mg15 : w4.drew.heap.size ≤ g15 := by have := PB.out.size; omega
      clear PB HP D7 D10 D11 D14
      have PB := Lib.hid PB9.out
      have HP := Lib.hid HP9.out
      have D7 := Lib.hid D79.out
      have D10 := Lib.hid D109.out
      have D11 := Lib.hid D119.out
      have D14 := Lib.hid D149.out
      clear PB9 HP9 D79 D109 D119 D149
      refine hK.out _ _ (range_of_row D7.out) (fun _ => ?_)
      clear hK K t9 c9 e9 s9 Lg15
      try simp only [List.getElem_toArray, List.getElem_cons_succ, List.getElem_cons_zero, Act.put, List.setIfInBounds_toArray, List.set_cons_zero, List.set_cons_succ]
      refine wpAnyH_ready (rs := [9, 15]) (by kernel_rfl) (by simp) (AllReadyH.cons rfl (fun K hK => ?_) (AllReadyH.cons rfl (fun K hK => ?_) AllReadyH.nil))
      · go_simp
        refine (IH.out _ HP.out).mono ?_
        rintro e w9 ⟨rfl, t9⟩
        have PB9 : Hid (Pure w4.drew w9) := Lib.hid (PB.out.pure t9)
        have HP9 : Hid (Hashs w9 (.slice (some ⟨b, o, none⟩) mm c) a) := Lib.hid (HP.out.pure t9)
        have D79 : Hid (w9.heap[g7]? = some (.cells (u8s old).toArray 28 (0, 0))) := Lib.hid (t9.obj D7.out (fun e => e))
        have D109 : Hid (w9.heap[g10]? = some (.cells X.toArray 28 (0, 0))) := Lib.hid (t9.obj D10.out (fun e => e))
        have D119 : Hid (w9.heap[g11]? = some (.cells X.toArray 28 (0, 0))) := Lib.hid (t9.obj D11.out (fun e => e))
        have D149 : Hid (w9.heap[g14]? = some (.cells (u8s x).toArray 28 (0, 0))) := Lib.hid (t9.obj D14.out (fun e => e))
        have Cg159 : Hid (w9.heap[g15]? = some (.cells X.toArray 28 (0, 0))) := Lib.hid (t9.obj Cg15.out (fun e => e))
        clear PB HP D7 D10 D11 D14 Cg15
        have PB := Lib.hid PB9.out
        have HP := Lib.hid HP9.out
        have D7 := Lib.hid D79.out
        have D10 := Lib.hid D109.out
        have D11 := Lib.hid D119.out
        have D14 := Lib.hid D149.out
        have Cg15 := Lib.hid Cg159.out
        clear PB9 HP9 D79 D109 D119 D149 Cg159
        refine hK.out _ _ (range_of_row D7.out) (fun _ => ?_)
        clear hK K t9
        try simp only [List.getElem_toArray, List.getElem_cons_succ, List.getElem_cons_zero, Act.put, List.setIfInBounds_toArray, List.set_cons_zero, List.set_cons_succ]
        refine wpAnyH_take (i := 10) (v := .tuple #[hv A, hv B, .bool OK]) rfl (by kernel_rfl) (by kernel_rfl) (by kernel_rfl) (fun _ _ _ h => nomatch h.1) (Or.inl ⟨by rfl, fun w hSw => by go_simp⟩) (range_of_row D7.out) ?_
        simp only [List.getElem_toArray, List.getElem_cons_succ, List.getElem_cons_zero, Act.put, List.setIfInBounds_toArray, List.set_cons_zero, List.set_cons_succ]
        refine wpAnyH_take (i := 11) (v := hv A) rfl (by kernel_rfl) (by kernel_rfl) (by kernel_rfl) (fun _ _ _ h => nomatch h.1) (Or.inl ⟨by rfl, fun w hSw => by go_simp⟩) (range_of_row D7.out) ?_
        simp only [List.getElem_toArray, List.getElem_cons_succ, List.getElem_cons_zero, Act.put, List.setIfInBounds_toArray, List.set_cons_zero, List.set_cons_succ]
        refine wpAnyH_take (i := 12) (v := hv B) rfl (by kernel_rfl) (by kernel_rfl) (by kernel_rfl) (fun _ _ _ h => nomatch h.1) (Or.inl ⟨by rfl, fun w hSw => by go_simp⟩) (range_of_row D7.out) ?_
        simp only [List.getElem_toArray, List.getElem_cons_succ, List.getElem_cons_zero, Act.put, List.setIfInBounds_toArray, List.set_cons_zero, List.set_cons_succ]
        refine wpAnyH_take (i := 13) (v := .bool OK) rfl (by kernel_rfl) (by kernel_rfl) (by kernel_rfl) (fun _ _ _ h => nomatch h.1) (Or.inl ⟨by rfl, fun w hSw => by go_simp⟩) (range_of_row D7.out) ?_
        simp only [List.getElem_toArray, List.getElem_cons_succ, List.getElem_cons_zero, Act.put, List.setIfInBounds_toArray, List.set_cons_zero, List.set_cons_succ]
        refine wpAnyH_step (i := 15) (by kernel_rfl) rfl fun K hK => ?_
        refine step_allocZ rfl 28 rfl X HZ.out ?_
        intro g16 w9 e9 c9 t9 s9
        have PB9 : Hid (Pure w4.drew w9) := Lib.hid (PB.out.pure t9)
        have HP9 : Hid (Hashs w9 (.slice (some ⟨b, o, none⟩) mm c) a) := Lib.hid (HP.out.pure t9)
        have D79 : Hid (w9.heap[g7]? = some (.cells (u8s old).toArray 28 (0, 0))) := Lib.hid (t9.obj D7.out (fun e => e))
        have D109 : Hid (w9.heap[g10]? = some (.cells X.toArray 28 (0, 0))) := Lib.hid (t9.obj D10.out (fun e => e))
        have D119 : Hid (w9.heap[g11]? = some (.cells X.toArray 28 (0, 0))) := Lib.hid (t9.obj D11.out (fun e => e))
        have D149 : Hid (w9.heap[g14]? = some (.cells (u8s x).toArray 28 (0, 0))) := Lib.hid (t9.obj D14.out (fun e => e))
        have Cg159 : Hid (w9.heap[g15]? = some (.cells X.toArray 28 (0, 0))) := Lib.hid (t9.obj Cg15.out (fun e => e))
        have Cg16 := Lib.hid c9
        have Lg16 := Lib.hid e9
        have Ng15g16 : g15 ≠ g16 := by have := (Array.getElem?_eq_some_iff.1 Cg15.out).1; omega
        have Mg16 : w4.drew.heap.size ≤ g16 := by have := PB.out.size; omega
        clear PB HP D7 D10 D11 D14 Cg15
        have PB := Lib.hid PB9.out
        have HP := Lib.hid HP9.out
        have D7 := Lib.hid D79.out
        have D10 := Lib.hid D109.out
        have D11 := Lib.hid D119.out
        have D14 := Lib.hid D149.out
        have Cg15 := Lib.hid Cg159.out
        clear PB9 HP9 D79 D109 D119 D149 Cg159
        refine hK.out _ _ (range_of_row D7.out) ?_
        clear hK K t9 c9 e9 s9 Lg16
        try simp only [List.getElem_toArray, List.getElem_cons_succ, List.getElem_cons_zero, Act.put, List.setIfInBounds_toArray, List.set_cons_zero, List.set_cons_succ]
        refine wpAnyH_step (i := 16) (by kernel_rfl) rfl fun K hK => ?_
        refine step_store_blk rfl 28 _ _ rfl g15 _ (u8s A) _ rfl rfl Cg15.out (size28 hXl hA) (info28_l hA) (u8s_one _) ?_
        intro w9 c9 t9 s9
        have PB9 : Hid (Pure w4.drew w9) := Lib.hid (PB.out.trans t9 (fun q hq e => by omega))
        have HP9 : Hid (Hashs w9 (.slice (some ⟨b, o, none⟩) mm c) a) := Lib.hid (HP.out.turn t9 (fun hne q hq e => by have := HLT.out hne q hq; omega))
        have D79 : Hid (w9.heap[g7]? = some (.cells (u8s old).toArray 28 (0, 0))) := Lib.hid (t9.obj D7.out (by omega))
        have D109 : Hid (w9.heap[g10]? = some (.cells X.toArray 28 (0, 0))) := Lib.hid (t9.obj D10.out (by omega))
        have D119 : Hid (w9.heap[g11]? = some (.cells X.toArray 28 (0, 0))) := Lib.hid (t9.obj D11.out (by omega))
        have D149 : Hid (w9.heap[g14]? = some (.cells (u8s x).toArray 28 (0, 0))) := Lib.hid (t9.obj D14.out (by omega))
        have Cg169 : Hid (w9.heap[g16]? = some (.cells X.toArray 28 (0, 0))) := Lib.hid (t9.obj Cg16.out (by omega))
        have Cg159 := Lib.hid c9
        clear PB HP D7 D10 D11 D14 Cg16 Cg15
        have PB := Lib.hid PB9.out
        have HP := Lib.hid HP9.out
        have D7 := Lib.hid D79.out
        have D10 := Lib.hid D109.out
        have D11 := Lib.hid D119.out
        have D14 := Lib.hid D149.out
        have Cg16 := Lib.hid Cg169.out
        have Cg15 := Lib.hid Cg159.out
        clear PB9 HP9 D79 D109 D119 D149 Cg169 Cg159
        refine hK.out _ _ (range_of_row D7.out) ?_
        clear hK K t9 c9 s9
        try simp only [List.getElem_toArray, List.getElem_cons_succ, List.getElem_cons_zero, Act.put]
        refine wpAnyH_step (i := 17) (by kernel_rfl) rfl fun K hK => ?_
        refine step_store_blk rfl 28 _ _ rfl g16 _ (u8s B) _ rfl rfl Cg16.out (size28 hXl hB) (info28_l hB) (u8s_one _) ?_
        intro w9 c9 t9 s9
        have PB9 : Hid (Pure w4.drew w9) := Lib.hid (PB.out.trans t9 (fun q hq e => by omega))
        have HP9 : Hid (Hashs w9 (.slice (some ⟨b, o, none⟩) mm c) a) := Lib.hid (HP.out.turn t9 (fun hne q hq e => by have := HLT.out hne q hq; omega))
        have D79 : Hid (w9.heap[g7]? = some (.cells (u8s old).toArray 28 (0, 0))) := Lib.hid (t9.obj D7.out (by omega))
        have D109 : Hid (w9.heap[g10]? = some (.cells X.toArray 28 (0, 0))) := Lib.hid (t9.obj D10.out (by omega))
        have D119 : Hid (w9.heap[g11]? = some (.cells X.toArray 28 (0, 0))) := Lib.hid (t9.obj D11.out (by omega))
        have D149 : Hid (w9.heap[g14]? = some (.cells (u8s x).toArray 28 (0, 0))) := Lib.hid (t9.obj D14.out (by omega))
        have Cg159 : Hid (w9.heap[g15]? = some (.cells (u8s A).toArray 28 (0, 0))) := Lib.hid (t9.obj Cg15.out (by omega))
        have Cg169 := Lib.hid c9
        clear PB HP D7 D10 D11 D14 Cg15 Cg16
        have PB := Lib.hid PB9.out
        have HP := Lib.hid HP9.out
        have D7 := Lib.hid D79.out
        have D10 := Lib.hid D109.out
        have D11 := Lib.hid D119.out
        have D14 := Lib.hid D149.out
        have Cg15 := Lib.hid Cg159.out
        have Cg16 := Lib.hid Cg169.out
        clear PB9 HP9 D79 D109 D119 D149 Cg159 Cg169
        refine hK.out _ _ (range_of_row D7.out) ?_
        clear hK K t9 c9 s9
        try simp only [List.getElem_toArray, List.getElem_cons_succ, List.getElem_cons_zero, Act.put]
        refine wpAnyH_take (i := 18) (v := .bool OK) rfl (by kernel_rfl) (by kernel_rfl) (by kernel_rfl) (fun _ _ _ h => nomatch h.1) (Or.inl ⟨by rfl, fun w hSw => by go_simp⟩) (range_of_row D7.out) ?_
        simp only [List.getElem_toArray, List.getElem_cons_succ, List.getElem_cons_zero, Act.put, List.setIfInBounds_toArray, List.set_cons_zero, List.set_cons_succ]
        refine wpAnyH_done (by kernel_rfl) ?_ _
        exact ⟨rfl, g15, g16, rfl, PB.out, D10.out, D11.out, D14.out, Cg15.out, Cg16.out, Mg15, Mg16⟩
      · refine step_allocZ rfl 28 rfl X HZ.out ?_
        intro g16 w9 e9 c9 t9 s9
        have PB9 : Hid (Pure w4.drew w9) := Lib.hid (PB.out.pure t9)
        have HP9 : Hid (Hashs w9 (.slice (some ⟨b, o, none⟩) mm c) a) := Lib.hid (HP.out.pure t9)
        have D79 : Hid (w9.heap[g7]? = some (.cells (u8s old).toArray 28 (0, 0))) := Lib.hid (t9.obj D7.out (fun e => e))
        have D109 : Hid (w9.heap[g10]? = some (.cells X.toArray 28 (0, 0))) := Lib.hid (t9.obj D10.out (fun e => e))
        have D119 : Hid (w9.heap[g11]? = some (.cells X.toArray 28 (0, 0))) := Lib.hid (t9.obj D11.out (fun e => e))
        have D149 : Hid (w9.heap[g14]? = some (.cells (u8s x).toArray 28 (0, 0))) := Lib.hid (t9.obj D14.out (fun e => e))
        have Cg159 : Hid (w9.heap[g15]? = some (.cells X.toArray 28 (0, 0))) := Lib.hid (t9.obj Cg15.out (fun e => e))
        have Cg16 := Lib.hid c9
        have Lg16 := Lib.hid e9
        have Ng15g16 : g15 ≠ g16 := by have := (Array.getElem?_eq_some_iff.1 Cg15.out).1; omega
        have Mg16 : w4.drew.heap.size ≤ g16 := by have := PB.out.size; omega
        clear PB HP D7 D10 D11 D14 Cg15
        have PB := Lib.hid PB9.out
        have HP := Lib.hid HP9.out
        have D7 := Lib.hid D79.out
        have D10 := Lib.hid D109.out
        have D11 := Lib.hid D119.out
        have D14 := Lib.hid D149.out
        have Cg15 := Lib.hid Cg159.out
        clear PB9 HP9 D79 D109 D119 D149 Cg159
        refine hK.out _ _ (range_of_row D7.out) (fun _ => ?_)
        clear hK K t9 c9 e9 s9 Lg16
        try simp only [List.getElem_toArray, List.getElem_cons_succ, List.getElem_cons_zero, Act.put, List.setIfInBounds_toArray, List.set_cons_zero, List.set_cons_succ]
        refine wpAnyH_step (i := 9) (by kernel_rfl) rfl fun K hK => ?_
        go_simp
        refine (IH.out _ HP.out).mono ?_
        rintro e w9 ⟨rfl, t9⟩
        have PB9 : Hid (Pure w4.drew w9) := Lib.hid (PB.out.pure t9)
        have HP9 : Hid (Hashs w9 (.slice (some ⟨b, o, none⟩) mm c) a) := Lib.hid (HP.out.pure t9)
        have D79 : Hid (w9.heap[g7]? = some (.cells (u8s old).toArray 28 (0, 0))) := Lib.hid (t9.obj D7.out (fun e => e))
        have D109 : Hid (w9.heap[g10]? = some (.cells X.toArray 28 (0, 0))) := Lib.hid (t9.obj D10.out (fun e => e))
        have D119 : Hid (w9.heap[g11]? = some (.cells X.toArray 28 (0, 0))) := Lib.hid (t9.obj D11.out (fun e => e))
        have D149 : Hid (w9.heap[g14]? = some (.cells (u8s x).toArray 28 (0, 0))) := Lib.hid (t9.obj D14.out (fun e => e))
        have Cg159 : Hid (w9.heap[g15]? = some (.cells X.toArray 28 (0, 0))) := Lib.hid (t9.obj Cg15.out (fun e => e))
        have Cg169 : Hid (w9.heap[g16]? = some (.cells X.toArray 28 (0, 0))) := Lib.hid (t9.obj Cg16.out (fun e => e))
        clear PB HP D7 D10 D11 D14 Cg15 Cg16
        have PB := Lib.hid PB9.out
        have HP := Lib.hid HP9.out
        have D7 := Lib.hid D79.out
        have D10 := Lib.hid D109.out
        have D11 := Lib.hid D119.out
        have D14 := Lib.hid D149.out
        have Cg15 := Lib.hid Cg159.out
        have Cg16 := Lib.hid Cg169.out
        clear PB9 HP9 D79 D109 D119 D149 Cg159 Cg169
        refine hK.out _ _ (range_of_row D7.out) ?_
        clear hK K t9
        try simp only [List.getElem_toArray, List.getElem_cons_succ, List.getElem_cons_zero, Act.put, List.setIfInBounds_toArray, List.set_cons_zero, List.set_cons_succ]
        refine wpAnyH_take (i := 10) (v := .tuple #[hv A, hv B, .bool OK]) rfl (by kernel_rfl) (by kernel_rfl) (by kernel_rfl) (fun _ _ _ h => nomatch h.1) (Or.inl ⟨by rfl, fun w hSw => by go_simp⟩) (range_of_row D7.out) ?_
        simp only [List.getElem_toArray, List.getElem_cons_succ, List.getElem_cons_zero, Act.put, List.setIfInBounds_toArray, List.set_cons_zero, List.set_cons_succ]
        refine wpAnyH_take (i := 11) (v := hv A) rfl (by kernel_rfl) (by kernel_rfl) (by kernel_rfl) (fun _ _ _ h => nomatch h.1) (Or.inl ⟨by rfl, fun w hSw => by go_simp⟩) (range_of_row D7.out) ?_
        simp only [List.getElem_toArray, List.getElem_cons_succ, List.getElem_cons_zero, Act.put, List.setIfInBounds_toArray, List.set_cons_zero, List.set_cons_succ]
        refine wpAnyH_take (i := 12) (v := hv B) rfl (by kernel_rfl) (by kernel_rfl) (by kernel_rfl) (fun _ _ _ h => nomatch h.1) (Or.inl ⟨by rfl, fun w hSw => by go_simp⟩) (range_of_row D7.out) ?_
        simp only [List.getElem_toArray, List.getElem_cons_succ, List.getElem_cons_zero, Act.put, List.setIfInBounds_toArray, List.set_cons_zero, List.set_cons_succ]
        refine wpAnyH_take (i := 13) (v := .bool OK) rfl (by kernel_rfl) (by kernel_rfl) (by kernel_rfl) (fun _ _ _ h => nomatch h.1) (Or.inl ⟨by rfl, fun w hSw => by go_simp⟩) (range_of_row D7.out) ?_
        simp only [List.getElem_toArray, List.getElem_cons_succ, List.getElem_cons_zero, Act.put, List.setIfInBounds_toArray, List.set_cons_zero, List.set_cons_succ]
        refine wpAnyH_step (i := 16) (by kernel_rfl) rfl fun K hK => ?_
        refine step_store_blk rfl 28 _ _ rfl g15 _ (u8s A) _ rfl rfl Cg15.out (size28 hXl hA) (info28_l hA) (u8s_one _) ?_
        intro w9 c9 t9 s9
        have PB9 : Hid (Pure w4.drew w9) := Lib.hid (PB.out.trans t9 (fun q hq e => by omega))
        have HP9 : Hid (Hashs w9 (.slice (some ⟨b, o, none⟩) mm c) a) := Lib.hid (HP.out.turn t9 (fun hne q hq e => by have := HLT.out hne q hq; omega))
        have D79 : Hid (w9.heap[g7]? = some (.cells (u8s old).toArray 28 (0, 0))) := Lib.hid (t9.obj D7.out (by omega))
        have D109 : Hid (w9.heap[g10]? = some (.cells X.toArray 28 (0, 0))) := Lib.hid (t9.obj D10.out (by omega))
        have D119 : Hid (w9.heap[g11]? = some (.cells X.toArray 28 (0, 0))) := Lib.hid (t9.obj D11.out (by omega))
        have D149 : Hid (w9.heap[g14]? = some (.cells (u8s x).toArray 28 (0, 0))) := Lib.hid (t9.obj D14.out (by omega))
        have Cg169 : Hid (w9.heap[g16]? = some (.cells X.toArray 28 (0, 0))) := Lib.hid (t9.obj Cg16.out (by omega))
        have Cg159 := Lib.hid c9
        clear PB HP D7 D10 D11 D14 Cg16 Cg15
        have PB := Lib.hid PB9.out
        have HP := Lib.hid HP9.out
        have D7 := Lib.hid D79.out
        have D10 := Lib.hid D109.out
        have D11 := Lib.hid D119.out
        have D14 := Lib.hid D149.out
        have Cg16 := Lib.hid Cg169.out
        have Cg15 := Lib.hid Cg159.out
        clear PB9 HP9 D79 D109 D119 D149 Cg169 Cg159
        refine hK.out _ _ (range_of_row D7.out) ?_
        clear hK K t9 c9 s9
        try simp only [List.getElem_toArray, List.getElem_cons_succ, List.getElem_cons_zero, Act.put]
        refine wpAnyH_step (i := 17) (by kernel_rfl) rfl fun K hK => ?_
        refine step_store_blk rfl 28 _ _ rfl g16 _ (u8s B) _ rfl rfl Cg16.out (size28 hXl hB) (info28_l hB) (u8s_one _) ?_
        intro w9 c9 t9 s9
        have PB9 : Hid (Pure w4.drew w9) := Lib.hid (PB.out.trans t9 (fun q hq e => by omega))
        have HP9 : Hid (Hashs w9 (.slice (some ⟨b, o, none⟩) mm c) a) := Lib.hid (HP.out.turn t9 (fun hne q hq e => by have := HLT.out hne q hq; omega))
        have D79 : Hid (w9.heap[g7]? = some (.cells (u8s old).toArray 28 (0, 0))) := Lib.hid (t9.obj D7.out (by omega))
        have D109 : Hid (w9.heap[g10]? = some (.cells X.toArray 28 (0, 0))) := Lib.hid (t9.obj D10.out (by omega))
        have D119 : Hid (w9.heap[g11]? = some (.cells X.toArray 28 (0, 0))) := Lib.hid (t9.obj D11.out (by omega))
        have D149 : Hid (w9.heap[g14]? = some (.cells (u8s x).toArray 28 (0, 0))) := Lib.hid (t9.obj D14.out (by omega))
        have Cg159 : Hid (w9.heap[g15]? = some (.cells (u8s A).toArray 28 (0, 0))) := Lib.hid (t9.obj Cg15.out (by omega))
        have Cg169 := Lib.hid c9
        clear PB HP D7 D10 D11 D14 Cg15 Cg16
        have PB := Lib.hid PB9.out
        have HP := Lib.hid HP9.out
        have D7 := Lib.hid D79.out
        have D10 := Lib.hid D109.out
        have D11 := Lib.hid D119.out
        have D14 := Lib.hid D149.out
        have Cg15 := Lib.hid Cg159.out
        have Cg16 := Lib.hid Cg169.out
        clear PB9 HP9 D79 D109 D119 D149 Cg159 Cg169
        refine hK.out _ _ (range_of_row D7.out) ?_
        clear hK K t9 c9 s9
        try simp only [List.getElem_toArray, List.getElem_cons_succ, List.getElem_cons_zero, Act.put]
        refine wpAnyH_take (i := 18) (v := .bool OK) rfl (by kernel_rfl) (by kernel_rfl) (by kernel_rfl) (fun _ _ _ h => nomatch h.1) (Or.inl ⟨by rfl, fun w hSw => by go_simp⟩) (range_of_row D7.out) ?_
        simp only [List.getElem_toArray, List.getElem_cons_succ, List.getElem_cons_zero, Act.put, List.setIfInBounds_toArray, List.set_cons_zero, List.set_cons_succ]
        refine wpAnyH_done (by kernel_rfl) ?_ _
        exact ⟨rfl, g15, g16, rfl, PB.out, D10.out, D11.out, D14.out, Cg15.out, Cg16.out, Mg15, Mg16⟩
    · refine step_allocZ rfl 28 rfl X HZ.out ?_
      intro g16 w9 e9 c9 t9 s9
      have PB9 : Hid (Pure w4.drew w9) := Lib.hid (PB.out.pure t9)
      have HP9 : Hid (Hashs w9 (.slice (some ⟨b, o, none⟩) mm c) a) := Lib.hid (HP.out.pure t9)
      have D79 : Hid (w9.heap[g7]? = some (.cells (u8s old).toArray 28 (0, 0))) := Lib.hid (t9.obj D7.out (fun e => e))
      have D109 : Hid (w9.heap[g10]? = some (.cells X.toArray 28 (0, 0))) := Lib.hid (t9.obj D10.out (fun e => e))
      have D119 : Hid (w9.heap[g11]? = some (.cells X.toArray 28 (0, 0))) := Lib.hid (t9.obj D11.out (fun e => e))
      have D149 : Hid (w9.heap[g14]? = some (.cells (u8s x).toArray 28 (0, 0))) := Lib.hid (t9.obj D14.out (fun e => e))
      have Cg16 := Lib.hid c9
      have Lg16 := Lib.hid e9
      have Mg16 : w4.drew.heap.size ≤ g16 := by have := PB.out.size; omega
      clear PB HP D7 D10 D11 D14
      have PB := Lib.hid PB9.out
      have HP := Lib.hid HP9.out
      have D7 := Lib.hid D79.out
      have D10 := Lib.hid D109.out
      have D11 := Lib.hid D119.out
      have D14 := Lib.hid D149.out
      clear PB9 HP9 D79 D109 D119 D149
      refine hK.out _ _ (range_of_row D7.out) (fun _ => ?_)
      clear hK K t9 c9 e9 s9 Lg16
      try simp only [List.getElem_toArray, List.getElem_cons_succ, List.getElem_cons_zero, Act.put, List.setIfInBounds_toArray, List.set_cons_zero, List.set_cons_succ]
      refine wpAnyH_ready (rs := [9, 14]) (by kernel_rfl) (by simp) (AllReadyH.cons rfl (fun K hK => ?_) (AllReadyH.cons rfl (fun K hK => ?_) AllReadyH.nil))
      · go_simp
        refine (IH.out _ HP.out).mono ?_
        rintro e w9 ⟨rfl, t9⟩
        have PB9 : Hid (Pure w4.drew w9) := Lib.hid (PB.out.pure t9)
        have HP9 : Hid (Hashs w9 (.slice (some ⟨b, o, none⟩) mm c) a) := Lib.hid (HP.out.pure t9)
        have D79 : Hid (w9.heap[g7]? = some (.cells (u8s old).toArray 28 (0, 0))) := Lib.hid (t9.obj D7.out (fun e => e))
        have D109 : Hid (w9.heap[g10]? = some (.cells X.toArray 28 (0, 0))) := Lib.hid (t9.obj D10.out (fun e => e))
        have D119 : Hid (w9.heap[g11]? = some (.cells X.toArray 28 (0, 0))) := Lib.hid (t9.obj D11.out (fun e => e))
        have D149 : Hid (w9.heap[g14]? = some (.cells (u8s x).toArray 28 (0, 0))) := Lib.hid (t9.obj D14.out (fun e => e))
        have Cg169 : Hid (w9.heap[g16]? = some (.cells X.toArray 28 (0, 0))) := Lib.hid (t9.obj Cg16.out (fun e => e))
        clear PB HP D7 D10 D11 D14 Cg16
        have PB := Lib.hid PB9.out
        have HP := Lib.hid HP9.out
        have D7 := Lib.hid D79.out
        have D10 := Lib.hid D109.out
        have D11 := Lib.hid D119.out
        have D14 := Lib.hid D149.out
        have Cg16 := Lib.hid Cg169.out
        clear PB9 HP9 D79 D109 D119 D149 Cg169
        refine hK.out _ _ (range_of_row D7.out) (fun _ => ?_)
        clear hK K t9
        try simp only [List.getElem_toArray, List.getElem_cons_succ, List.getElem_cons_zero, Act.put, List.setIfInBounds_toArray, List.set_cons_zero, List.set_cons_succ]
        refine wpAnyH_take (i := 10) (v := .tuple #[hv A, hv B, .bool OK]) rfl (by kernel_rfl) (by kernel_rfl) (by kernel_rfl) (fun _ _ _ h => nomatch h.1) (Or.inl ⟨by rfl, fun w hSw => by go_simp⟩) (range_of_row D7.out) ?_
        simp only [List.getElem_toArray, List.getElem_cons_succ, List.getElem_cons_zero, Act.put, List.setIfInBounds_toArray, List.set_cons_zero, List.set_cons_succ]
        refine wpAnyH_take (i := 11) (v := hv A) rfl (by kernel_rfl) (by kernel_rfl) (by kernel_rfl) (fun _ _ _ h => nomatch h.1) (Or.inl ⟨by rfl, fun w hSw => by go_simp⟩) (range_of_row D7.out) ?_
        simp only [List.getElem_toArray, List.getElem_cons_succ, List.getElem_cons_zero, Act.put, List.setIfInBounds_toArray, List.set_cons_zero, List.set_cons_succ]
        refine wpAnyH_take (i := 12) (v := hv B) rfl (by kernel_rfl) (by kernel_rfl) (by kernel_rfl) (fun _ _ _ h => nomatch h.1) (Or.inl ⟨by rfl, fun w hSw => by go_simp⟩) (range_of_row D7.out) ?_
        simp only [List.getElem_toArray, List.getElem_cons_succ, List.getElem_cons_zero, Act.put, List.setIfInBounds_toArray, List.set_cons_zero, List.set_cons_succ]
        refine wpAnyH_take (i := 13) (v := .bool OK) rfl (by kernel_rfl) (by kernel_rfl) (by kernel_rfl) (fun _ _ _ h => nomatch h.1) (Or.inl ⟨by rfl, fun w hSw => by go_simp⟩) (range_of_row D7.out) ?_
        simp only [List.getElem_toArray, List.getElem_cons_succ, List.getElem_cons_zero, Act.put, List.setIfInBounds_toArray, List.set_cons_zero, List.set_cons_succ]
        refine wpAnyH_step (i := 14) (by kernel_rfl) rfl fun K hK => ?_
        refine step_allocZ rfl 28 rfl X HZ.out ?_
        intro g15 w9 e9 c9 t9 s9
        have PB9 : Hid (Pure w4.drew w9) := Lib.hid (PB.out.pure t9)
        have HP9 : Hid (Hashs w9 (.slice (some ⟨b, o, none⟩) mm c) a) := Lib.hid (HP.out.pure t9)
        have D79 : Hid (w9.heap[g7]? = some (.cells (u8s old).toArray 28 (0, 0))) := Lib.hid (t9.obj D7.out (fun e => e))
        have D109 : Hid (w9.heap[g10]? = some (.cells X.toArray 28 (0, 0))) := Lib.hid (t9.obj D10.out (fun e => e))
        have D119 : Hid (w9.heap[g11]? = some (.cells X.toArray 28 (0, 0))) := Lib.hid (t9.obj D11.out (fun e => e))
        have D149 : Hid (w9.heap[g14]? = some (.cells (u8s x).toArray 28 (0, 0))) := Lib.hid (t9.obj D14.out (fun e => e))
        have Cg169 : Hid (w9.heap[g16]? = some (.cells X.toArray 28 (0, 0))) := Lib.hid (t9.obj Cg16.out (fun e => e))
        have Cg15 := Lib.hid c9
        have Lg15 := Lib.hid e9
        have Ng16g15 : g16 ≠ g15 := by have := (Array.getElem?_eq_some_iff.1 Cg16.out).1; omega
        have Mg15 : w4.drew.heap.size ≤ g15 := by have := PB.out.size; omega
        clear PB HP D7 D10 D11 D14 Cg16
        have PB := Lib.hid PB9.out
        have HP := Lib.hid HP9.out
        have D7 := Lib.hid D79.out
        have D10 := Lib.hid D109.out
        have D11 := Lib.hid D119.out
        have D14 := Lib.hid D149.out
        have Cg16 := Lib.hid Cg169.out
        clear PB9 HP9 D79 D109 D119 D149 Cg169
        refine hK.out _ _ (range_of_row D7.out) ?_
        clear hK K t9 c9 e9 s9 Lg15
        try simp only [List.getElem_toArray, List.getElem_cons_succ, List.getElem_cons_zero, Act.put, List.setIfInBounds_toArray, List.set_cons_zero, List.set_cons_succ]
        refine wpAnyH_step (i := 16) (by kernel_rfl) rfl fun K hK => ?_
        refine step_store_blk rfl 28 _ _ rfl g15 _ (u8s A) _ rfl rfl Cg15.out (size28 hXl hA) (info28_l hA) (u8s_one _) ?_
        intro w9 c9 t9 s9
        have PB9 : Hid (Pure w4.drew w9) := Lib.hid (PB.out.trans t9 (fun q hq e => by omega))
        have HP9 : Hid (Hashs w9 (.slice (some ⟨b, o, none⟩) mm c) a) := Lib.hid (HP.out.turn t9 (fun hne q hq e => by have := HLT.out hne q hq; omega))
        have D79 : Hid (w9.heap[g7]? = some (.cells (u8s old).toArray 28 (0, 0))) := Lib.hid (t9.obj D7.out (by omega))
        have D109 : Hid (w9.heap[g10]? = some (.cells X.toArray 28 (0, 0))) := Lib.hid (t9.obj D10.out (by omega))
        have D119 : Hid (w9.heap[g11]? = some (.cells X.toArray 28 (0, 0))) := Lib.hid (t9.obj D11.out (by omega))
        have D149 : Hid (w9.heap[g14]? = some (.cells (u8s x).toArray 28 (0, 0))) := Lib.hid (t9.obj D14.out (by omega))
        have Cg169 : Hid (w9.heap[g16]? = some (.cells X.toArray 28 (0, 0))) := Lib.hid (t9.obj Cg16.out (by omega))
        have Cg159 := Lib.hid c9
        clear PB HP D7 D10 D11 D14 Cg16 Cg15
        have PB := Lib.hid PB9.out
        have HP := Lib.hid HP9.out
        have D7 := Lib.hid D79.out
        have D10 := Lib.hid D109.out
        have D11 := Lib.hid D119.out
        have D14 := Lib.hid D149.out
        have Cg16 := Lib.hid Cg169.out
        have Cg15 := Lib.hid Cg159.out
        clear PB9 HP9 D79 D109 D119 D149 Cg169 Cg159
        refine hK.out _ _ (range_of_row D7.out) ?_
        clear hK K t9 c9 s9
        try simp only [List.getElem_toArray, List.getElem_cons_succ, List.getElem_cons_zero, Act.put]
        refine wpAnyH_step (i := 17) (by kernel_rfl) rfl fun K hK => ?_
        refine step_store_blk rfl 28 _ _ rfl g16 _ (u8s B) _ rfl rfl Cg16.out (size28 hXl hB) (info28_l hB) (u8s_one _) ?_
        intro w9 c9 t9 s9
        have PB9 : Hid (Pure w4.drew w9) := Lib.hid (PB.out.trans t9 (fun q hq e => by omega))
        have HP9 : Hid (Hashs w9 (.slice (some ⟨b, o, none⟩) mm c) a) := Lib.hid (HP.out.turn t9 (fun hne q hq e => by have := HLT.out hne q hq; omega))
        have D79 : Hid (w9.heap[g7]? = some (.cells (u8s old).toArray 28 (0, 0))) := Lib.hid (t9.obj D7.out (by omega))
        have D109 : Hid (w9.heap[g10]? = some (.cells X.toArray 28 (0, 0))) := Lib.hid (t9.obj D10.out (by omega))
        have D119 : Hid (w9.heap[g11]? = some (.cells X.toArray 28 (0, 0))) := Lib.hid (t9.obj D11.out (by omega))
        have D149 : Hid (w9.heap[g14]? = some (.cells (u8s x).toArray 28 (0, 0))) := Lib.hid (t9.obj D14.out (by omega))
        have Cg159 : Hid (w9.heap[g15]? = some (.cells (u8s A).toArray 28 (0, 0))) := Lib.hid (t9.obj Cg15.out (by omega))
        have Cg169 := Lib.hid c9
        clear PB HP D7 D10 D11 D14 Cg15 Cg16
        have PB := Lib.hid PB9.out
        have HP := Lib.hid HP9.out
        have D7 := Lib.hid D79.out
        have D10 := Lib.hid D109.out
        have D11 := Lib.hid D119.out
        have D14 := Lib.hid D149.out
        have Cg15 := Lib.hid Cg159.out
        have Cg16 := Lib.hid Cg169.out
        clear PB9 HP9 D79 D109 D119 D149 Cg159 Cg169
        refine hK.out _ _ (range_of_row D7.out) ?_
        clear hK K t9 c9 s9
        try simp only [List.getElem_toArray, List.getElem_cons_succ, List.getElem_cons_zero, Act.put]
        refine wpAnyH_take (i := 18) (v := .bool OK) rfl (by kernel_rfl) (by kernel_rfl) (by kernel_rfl) (fun _ _ _ h => nomatch h.1) (Or.inl ⟨by rfl, fun w hSw => by go_simp⟩) (range_of_row D7.out) ?_
        simp only [List.getElem_toArray, List.getElem_cons_succ, List.getElem_cons_zero, Act.put, List.setIfInBounds_toArray, List.set_cons_zero, List.set_cons_succ]
        refine wpAnyH_done (by kernel_rfl) ?_ _
        exact ⟨rfl, g15, g16, rfl, PB.out, D10.out, D11.out, D14.out, Cg15.out, Cg16.out, Mg15, Mg16⟩
      · refine step_allocZ rfl 28 rfl X HZ.out ?_
        intro g15 w9 e9 c9 t9 s9
        have PB9 : Hid (Pure w4.drew w9) := Lib.hid (PB.out.pure t9)
        have HP9 : Hid (Hashs w9 (.slice (some ⟨b, o, none⟩) mm c) a) := Lib.hid (HP.out.pure t9)
        have D79 : Hid (w9.heap[g7]? = some (.cells (u8s old).toArray 28 (0, 0))) := Lib.hid (t9.obj D7.out (fun e => e))
        have D109 : Hid (w9.heap[g10]? = some (.cells X.toArray 28 (0, 0))) := Lib.hid (t9.obj D10.out (fun e => e))
        have D119 : Hid (w9.heap[g11]? = some (.cells X.toArray 28 (0, 0))) := Lib.hid (t9.obj D11.out (fun e => e))
        have D149 : Hid (w9.heap[g14]? = some (.cells (u8s x).toArray 28 (0, 0))) := Lib.hid (t9.obj D14.out (fun e => e))
        have Cg169 : Hid (w9.heap[g16]? = some (.cells X.toArray 28 (0, 0))) := Lib.hid (t9.obj Cg16.out (fun e => e))
        have Cg15 := Lib.hid c9
        have Lg15 := Lib.hid e9
        have Ng16g15 : g16 ≠ g15 := by have := (Array.getElem?_eq_some_iff.1 Cg16.out).1; omega
        have Mg15 : w4.drew.heap.size ≤ g15 := by have := PB.out.size; omega
        clear PB HP D7 D10 D11 D14 Cg16
        have PB := Lib.hid PB9.out
        have HP := Lib.hid HP9.out
        have D7 := Lib.hid D79.out
        have D10 := Lib.hid D109.out
        have D11 := Lib.hid D119.out
        have D14 := Lib.hid D149.out
        have Cg16 := Lib.hid Cg169.out
        clear PB9 HP9 D79 D109 D119 D149 Cg169
        refine hK.out _ _ (range_of_row D7.out) (fun _ => ?_)
        clear hK K t9 c9 e9 s9 Lg15
        try simp only [List.getElem_toArray, List.getElem_cons_succ, List.getElem_cons_zero, Act.put, List.setIfInBounds_toArray, List.set_cons_zero, List.set_cons_succ]
        refine wpAnyH_step (i := 9) (by kernel_rfl) rfl fun K hK => ?_
        go_simp
        refine (IH.out _ HP.out).mono ?_
        rintro e w9 ⟨rfl, t9⟩
        have PB9 : Hid (Pure w4.drew w9) := Lib.hid (PB.out.pure t9)
        have HP9 : Hid (Hashs w9 (.slice (some ⟨b, o, none⟩) mm c) a) := Lib.hid (HP.out.pure t9)
        have D79 : Hid (w9.heap[g7]? = some (.cells (u8s old).toArray 28 (0, 0))) := Lib.hid (t9.obj D7.out (fun e => e))
        have D109 : Hid (w9.heap[g10]? = some (.cells X.toArray 28 (0, 0))) := Lib.hid (t9.obj D10.out (fun e => e))
        have D119 : Hid (w9.heap[g11]? = some (.cells X.toArray 28 (0, 0))) := Lib.hid (t9.obj D11.out (fun e => e))
        have D149 : Hid (w9.heap[g14]? = some (.cells (u8s x).toArray 28 (0, 0))) := Lib.hid (t9.obj D14.out (fun e => e))
        have Cg169 : Hid (w9.heap[g16]? = some (.cells X.toArray 28 (0, 0))) := Lib.hid (t9.obj Cg16.out (fun e => e))
        have Cg159 : Hid (w9.heap[g15]? = some (.cells X.toArray 28 (0, 0))) := Lib.hid (t9.obj Cg15.out (fun e => e))
        clear PB HP D7 D10 D11 D14 Cg16 Cg15
        have PB := Lib.hid PB9.out
        have HP := Lib.hid HP9.out
        have D7 := Lib.hid D79.out
        have D10 := Lib.hid D109.out
        have D11 := Lib.hid D119.out
        have D14 := Lib.hid D149.out
        have Cg16 := Lib.hid Cg169.out
        have Cg15 := Lib.hid Cg159.out
        clear PB9 HP9 D79 D109 D119 D149 Cg169 Cg159
        refine hK.out _ _ (range_of_row D7.out) ?_
        clear hK K t9
        try simp only [List.getElem_toArray, List.getElem_cons_succ, List.getElem_cons_zero, Act.put, List.setIfInBounds_toArray, List.set_cons_zero, List.set_cons_succ]
        refine wpAnyH_take (i := 10) (v := .tuple #[hv A, hv B, .bool OK]) rfl (by kernel_rfl) (by kernel_rfl) (by kernel_rfl) (fun _ _ _ h => nomatch h.1) (Or.inl ⟨by rfl, fun w hSw => by go_simp⟩) (range_of_row D7.out) ?_
        simp only [List.getElem_toArray, List.getElem_cons_succ, List.getElem_cons_zero, Act.put, List.setIfInBounds_toArray, List.set_cons_zero, List.set_cons_succ]
        refine wpAnyH_take (i := 11) (v := hv A) rfl (by kernel_rfl) (by kernel_rfl) (by kernel_rfl) (fun _ _ _ h => nomatch h.1) (Or.inl ⟨by rfl, fun w hSw => by go_simp⟩) (range_of_row D7.out) ?_
        simp only [List.getElem_toArray, List.getElem_cons_succ, List.getElem_cons_zero, Act.put, List.setIfInBounds_toArray, List.set_cons_zero, List.set_cons_succ]
        refine wpAnyH_take (i := 12) (v := hv B) rfl (by kernel_rfl) (by kernel_rfl) (by kernel_rfl) (fun _ _ _ h => nomatch h.1) (Or.inl ⟨by rfl, fun w hSw => by go_simp⟩) (range_of_row D7.out) ?_
        simp only [List.getElem_toArray, List.getElem_cons_succ, List.getElem_cons_zero, Act.put, List.setIfInBounds_toArray, List.set_cons_zero, List.set_cons_succ]
        refine wpAnyH_take (i := 13) (v := .bool OK) rfl (by kernel_rfl) (by kernel_rfl) (by kernel_rfl) (fun _ _ _ h => nomatch h.1) (Or.inl ⟨by rfl, fun w hSw => by go_simp⟩) (range_of_row D7.out) ?_
        simp only [List.getElem_toArray, List.getElem_cons_succ, List.getElem_cons_zero, Act.put, List.setIfInBounds_toArray, List.set_cons_zero, List.set_cons_succ]
        refine wpAnyH_step (i := 16) (by kernel_rfl) rfl fun K hK => ?_
        refine step_store_blk rfl 28 _ _ rfl g15 _ (u8s A) _ rfl rfl Cg15.out (size28 hXl hA) (info28_l hA) (u8s_one _) ?_
        intro w9 c9 t9 s9
        have PB9 : Hid (Pure w4.drew w9) := Lib.hid (PB.out.trans t9 (fun q hq e => by omega))
        have HP9 : Hid (Hashs w9 (.slice (some ⟨b, o, none⟩) mm c) a) := Lib.hid (HP.out.turn t9 (fun hne q hq e => by have := HLT.out hne q hq; omega))
        have D79 : Hid (w9.heap[g7]? = some (.cells (u8s old).toArray 28 (0, 0))) := Lib.hid (t9.obj D7.out (by omega))
        have D109 : Hid (w9.heap[g10]? = some (.cells X.toArray 28 (0, 0))) := Lib.hid (t9.obj D10.out (by omega))
        have D119 : Hid (w9.heap[g11]? = some (.cells X.toArray 28 (0, 0))) := Lib.hid (t9.obj D11.out (by omega))
        have D149 : Hid (w9.heap[g14]? = some (.cells (u8s x).toArray 28 (0, 0))) := Lib.hid (t9.obj D14.out (by omega))
        have Cg169 : Hid (w9.heap[g16]? = some (.cells X.toArray 28 (0, 0))) := Lib.hid (t9.obj Cg16.out (by omega))
        have Cg159 := Lib.hid c9
        clear PB HP D7 D10 D11 D14 Cg16 Cg15
        have PB := Lib.hid PB9.out
        have HP := Lib.hid HP9.out
        have D7 := Lib.hid D79.out
        have D10 := Lib.hid D109.out
        have D11 := Lib.hid D119.out
        have D14 := Lib.hid D149.out
        have Cg16 := Lib.hid Cg169.out
        have Cg15 := Lib.hid Cg159.out
        clear PB9 HP9 D79 D109 D119 D149 Cg169 Cg159
        refine hK.out _ _ (range_of_row D7.out) ?_
        clear hK K t9 c9 s9
        try simp only [List.getElem_toArray, List.getElem_cons_succ, List.getElem_cons_zero, Act.put]
        refine wpAnyH_step (i := 17) (by kernel_rfl) rfl fun K hK => ?_
        refine step_store_blk rfl 28 _ _ rfl g16 _ (u8s B) _ rfl rfl Cg16.out (size28 hXl hB) (info28_l hB) (u8s_one _) ?_
        intro w9 c9 t9 s9
        have PB9 : Hid (Pure w4.drew w9) := Lib.hid (PB.out.trans t9 (fun q hq e => by omega))
        have HP9 : Hid (Hashs w9 (.slice (some ⟨b, o, none⟩) mm c) a) := Lib.hid (HP.out.turn t9 (fun hne q hq e => by have := HLT.out hne q hq; omega))
        have D79 : Hid (w9.heap[g7]? = some (.cells (u8s old).toArray 28 (0, 0))) := Lib.hid (t9.obj D7.out (by omega))
        have D109 : Hid (w9.heap[g10]? = some (.cells X.toArray 28 (0, 0))) := Lib.hid (t9.obj D10.out (by omega))
        have D119 : Hid (w9.heap[g11]? = some (.cells X.toArray 28 (0, 0))) := Lib.hid (t9.obj D11.out (by omega))
        have D149 : Hid (w9.heap[g14]? = some (.cells (u8s x).toArray 28 (0, 0))) := Lib.hid (t9.obj D14.out (by omega))
        have Cg159 : Hid (w9.heap[g15]? = some (.cells (u8s A).toArray 28 (0, 0))) := Lib.hid (t9.obj Cg15.out (by omega))
        have Cg169 := Lib.hid c9
        clear PB HP D7 D10 D11 D14 Cg15 Cg16
        have PB := Lib.hid PB9.out
        have HP := Lib.hid HP9.out
        have D7 := Lib.hid D79.out
        have D10 := Lib.hid D109.out
        have D11 := Lib.hid D119.out
        have D14 := Lib.hid D149.out
        have Cg15 := Lib.hid Cg159.out
        have Cg16 := Lib.hid Cg169.out
        clear PB9 HP9 D79 D109 D119 D149 Cg159 Cg169
        refine hK.out _ _ (range_of_row D7.out) ?_
        clear hK K t9 c9 s9
        try simp only [List.getElem_toArray, List.getElem_cons_succ, List.getElem_cons_zero, Act.put]
        refine wpAnyH_take (i := 18) (v := .bool OK) rfl (by kernel_rfl) (by kernel_rfl) (by kernel_rfl) (fun _ _ _ h => nomatch h.1) (Or.inl ⟨by rfl, fun w hSw => by go_simp⟩) (range_of_row D7.out) ?_
        simp only [List.getElem_toArray, List.getElem_cons_succ, List.getElem_cons_zero, Act.put, List.setIfInBounds_toArray, List.set_cons_zero, List.set_cons_succ]
        refine wpAnyH_done (by kernel_rfl) ?_ _
        exact ⟨rfl, g15, g16, rfl, PB.out, D10.out, D11.out, D14.out, Cg15.out, Cg16.out, Mg15, Mg16⟩
  · rintro g15 g16 w5 ⟨t5, d10, d11, d14, d15, d16, lg, lg'⟩
    have PT := Lib.hid (PT4.out.drew.pure t5)
    have Cg10 := Lib.hid d10; have Cg11 := Lib.hid d11; have D14 := Lib.hid d14; have D15 := Lib.hid d15; have D16 := Lib.hid d16
    have hWB : w.heap.size ≤ w4.drew.heap.size := PT4.out.drew.size
    have l14c : g14 < w4.drew.heap.size := l14b
    have s5 := t5.size
    clear t5 d10 d11 d14 d15 d16 D7b D10b D11b D14b PT4
    generalize w4.drew = w4d at *
    go_wp2_with fail
    refine wp_region_held_drew (S := fun w' => w'.rangeAt g15 0 (u8s A) ∧ w'.rangeAt g16 0 (u8s B) ∧ w'.rangeAt g14 0 (u8s x)) (by kernel_rfl) (show w5.drew.rangeAt g15 0 (u8s A) ∧ w5.drew.rangeAt g16 0 (u8s B) ∧ w5.drew.rangeAt g14 0 (u8s x) from ⟨range_of_row D15.out, range_of_row D16.out, range_of_row D14.out⟩) (fun _ => ?_)
    have PT9 : Hid (Pure w w5.drew) := Lib.hid PT.out.drew
    have D159 : Hid (w5.drew.heap[g15]? = some (.cells (u8s A).toArray 28 (0, 0))) := Lib.hid D15.out
    have D169 : Hid (w5.drew.heap[g16]? = some (.cells (u8s B).toArray 28 (0, 0))) := Lib.hid D16.out
    have D149 : Hid (w5.drew.heap[g14]? = some (.cells (u8s x).toArray 28 (0, 0))) := Lib.hid D14.out
    have Cg109 : Hid (w5.drew.heap[g10]? = some (.cells X.toArray 28 (0, 0))) := Lib.hid Cg10.out
    have Cg119 : Hid (w5.drew.heap[g11]? = some (.cells X.toArray 28 (0, 0))) := Lib.hid Cg11.out
    clear PT D15 D16 D14 Cg10 Cg11
    have PT := Lib.hid PT9.out
    have D15 := Lib.hid D159.out
    have D16 := Lib.hid D169.out
    have D14 := Lib.hid D149.out
    have Cg10 := Lib.hid Cg109.out
    have Cg11 := Lib.hid Cg119.out
    clear PT9 D159 D169 D149 Cg109 Cg119
    generalize w5.drew = wd at *
    refine wpAnyH_take (i := 0) (v := hv A) rfl (by kernel_rfl) (by kernel_rfl) (by kernel_rfl) (fun _ _ _ h => h) (yieldsIf_load_mid (by rfl) 28 _ rfl g15 0 rfl (u8s A) _ (fun w h => h.1) hu28 rfl (info28_l hA)) (And.intro (range_of_row D15.out) (And.intro (range_of_row D16.out) (range_of_row D14.out))) ?_
    simp only [List.getElem_toArray, List.getElem_cons_zero, Act.put, List.setIfInBounds_toArray, List.set_cons_zero, List.set_cons_succ]
    refine wpAnyH_take (i := 1) (v := hv B) rfl (by kernel_rfl) (by kernel_rfl) (by kernel_rfl) (fun _ _ _ h => h) (yieldsIf_load_mid (by rfl) 28 _ rfl g16 0 rfl (u8s B) _ (fun w h => h.2.1) hu28 rfl (info28_l hB)) (And.intro (range_of_row D15.out) (And.intro (range_of_row D16.out) (range_of_row D14.out))) ?_
    simp only [List.getElem_toArray, List.getElem_cons_succ, List.getElem_cons_zero, Act.put, List.setIfInBounds_toArray, List.set_cons_zero, List.set_cons_succ]
    refine wpAnyH_take (i := 2) (v := hv x) rfl (by kernel_rfl) (by kernel_rfl) (by kernel_rfl) (fun _ _ _ h => h) (yieldsIf_load_mid (by rfl) 28 _ rfl g14 0 rfl (u8s x) _ (fun w h => h.2.2) hu28 rfl (info28_l hx)) (And.intro (range_of_row D15.out) (And.intro (range_of_row D16.out) (range_of_row D14.out))) ?_
    simp only [List.getElem_toArray, List.getElem_cons_succ, List.getElem_cons_zero, Act.put, List.setIfInBounds_toArray, List.set_cons_zero, List.set_cons_succ]
    refine wpAnyH_take (i := 4) (v := .bool OK) rfl (by kernel_rfl) (by kernel_rfl) (by kernel_rfl) (fun _ _ _ h => h) (Or.inl ⟨by rfl, fun w hSw => by go_simp⟩) (And.intro (range_of_row D15.out) (And.intro (range_of_row D16.out) (range_of_row D14.out))) ?_
    simp only [List.getElem_toArray, List.getElem_cons_succ, List.getElem_cons_zero, Act.put, List.setIfInBounds_toArray, List.set_cons_zero, List.set_cons_succ]
    refine wpAnyH_step (i := 3) (by kernel_rfl) rfl fun K hK => ?_
    go_simp
    refine (over_any _ B x hB hx).mono ?_
    rintro e w9 ⟨rfl, t9⟩
    have PT9 : Hid (Pure w w9) := Lib.hid (PT.out.pure t9)
    have D159 : Hid (w9.heap[g15]? = some (.cells (u8s A).toArray 28 (0, 0))) := Lib.hid (t9.obj D15.out (fun e => e))
    have D169 : Hid (w9.heap[g16]? = some (.cells (u8s B).toArray 28 (0, 0))) := Lib.hid (t9.obj D16.out (fun e => e))
    have D149 : Hid (w9.heap[g14]? = some (.cells (u8s x).toArray 28 (0, 0))) := Lib.hid (t9.obj D14.out (fun e => e))
    have Cg109 : Hid (w9.heap[g10]? = some (.cells X.toArray 28 (0, 0))) := Lib.hid (t9.obj Cg10.out (fun e => e))
    have Cg119 : Hid (w9.heap[g11]? = some (.cells X.toArray 28 (0, 0))) := Lib.hid (t9.obj Cg11.out (fun e => e))
    clear PT D15 D16 D14 Cg10 Cg11
    have PT := Lib.hid PT9.out
    have D15 := Lib.hid D159.out
    have D16 := Lib.hid D169.out
    have D14 := Lib.hid D149.out
    have Cg10 := Lib.hid Cg109.out
    have Cg11 := Lib.hid Cg119.out
    clear PT9 D159 D169 D149 Cg109 Cg119
    refine hK.out _ _ (And.intro (range_of_row D15.out) (And.intro (range_of_row D16.out) (range_of_row D14.out))) ?_
    clear hK K t9
    try simp only [List.getElem_toArray, List.getElem_cons_succ, List.getElem_cons_zero, Act.put, List.setIfInBounds_toArray, List.set_cons_zero, List.set_cons_succ]
    refine wpAnyH_step (i := 5) (by kernel_rfl) rfl fun K hK => ?_
    refine step_store_blk rfl 28 _ _ rfl g10 _ (u8s A) _ rfl rfl Cg10.out (size28 hXl hA) (info28_l hA) (u8s_one _) ?_
    intro w9 c9 t9 s9
    have PT9 : Hid (Pure w w9) := Lib.hid (PT.out.trans t9 (fun q hq e => by omega))
    have D159 : Hid (w9.heap[g15]? = some (.cells (u8s A).toArray 28 (0, 0))) := Lib.hid (t9.obj D15.out (by omega))
    have D169 : Hid (w9.heap[g16]? = some (.cells (u8s B).toArray 28 (0, 0))) := Lib.hid (t9.obj D16.out (by omega))
    have D149 : Hid (w9.heap[g14]? = some (.cells (u8s x).toArray 28 (0, 0))) := Lib.hid (t9.obj D14.out (by omega))
    have Cg119 : Hid (w9.heap[g11]? = some (.cells X.toArray 28 (0, 0))) := Lib.hid (t9.obj Cg11.out (by omega))
    have Cg109 := Lib.hid c9
    clear PT D15 D16 D14 Cg11 Cg10
    have PT := Lib.hid PT9.out
    have D15 := Lib.hid D159.out
    have D16 := Lib.hid D169.out
    have D14 := Lib.hid D149.out
    have Cg11 := Lib.hid Cg119.out
    have Cg10 := Lib.hid Cg109.out
    clear PT9 D159 D169 D149 Cg119 Cg109
    refine hK.out _ _ (And.intro (range_of_row D15.out) (And.intro (range_of_row D16.out) (range_of_row D14.out))) ?_
    clear hK K t9 c9 s9
    try simp only [List.getElem_toArray, List.getElem_cons_succ, List.getElem_cons_zero, Act.put]
    refine wpAnyH_step (i := 6) (by kernel_rfl) rfl fun K hK => ?_
    refine step_store_blk rfl 28 _ _ rfl g11 _ (u8s (joinV B x)) _ rfl rfl Cg11.out (size28 hXl (joinV_length _ _)) (info28_l (joinV_length _ _)) (u8s_one _) ?_
    intro w9 c9 t9 s9
    have PT9 : Hid (Pure w w9) := Lib.hid (PT.out.trans t9 (fun q hq e => by omega))
    have D159 : Hid (w9.heap[g15]? = some (.cells (u8s A).toArray 28 (0, 0))) := Lib.hid (t9.obj D15.out (by omega))
    have D169 : Hid (w9.heap[g16]? = some (.cells (u8s B).toArray 28 (0, 0))) := Lib.hid (t9.obj D16.out (by omega))
    have D149 : Hid (w9.heap[g14]? = some (.cells (u8s x).toArray 28 (0, 0))) := Lib.hid (t9.obj D14.out (by omega))
    have Cg109 : Hid (w9.heap[g10]? = some (.cells (u8s A).toArray 28 (0, 0))) := Lib.hid (t9.obj Cg10.out (by omega))
    have Cg119 := Lib.hid c9
    clear PT D15 D16 D14 Cg10 Cg11
    have PT := Lib.hid PT9.out
    have D15 := Lib.hid D159.out
    have D16 := Lib.hid D169.out
    have D14 := Lib.hid D149.out
    have Cg10 := Lib.hid Cg109.out
    have Cg11 := Lib.hid Cg119.out
    clear PT9 D159 D169 D149 Cg109 Cg119
    refine hK.out _ _ (And.intro (range_of_row D15.out) (And.intro (range_of_row D16.out) (range_of_row D14.out))) ?_
    clear hK K t9 c9 s9
    try simp only [List.getElem_toArray, List.getElem_cons_succ, List.getElem_cons_zero, Act.put]
    refine wpAnyH_take (i := 7) (v := .bool OK) rfl (by kernel_rfl) (by kernel_rfl) (by kernel_rfl) (fun _ _ _ h => h) (Or.inl ⟨by rfl, fun w hSw => by go_simp⟩) (And.intro (range_of_row D15.out) (And.intro (range_of_row D16.out) (range_of_row D14.out))) ?_
    simp only [List.getElem_toArray, List.getElem_cons_succ, List.getElem_cons_zero, Act.put, List.setIfInBounds_toArray, List.set_cons_zero, List.set_cons_succ]
    refine wpAnyH_done (by kernel_rfl) ?_ _
    go_wp2
    exact bodyPost_ret (v := .tuple #[hv A, hv (joinV B x), .bool OK]) (results_cct Try.results56 _ _ g10 g11 (u8s A).toArray (u8s (joinV B x)).toArray _ rfl rfl Cg10.out Cg11.out hu28 rfl (info28_a hA) (info28_a (joinV_length _ _))) rfl ⟨rfl, PT.out⟩

set_option maxRecDepth 100000 in
set_option maxHeartbeats 4000000 in
theorem rise_right (w : World) (ao : Option Addr) (n c : Nat) (a : List (List UInt8)) (x old : List UInt8) (m k size : Nat) (whole : Bool) (h2 : 2 ≤ size) (hsz : size ≤ 4611686018427387904) (hne : m ≠ size) (hk : k = belowV size) (hik : ¬ m ≤ k) (hms : m ≤ size) (hp : Hashs w (.slice ao n c) (a ++ [x])) (hal : a.length ≤ 4398046510976) (ho : old.length = 32)
    (A B : List UInt8) (OK : Bool) (hA : A.length = 32) (hB : B.length = 32)
    (ih : ∀ (W : World) (V : Value), Hashs W V a → Calls Try.prog 56 #[.int .i64 ((m - k : Nat) : Int), .int .i64 ((size - k : Nat) : Int), hv old, .bool false, V] W fun e w' => e = .returned (.tuple #[hv A, hv B, .bool OK]) ∧ Pure W w') :
    Calls Try.prog 56 #[.int .i64 (m : Int), .int .i64 (size : Int), hv old, .bool whole, .slice ao n c] w fun e w' => e = .returned (.tuple #[hv (joinV x A), hv (joinV x B), .bool OK]) ∧ Pure w w' := by
  obtain ⟨X, hXl, HZ⟩ := ex28
  have hu28 := Try.underlying28
  obtain ⟨b, o, rfl, hn, hnc, hrx, hx, hfr⟩ := hp.front
  obtain ⟨mm, hm⟩ : ∃ mm, mm = a.length := ⟨_, rfl⟩
  rw [← hm] at hn hnc hrx hfr hal
  have hklt : k < size := by rw [hk]; exact belowV_lt h2
  have hbel := fun W => cut_any W size h2 hsz
  rw [← hk] at hbel
  have HBEL := Lib.hid hbel; clear hbel hk
  obtain ⟨d, hd⟩ : ∃ d, d = m - k := ⟨_, rfl⟩
  obtain ⟨z, hz⟩ : ∃ z, z = size - k := ⟨_, rfl⟩
  rw [← hd, ← hz] at ih
  have i3 : IntKind.i64.wrap ((m : Int) - k) = (d : Int) := by rw [IntWalk.i64_in _ (by omega)]; omega
  have i4 : IntKind.i64.wrap ((size : Int) - k) = (z : Int) := by rw [IntWalk.i64_in _ (by omega)]; omega
  clear hd hz
  have IH : Hid (∀ W : World, Hashs W (.slice (some ⟨b, o, none⟩) mm c) a → _) := Lib.hid fun W hW => ih W _ hW
  clear ih
  have HRX := Lib.hid hrx; have HFR := Lib.hid hfr
  have HLT : Hid (a ≠ [] → ∀ q, (Value.slice (some ⟨b, o, none⟩) mm c).ownBlock = some q → q < w.heap.size) := Lib.hid fun hne => hfr.lt hne
  clear hrx hfr hp hm
  have q1 : ((m : Int) == size) = false := by simp; omega
  have q2 : (m == size) = false := by simp; omega
  have q3 : ¬ ((m : Int) ≤ k) := by omega
  have q4 : ((n : Int) == 0) = false := by simp; omega
  have q5 : (n == 0) = false := by simp; omega
  have i2 : IntKind.i64.wrap ((n : Int) - 1) = (mm : Int) := by rw [IntWalk.i64_in _ (by omega)]; omega
  have q6 : (mm : Int) < n := by omega
  have q7 : (0 : Int) ≤ mm := by omega
  have q8 : (mm : Int) ≤ c := by omega
  have q9 : ¬ c = 0 := by omega
  have HN := Lib.hid hn; clear hn
  go_enter Try.func56, Try.ntmps56
  go_wp2_with (refine wpList_boxV rfl 28 _ rfl (u8s old) rfl ?_)
  intro g7 w1 e1 c1 t1 s1
  have l7 : w.heap.size ≤ g7 := by omega
  clear e1
  go_wp2_with (refine wpList_allocZ rfl 28 rfl X HZ.out ?_)
  intro g10 w2 e2 c2 t2 s2
  have l10 : g7 < g10 := by omega
  clear e2
  go_wp2_with (refine wpList_allocZ rfl 28 rfl X HZ.out ?_)
  intro g11 w3 e3 c3 t3 s3
  have l11 : g10 < g11 := by omega
  clear e3
  have D7 := Lib.hid (t3.obj (t2.obj c1 (fun e => e)) (fun e => e)); have Cg10 := Lib.hid (t3.obj c2 (fun e => e)); have Cg11 := Lib.hid c3
  have PT := Lib.hid ((t1.pure t2).pure t3)
  have s3g : g11 < w3.heap.size := by omega
  clear c1 c2 c3 t1 t2 t3 s1 s2 s3
  have HR2 := Lib.hid (PT.out.range HRX.out (fun e => e))
  go_wp2_with fail
  refine (HBEL.out _).mono ?_
  rintro e wx ⟨rfl, rfl⟩
  go_wp2_with (first | (refine wpList_load_mid rfl 28 _ rfl b (o + mm * 32) rfl (u8s x) _ HR2.out hu28 rfl (info28_l hx) ?_) | (refine wpList_allocZ rfl 28 rfl X HZ.out ?_))
  intro g14 wy ey cy ty sy
  have l14 : g11 < g14 := by omega
  clear ey
  go_wp2_with (refine wpList_store_blk rfl 28 _ _ rfl g14 _ (u8s x) _ rfl rfl cy (size28 hXl hx) (info28_l hx) (u8s_one _) ?_)
  intro w4 c4 t4 s4
  have D7b := Lib.hid (t4.obj (ty.obj D7.out (fun e => e)) (by omega)); have D10b := Lib.hid (t4.obj (ty.obj Cg10.out (fun e => e)) (by omega)); have D11b := Lib.hid (t4.obj (ty.obj Cg11.out (fun e => e)) (by omega))
  have PT4 := Lib.hid ((PT.out.pure ty).trans t4 fun q hq e => by omega : Pure w w4)
  have D14b := Lib.hid c4
  have l14b : g14 < w4.heap.size := by omega
  clear cy ty sy c4 t4 s4 D7 Cg10 Cg11 PT HR2 s3g
  go_wp2_with fail
  refine wp_region_cut2 (R := fun g g' w' => Pure w4.drew w' ∧ w'.heap[g10]? = some (.cells X.toArray 28 (0, 0)) ∧ w'.heap[g11]? = some (.cells X.toArray 28 (0, 0)) ∧ w'.heap[g14]? = some (.cells (u8s x).toArray 28 (0, 0)) ∧ w'.heap[g]? = some (.cells (u8s A).toArray 28 (0, 0)) ∧ w'.heap[g']? = some (.cells (u8s B).toArray 28 (0, 0)) ∧ w4.drew.heap.size ≤ g ∧ w4.drew.heap.size ≤ g') ?_
  apply Exists.intro
  constructor
  · refine wp_region_held_drew (S := fun w' => w'.rangeAt g7 0 (u8s old)) (by kernel_rfl) (show w4.drew.rangeAt g7 0 (u8s old) from range_of_row D7b.out) (fun _ => ?_)
    have PB := Lib.hid (Turn.refl (fun _ => False) w4.drew)
    have HP := Lib.hid (HFR.out.turn PT4.out.drew (fun _ _ _ e => e))
    have D7 := Lib.hid (show w4.drew.heap[g7]? = _ from D7b.out); have D10 := Lib.hid (show w4.drew.heap[g10]? = _ from D10b.out); have D11 := Lib.hid (show w4.drew.heap[g11]? = _ from D11b.out); have D14 := Lib.hid (show w4.drew.heap[g14]? = _ from D14b.out)
    have hWB : w.heap.size ≤ w4.drew.heap.size := PT4.out.drew.size
    have l14c : g14 < w4.drew.heap.size := l14b
    refine wpAnyH_take (i := 0) (v := .int .i64 (m : Int)) rfl (by kernel_rfl) (by kernel_rfl) (by kernel_rfl) (fun _ _ _ h => nomatch h.1) (Or.inl ⟨by rfl, fun w hSw => by go_simp⟩) (range_of_row D7.out) ?_
    simp only [List.getElem_toArray, List.getElem_cons_zero, Act.put, List.setIfInBounds_toArray, List.set_cons_zero, List.set_cons_succ]
    refine wpAnyH_take (i := 1) (v := .int .i64 (k : Int)) rfl (by kernel_rfl) (by kernel_rfl) (by kernel_rfl) (fun _ _ _ h => nomatch h.1) (Or.inl ⟨by rfl, fun w hSw => by go_simp⟩) (range_of_row D7.out) ?_
    simp only [List.getElem_toArray, List.getElem_cons_succ, List.getElem_cons_zero, Act.put, List.setIfInBounds_toArray, List.set_cons_zero, List.set_cons_succ]
    refine wpAnyH_take (i := 2) (v := .int .i64 (d : Int)) rfl (by kernel_rfl) (by kernel_rfl) (by kernel_rfl) (fun _ _ _ h => nomatch h.1) (Or.inl ⟨by rfl, fun w hSw => by go_simp⟩) (range_of_row D7.out) ?_
    simp only [List.getElem_toArray, List.getElem_cons_succ, List.getElem_cons_zero, Act.put, List.setIfInBounds_toArray, List.set_cons_zero, List.set_cons_succ]
    refine wpAnyH_take (i := 3) (v := .int .i64 (size : Int)) rfl (by kernel_rfl) (by kernel_rfl) (by kernel_rfl) (fun _ _ _ h => nomatch h.1) (Or.inl ⟨by rfl, fun w hSw => by go_simp⟩) (range_of_row D7.out) ?_
    simp only [List.getElem_toArray, List.getElem_cons_succ, List.getElem_cons_zero, Act.put, List.setIfInBounds_toArray, List.set_cons_zero, List.set_cons_succ]
    refine wpAnyH_take (i := 4) (v := .int .i64 (k : Int)) rfl (by kernel_rfl) (by kernel_rfl) (by kernel_rfl) (fun _ _ _ h => nomatch h.1) (Or.inl ⟨by rfl, fun w hSw => by go_simp⟩) (range_of_row D7.out) ?_
    simp only [List.getElem_toArray, List.getElem_cons_succ, List.getElem_cons_zero, Act.put, List.setIfInBounds_toArray, List.set_cons_zero, List.set_cons_succ]
    refine wpAnyH_take (i := 5) (v := .int .i64 (z : Int)) rfl (by kernel_rfl) (by kernel_rfl) (by kernel_rfl) (fun _ _ _ h => nomatch h.1) (Or.inl ⟨by rfl, fun w hSw => by go_simp⟩) (range_of_row D7.out) ?_
    simp only [List.getElem_toArray, List.getElem_cons_succ, List.getElem_cons_zero, Act.put, List.setIfInBounds_toArray, List.set_cons_zero, List.set_cons_succ]
    refine wpAnyH_take (i := 6) (v := hv old) rfl (by kernel_rfl) (by kernel_rfl) (by kernel_rfl) (fun _ _ _ h => nomatch h.1) (yieldsIf_load_mid (by rfl) 28 _ rfl g7 0 rfl (u8s old) _ (fun w h => h) hu28 rfl (info28_l ho)) (range_of_row D7.out) ?_
    simp only [List.getElem_toArray, List.getElem_cons_succ, List.getElem_cons_zero, Act.put, List.setIfInBounds_toArray, List.set_cons_zero, List.set_cons_succ]
    refine wpAnyH_take (i := 7) (v := .slice (some ⟨b, o, none⟩) n c) rfl (by kernel_rfl) (by kernel_rfl) (by kernel_rfl) (fun _ _ _ h => nomatch h.1) (Or.inl ⟨by rfl, fun w hSw => by go_simp⟩) (range_of_row D7.out) ?_
    simp only [List.getElem_toArray, List.getElem_cons_succ, List.getElem_cons_zero, Act.put, List.setIfInBounds_toArray, List.set_cons_zero, List.set_cons_succ]
    refine wpAnyH_take (i := 8) (v := .slice (some ⟨b, o, none⟩) n c) rfl (by kernel_rfl) (by kernel_rfl) (by kernel_rfl) (fun _ _ _ h => nomatch h.1) (Or.inl ⟨by rfl, fun w hSw => by go_simp⟩) (range_of_row D7.out) ?_
    simp only [List.getElem_toArray, List.getElem_cons_succ, List.getElem_cons_zero, Act.put, List.setIfInBounds_toArray, List.set_cons_zero, List.set_cons_succ]
    refine wpAnyH_take (i := 9) (v := .int .i64 (n : Int)) rfl (by kernel_rfl) (by kernel_rfl) (by kernel_rfl) (fun _ _ _ h => nomatch h.1) (Or.inl ⟨by rfl, fun w hSw => by go_simp⟩) (range_of_row D7.out) ?_
    simp only [List.getElem_toArray, List.getElem_cons_succ, List.getElem_cons_zero, Act.put, List.setIfInBounds_toArray, List.set_cons_zero, List.set_cons_succ]
    refine wpAnyH_take (i := 10) (v := .int .i64 (mm : Int)) rfl (by kernel_rfl) (by kernel_rfl) (by kernel_rfl) (fun _ _ _ h => nomatch h.1) (Or.inl ⟨by rfl, fun w hSw => by go_simp⟩) (range_of_row D7.out) ?_
    simp only [List.getElem_toArray, List.getElem_cons_succ, List.getElem_cons_zero, Act.put, List.setIfInBounds_toArray, List.set_cons_zero, List.set_cons_succ]
    refine wpAnyH_take (i := 11) (v := .slice (some ⟨b, o, none⟩) mm c) rfl (by kernel_rfl) (by kernel_rfl) (by kernel_rfl) (fun _ _ _ h => nomatch h.1) (Or.inl ⟨by rfl, fun w hSw => by go_simp⟩) (range_of_row D7.out) ?_
    simp only [List.getElem_toArray, List.getElem_cons_succ, List.getElem_cons_zero, Act.put, List.setIfInBounds_toArray, List.set_cons_zero, List.set_cons_succ]
    refine wpAnyH_ready (rs := [12, 17, 18]) (by kernel_rfl) (by simp) (AllReadyH.cons rfl (fun K hK => ?_) (AllReadyH.cons rfl (fun K hK => ?_) (AllReadyH.cons rfl (fun K hK => ?_) AllReadyH.nil)))
    · go_simp
      refine (IH.out _ HP.out).mono ?_
      rintro e w9 ⟨rfl, t9⟩
      have PB9 : Hid (Pure w4.drew w9) := Lib.hid (PB.out.pure t9)
      have HP9 : Hid (Hashs w9 (.slice (some ⟨b, o, none⟩) mm c) a) := Lib.hid (HP.out.pure t9)
      have D79 : Hid (w9.heap[g7]? = some (.cells (u8s old).toArray 28 (0, 0))) := Lib.hid (t9.obj D7.out (fun e => e))
      have D109 : Hid (w9.heap[g10]? = some (.cells X.toArray 28 (0, 0))) := Lib.hid (t9.obj D10.out (fun e => e))
      have D119 : Hid (w9.heap[g11]? = some (.cells X.toArray 28 (0, 0))) := Lib.hid (t9.obj D11.out (fun e => e))
      have D149 : Hid (w9.heap[g14]? = some (.cells (u8s x).toArray 28 (0, 0))) := Lib.hid (t9.obj D14.out (fun e => e))
      clear PB HP D7 D10 D11 D14
      have PB := Lib.hid PB9.out
      have HP := Lib.hid HP9.out
      have D7 := Lib.hid D79.out
      have D10 := Lib.hid D109.out
      have D11 := Lib.hid D119.out
      have D14 := Lib.hid D149.out
      clear PB9 HP9 D79 D109 D119 D149
      refine hK.out _ _ (range_of_row D7.out) (fun _ => ?_)
      clear hK K t9
      try simp only [List.getElem_toArray, List.getElem_cons_succ, List.getElem_cons_zero, Act.put, List.setIfInBounds_toArray, List.set_cons_zero, List.set_cons_succ]
      refine wpAnyH_take (i := 13) (v := .tuple #[hv A, hv B, .bool OK]) rfl (by kernel_rfl) (by kernel_rfl) (by kernel_rfl) (fun _ _ _ h => nomatch h.1) (Or.inl ⟨by rfl, fun w hSw => by go_simp⟩) (range_of_row D7.out) ?_
      simp only [List.getElem_toArray, List.getElem_cons_succ, List.getElem_cons_zero, Act.put, List.setIfInBounds_toArray, List.set_cons_zero, List.set_cons_succ]
      refine wpAnyH_take (i := 14) (v := hv A) rfl (by kernel_rfl) (by kernel_rfl) (by kernel_rfl) (fun _ _ _ h => nomatch h.1) (Or.inl ⟨by rfl, fun w hSw => by go_simp⟩) (range_of_row D7.out) ?_
      simp only [List.getElem_toArray, List.getElem_cons_succ, List.getElem_cons_zero, Act.put, List.setIfInBounds_toArray, List.set_cons_zero, List.set_cons_succ]
      refine wpAnyH_take (i := 15) (v := hv B) rfl (by kernel_rfl) (by kernel_rfl) (by kernel_rfl) (fun _ _ _ h => nomatch h.1) (Or.inl ⟨by rfl, fun w hSw => by go_simp⟩) (range_of_row D7.out) ?_
      simp only [List.getElem_toArray, List.getElem_cons_succ, List.getElem_cons_zero, Act.put, List.setIfInBounds_toArray, List.set_cons_zero, List.set_cons_succ]
      refine wpAnyH_take (i := 16) (v := .bool OK) rfl (by kernel_rfl) (by kernel_rfl) (by kernel_rfl) (fun _ _ _ h => nomatch h.1) (Or.inl ⟨by rfl, fun w hSw => by go_simp⟩) (range_of_row D7.out) ?_
      simp only [List.getElem_toArray, List.getElem_cons_succ, List.getElem_cons_zero, Act.put, List.setIfInBounds_toArray, List.set_cons_zero, List.set_cons_succ]
      refine wpAnyH_ready (rs := [17, 18]) (by kernel_rfl) (by simp) (AllReadyH.cons rfl (fun K hK => ?_) (AllReadyH.cons rfl (fun K hK => ?_) AllReadyH.nil))
      · refine step_allocZ rfl 28 rfl X HZ.out ?_
        intro g15 w9 e9 c9 t9 s9
        have PB9 : Hid (Pure w4.drew w9) := Lib.hid (PB.out.pure t9)
        have HP9 : Hid (Hashs w9 (.slice (some ⟨b, o, none⟩) mm c) a) := Lib.hid (HP.out.pure t9)
        have D79 : Hid (w9.heap[g7]? = some (.cells (u8s old).toArray 28 (0, 0))) := Lib.hid (t9.obj D7.out (fun e => e))
        have D109 : Hid (w9.heap[g10]? = some (.cells X.toArray 28 (0, 0))) := Lib.hid (t9.obj D10.out (fun e => e))
        have D119 : Hid (w9.heap[g11]? = some (.cells X.toArray 28 (0, 0))) := Lib.hid (t9.obj D11.out (fun e => e))
        have D149 : Hid (w9.heap[g14]? = some (.cells (u8s x).toArray 28 (0, 0))) := Lib.hid (t9.obj D14.out (fun e => e))
        have Cg15 := Lib.hid c9
        have Lg15 := Lib.hid e9
        have Mg15 : w4.drew.heap.size ≤ g15 := by have := PB.out.size; omega
        clear PB HP D7 D10 D11 D14
        have PB := Lib.hid PB9.out
        have HP := Lib.hid HP9.out
        have D7 := Lib.hid D79.out
        have D10 := Lib.hid D109.out
        have D11 := Lib.hid D119.out
        have D14 := Lib.hid D149.out
        clear PB9 HP9 D79 D109 D119 D149
        refine hK.out _ _ (range_of_row D7.out) (fun _ => ?_)
        clear hK K t9 c9 e9 s9 Lg15
        try simp only [List.getElem_toArray, List.getElem_cons_succ, List.getElem_cons_zero, Act.put, List.setIfInBounds_toArray, List.set_cons_zero, List.set_cons_succ]
        refine wpAnyH_step (i := 18) (by kernel_rfl) rfl fun K hK => ?_
        refine step_allocZ rfl 28 rfl X HZ.out ?_
        intro g16 w9 e9 c9 t9 s9
        have PB9 : Hid (Pure w4.drew w9) := Lib.hid (PB.out.pure t9)
        have HP9 : Hid (Hashs w9 (.slice (some ⟨b, o, none⟩) mm c) a) := Lib.hid (HP.out.pure t9)
        have D79 : Hid (w9.heap[g7]? = some (.cells (u8s old).toArray 28 (0, 0))) := Lib.hid (t9.obj D7.out (fun e => e))
        have D109 : Hid (w9.heap[g10]? = some (.cells X.toArray 28 (0, 0))) := Lib.hid (t9.obj D10.out (fun e => e))
        have D119 : Hid (w9.heap[g11]? = some (.cells X.toArray 28 (0, 0))) := Lib.hid (t9.obj D11.out (fun e => e))
        have D149 : Hid (w9.heap[g14]? = some (.cells (u8s x).toArray 28 (0, 0))) := Lib.hid (t9.obj D14.out (fun e => e))
        have Cg159 : Hid (w9.heap[g15]? = some (.cells X.toArray 28 (0, 0))) := Lib.hid (t9.obj Cg15.out (fun e => e))
        have Cg16 := Lib.hid c9
        have Lg16 := Lib.hid e9
        have Ng15g16 : g15 ≠ g16 := by have := (Array.getElem?_eq_some_iff.1 Cg15.out).1; omega
        have Mg16 : w4.drew.heap.size ≤ g16 := by have := PB.out.size; omega
        clear PB HP D7 D10 D11 D14 Cg15
        have PB := Lib.hid PB9.out
        have HP := Lib.hid HP9.out
        have D7 := Lib.hid D79.out
        have D10 := Lib.hid D109.out
        have D11 := Lib.hid D119.out
        have D14 := Lib.hid D149.out
        have Cg15 := Lib.hid Cg159.out
        clear PB9 HP9 D79 D109 D119 D149 Cg159
        refine hK.out _ _ (range_of_row D7.out) ?_
        clear hK K t9 c9 e9 s9 Lg16
        try simp only [List.getElem_toArray, List.getElem_cons_succ, List.getElem_cons_zero, Act.put, List.setIfInBounds_toArray, List.set_cons_zero, List.set_cons_succ]
        refine wpAnyH_step (i := 19) (by kernel_rfl) rfl fun K hK => ?_
        refine step_store_blk rfl 28 _ _ rfl g15 _ (u8s A) _ rfl rfl Cg15.out (size28 hXl hA) (info28_l hA) (u8s_one _) ?_
        intro w9 c9 t9 s9
        have PB9 : Hid (Pure w4.drew w9) := Lib.hid (PB.out.trans t9 (fun q hq e => by omega))
        have HP9 : Hid (Hashs w9 (.slice (some ⟨b, o, none⟩) mm c) a) := Lib.hid (HP.out.turn t9 (fun hne q hq e => by have := HLT.out hne q hq; omega))
        have D79 : Hid (w9.heap[g7]? = some (.cells (u8s old).toArray 28 (0, 0))) := Lib.hid (t9.obj D7.out (by omega))
        have D109 : Hid (w9.heap[g10]? = some (.cells X.toArray 28 (0, 0))) := Lib.hid (t9.obj D10.out (by omega))
        have D119 : Hid (w9.heap[g11]? = some (.cells X.toArray 28 (0, 0))) := Lib.hid (t9.obj D11.out (by omega))
        have D149 : Hid (w9.heap[g14]? = some (.cells (u8s x).toArray 28 (0, 0))) := Lib.hid (t9.obj D14.out (by omega))
        have Cg169 : Hid (w9.heap[g16]? = some (.cells X.toArray 28 (0, 0))) := Lib.hid (t9.obj Cg16.out (by omega))
        have Cg159 := Lib.hid c9
        clear PB HP D7 D10 D11 D14 Cg16 Cg15
        have PB := Lib.hid PB9.out
        have HP := Lib.hid HP9.out
        have D7 := Lib.hid D79.out
        have D10 := Lib.hid D109.out
        have D11 := Lib.hid D119.out
        have D14 := Lib.hid D149.out
        have Cg16 := Lib.hid Cg169.out
        have Cg15 := Lib.hid Cg159.out
        clear PB9 HP9 D79 D109 D119 D149 Cg169 Cg159
        refine hK.out _ _ (range_of_row D7.out) ?_
        clear hK K t9 c9 s9
        try simp only [List.getElem_toArray, List.getElem_cons_succ, List.getElem_cons_zero, Act.put]
        refine wpAnyH_step (i := 20) (by kernel_rfl) rfl fun K hK => ?_
        refine step_store_blk rfl 28 _ _ rfl g16 _ (u8s B) _ rfl rfl Cg16.out (size28 hXl hB) (info28_l hB) (u8s_one _) ?_
        intro w9 c9 t9 s9
        have PB9 : Hid (Pure w4.drew w9) := Lib.hid (PB.out.trans t9 (fun q hq e => by omega))
        have HP9 : Hid (Hashs w9 (.slice (some ⟨b, o, none⟩) mm c) a) := Lib.hid (HP.out.turn t9 (fun hne q hq e => by have := HLT.out hne q hq; omega))
        have D79 : Hid (w9.heap[g7]? = some (.cells (u8s old).toArray 28 (0, 0))) := Lib.hid (t9.obj D7.out (by omega))
        have D109 : Hid (w9.heap[g10]? = some (.cells X.toArray 28 (0, 0))) := Lib.hid (t9.obj D10.out (by omega))
        have D119 : Hid (w9.heap[g11]? = some (.cells X.toArray 28 (0, 0))) := Lib.hid (t9.obj D11.out (by omega))
        have D149 : Hid (w9.heap[g14]? = some (.cells (u8s x).toArray 28 (0, 0))) := Lib.hid (t9.obj D14.out (by omega))
        have Cg159 : Hid (w9.heap[g15]? = some (.cells (u8s A).toArray 28 (0, 0))) := Lib.hid (t9.obj Cg15.out (by omega))
        have Cg169 := Lib.hid c9
        clear PB HP D7 D10 D11 D14 Cg15 Cg16
        have PB := Lib.hid PB9.out
        have HP := Lib.hid HP9.out
        have D7 := Lib.hid D79.out
        have D10 := Lib.hid D109.out
        have D11 := Lib.hid D119.out
        have D14 := Lib.hid D149.out
        have Cg15 := Lib.hid Cg159.out
        have Cg16 := Lib.hid Cg169.out
        clear PB9 HP9 D79 D109 D119 D149 Cg159 Cg169
        refine hK.out _ _ (range_of_row D7.out) ?_
        clear hK K t9 c9 s9
        try simp only [List.getElem_toArray, List.getElem_cons_succ, List.getElem_cons_zero, Act.put]
        refine wpAnyH_take (i := 21) (v := .bool OK) rfl (by kernel_rfl) (by kernel_rfl) (by kernel_rfl) (fun _ _ _ h => nomatch h.1) (Or.inl ⟨by rfl, fun w hSw => by go_simp⟩) (range_of_row D7.out) ?_
        simp only [List.getElem_toArray, List.getElem_cons_succ, List.getElem_cons_zero, Act.put, List.setIfInBounds_toArray, List.set_cons_zero, List.set_cons_succ]
        refine wpAnyH_done (by kernel_rfl) ?_ _
        exact ⟨rfl, g15, g16, rfl, PB.out, D10.out, D11.out, D14.out, Cg15.out, Cg16.out, Mg15, Mg16⟩
      · refine step_allocZ rfl 28 rfl X HZ.out ?_
        intro g16 w9 e9 c9 t9 s9
        have PB9 : Hid (Pure w4.drew w9) := Lib.hid (PB.out.pure t9)
        have HP9 : Hid (Hashs w9 (.slice (some ⟨b, o, none⟩) mm c) a) := Lib.hid (HP.out.pure t9)
        have D79 : Hid (w9.heap[g7]? = some (.cells (u8s old).toArray 28 (0, 0))) := Lib.hid (t9.obj D7.out (fun e => e))
        have D109 : Hid (w9.heap[g10]? = some (.cells X.toArray 28 (0, 0))) := Lib.hid (t9.obj D10.out (fun e => e))
        have D119 : Hid (w9.heap[g11]? = some (.cells X.toArray 28 (0, 0))) := Lib.hid (t9.obj D11.out (fun e => e))
        have D149 : Hid (w9.heap[g14]? = some (.cells (u8s x).toArray 28 (0, 0))) := Lib.hid (t9.obj D14.out (fun e => e))
        have Cg16 := Lib.hid c9
        have Lg16 := Lib.hid e9
        have Mg16 : w4.drew.heap.size ≤ g16 := by have := PB.out.size; omega
        clear PB HP D7 D10 D11 D14
        have PB := Lib.hid PB9.out
        have HP := Lib.hid HP9.out
        have D7 := Lib.hid D79.out
        have D10 := Lib.hid D109.out
        have D11 := Lib.hid D119.out
        have D14 := Lib.hid D149.out
        clear PB9 HP9 D79 D109 D119 D149
        refine hK.out _ _ (range_of_row D7.out) (fun _ => ?_)
        clear hK K t9 c9 e9 s9 Lg16
        try simp only [List.getElem_toArray, List.getElem_cons_succ, List.getElem_cons_zero, Act.put, List.setIfInBounds_toArray, List.set_cons_zero, List.set_cons_succ]
        refine wpAnyH_step (i := 17) (by kernel_rfl) rfl fun K hK => ?_
        refine step_allocZ rfl 28 rfl X HZ.out ?_
        intro g15 w9 e9 c9 t9 s9
        have PB9 : Hid (Pure w4.drew w9) := Lib.hid (PB.out.pure t9)
        have HP9 : Hid (Hashs w9 (.slice (some ⟨b, o, none⟩) mm c) a) := Lib.hid (HP.out.pure t9)
        have D79 : Hid (w9.heap[g7]? = some (.cells (u8s old).toArray 28 (0, 0))) := Lib.hid (t9.obj D7.out (fun e => e))
        have D109 : Hid (w9.heap[g10]? = some (.cells X.toArray 28 (0, 0))) := Lib.hid (t9.obj D10.out (fun e => e))
        have D119 : Hid (w9.heap[g11]? = some (.cells X.toArray 28 (0, 0))) := Lib.hid (t9.obj D11.out (fun e => e))
        have D149 : Hid (w9.heap[g14]? = some (.cells (u8s x).toArray 28 (0, 0))) := Lib.hid (t9.obj D14.out (fun e => e))
        have Cg169 : Hid (w9.heap[g16]? = some (.cells X.toArray 28 (0, 0))) := Lib.hid (t9.obj Cg16.out (fun e => e))
        have Cg15 := Lib.hid c9
        have Lg15 := Lib.hid e9
        have Ng16g15 : g16 ≠ g15 := by have := (Array.getElem?_eq_some_iff.1 Cg16.out).1; omega
        have Mg15 : w4.drew.heap.size ≤ g15 := by have := PB.out.size; omega
        clear PB HP D7 D10 D11 D14 Cg16
        have PB := Lib.hid PB9.out
        have HP := Lib.hid HP9.out
        have D7 := Lib.hid D79.out
        have D10 := Lib.hid D109.out
        have D11 := Lib.hid D119.out
        have D14 := Lib.hid D149.out
        have Cg16 := Lib.hid Cg169.out
        clear PB9 HP9 D79 D109 D119 D149 Cg169
        refine hK.out _ _ (range_of_row D7.out) ?_
        clear hK K t9 c9 e9 s9 Lg15
        try simp only [List.getElem_toArray, List.getElem_cons_succ, List.getElem_cons_zero, Act.put, List.setIfInBounds_toArray, List.set_cons_zero, List.set_cons_succ]
        refine wpAnyH_step (i := 19) (by kernel_rfl) rfl fun K hK => ?_
        refine step_store_blk rfl 28 _ _ rfl g15 _ (u8s A) _ rfl rfl Cg15.out (size28 hXl hA) (info28_l hA) (u8s_one _) ?_
        intro w9 c9 t9 s9
        have PB9 : Hid (Pure w4.drew w9) := Lib.hid (PB.out.trans t9 (fun q hq e => by omega))
        have HP9 : Hid (Hashs w9 (.slice (some ⟨b, o, none⟩) mm c) a) := Lib.hid (HP.out.turn t9 (fun hne q hq e => by have := HLT.out hne q hq; omega))
        have D79 : Hid (w9.heap[g7]? = some (.cells (u8s old).toArray 28 (0, 0))) := Lib.hid (t9.obj D7.out (by omega))
        have D109 : Hid (w9.heap[g10]? = some (.cells X.toArray 28 (0, 0))) := Lib.hid (t9.obj D10.out (by omega))
        have D119 : Hid (w9.heap[g11]? = some (.cells X.toArray 28 (0, 0))) := Lib.hid (t9.obj D11.out (by omega))
        have D149 : Hid (w9.heap[g14]? = some (.cells (u8s x).toArray 28 (0, 0))) := Lib.hid (t9.obj D14.out (by omega))
        have Cg169 : Hid (w9.heap[g16]? = some (.cells X.toArray 28 (0, 0))) := Lib.hid (t9.obj Cg16.out (by omega))
        have Cg159 := Lib.hid c9
        clear PB HP D7 D10 D11 D14 Cg16 Cg15
        have PB := Lib.hid PB9.out
        have HP := Lib.hid HP9.out
        have D7 := Lib.hid D79.out
        have D10 := Lib.hid D109.out
        have D11 := Lib.hid D119.out
        have D14 := Lib.hid D149.out
        have Cg16 := Lib.hid Cg169.out
        have Cg15 := Lib.hid Cg159.out
        clear PB9 HP9 D79 D109 D119 D149 Cg169 Cg159
        refine hK.out _ _ (range_of_row D7.out) ?_
        clear hK K t9 c9 s9
        try simp only [List.getElem_toArray, List.getElem_cons_succ, List.getElem_cons_zero, Act.put]
        refine wpAnyH_step (i := 20) (by kernel_rfl) rfl fun K hK => ?_
        refine step_store_blk rfl 28 _ _ rfl g16 _ (u8s B) _ rfl rfl Cg16.out (size28 hXl hB) (info28_l hB) (u8s_one _) ?_
        intro w9 c9 t9 s9
        have PB9 : Hid (Pure w4.drew w9) := Lib.hid (PB.out.trans t9 (fun q hq e => by omega))
        have HP9 : Hid (Hashs w9 (.slice (some ⟨b, o, none⟩) mm c) a) := Lib.hid (HP.out.turn t9 (fun hne q hq e => by have := HLT.out hne q hq; omega))
        have D79 : Hid (w9.heap[g7]? = some (.cells (u8s old).toArray 28 (0, 0))) := Lib.hid (t9.obj D7.out (by omega))
        have D109 : Hid (w9.heap[g10]? = some (.cells X.toArray 28 (0, 0))) := Lib.hid (t9.obj D10.out (by omega))
        have D119 : Hid (w9.heap[g11]? = some (.cells X.toArray 28 (0, 0))) := Lib.hid (t9.obj D11.out (by omega))
        have D149 : Hid (w9.heap[g14]? = some (.cells (u8s x).toArray 28 (0, 0))) := Lib.hid (t9.obj D14.out (by omega))
        have Cg159 : Hid (w9.heap[g15]? = some (.cells (u8s A).toArray 28 (0, 0))) := Lib.hid (t9.obj Cg15.out (by omega))
        have Cg169 := Lib.hid c9
        clear PB HP D7 D10 D11 D14 Cg15 Cg16
        have PB := Lib.hid PB9.out
        have HP := Lib.hid HP9.out
        have D7 := Lib.hid D79.out
        have D10 := Lib.hid D109.out
        have D11 := Lib.hid D119.out
        have D14 := Lib.hid D149.out
        have Cg15 := Lib.hid Cg159.out
        have Cg16 := Lib.hid Cg169.out
        clear PB9 HP9 D79 D109 D119 D149 Cg159 Cg169
        refine hK.out _ _ (range_of_row D7.out) ?_
        clear hK K t9 c9 s9
        try simp only [List.getElem_toArray, List.getElem_cons_succ, List.getElem_cons_zero, Act.put]
        refine wpAnyH_take (i := 21) (v := .bool OK) rfl (by kernel_rfl) (by kernel_rfl) (by kernel_rfl) (fun _ _ _ h => nomatch h.1) (Or.inl ⟨by rfl, fun w hSw => by go_simp⟩) (range_of_row D7.out) ?_
        simp only [List.getElem_toArray, List.getElem_cons_succ, List.getElem_cons_zero, Act.put, List.setIfInBounds_toArray, List.set_cons_zero, List.set_cons_succ]
        refine wpAnyH_done (by kernel_rfl) ?_ _
        exact ⟨rfl, g15, g16, rfl, PB.out, D10.out, D11.out, D14.out, Cg15.out, Cg16.out, Mg15, Mg16⟩
    · refine step_allocZ rfl 28 rfl X HZ.out ?_
      intro g15 w9 e9 c9 t9 s9
      have PB9 : Hid (Pure w4.drew w9) := Lib.hid (PB.out.pure t9)
      have HP9 : Hid (Hashs w9 (.slice (some ⟨b, o, none⟩) mm c) a) := Lib.hid (HP.out.pure t9)
      have D79 : Hid (w9.heap[g7]? = some (.cells (u8s old).toArray 28 (0, 0))) := Lib.hid (t9.obj D7.out (fun e => e))
      have D109 : Hid (w9.heap[g10]? = some (.cells X.toArray 28 (0, 0))) := Lib.hid (t9.obj D10.out (fun e => e))
      have D119 : Hid (w9.heap[g11]? = some (.cells X.toArray 28 (0, 0))) := Lib.hid (t9.obj D11.out (fun e => e))
      have D149 : Hid (w9.heap[g14]? = some (.cells (u8s x).toArray 28 (0, 0))) := Lib.hid (t9.obj D14.out (fun e => e))
      have Cg15 := Lib.hid c9
      have Lg15 := Lib.hid e9
      have Mg15 : w4.drew.heap.size ≤ g15 := by have := PB.out.size; omega
      clear PB HP D7 D10 D11 D14
      have PB := Lib.hid PB9.out
      have HP := Lib.hid HP9.out
      have D7 := Lib.hid D79.out
      have D10 := Lib.hid D109.out
      have D11 := Lib.hid D119.out
      have D14 := Lib.hid D149.out
      clear PB9 HP9 D79 D109 D119 D149
      refine hK.out _ _ (range_of_row D7.out) (fun _ => ?_)
      clear hK K t9 c9 e9 s9 Lg15
      try simp only [List.getElem_toArray, List.getElem_cons_succ, List.getElem_cons_zero, Act.put, List.setIfInBounds_toArray, List.set_cons_zero, List.set_cons_succ]
      refine wpAnyH_ready (rs := [12, 18]) (by kernel_rfl) (by simp) (AllReadyH.cons rfl (fun K hK => ?_) (AllReadyH.cons rfl (fun K hK => ?_) AllReadyH.nil))
      · go_simp
        refine (IH.out _ HP.out).mono ?_
        rintro e w9 ⟨rfl, t9⟩
        have PB9 : Hid (Pure w4.drew w9) := Lib.hid (PB.out.pure t9)
        have HP9 : Hid (Hashs w9 (.slice (some ⟨b, o, none⟩) mm c) a) := Lib.hid (HP.out.pure t9)
        have D79 : Hid (w9.heap[g7]? = some (.cells (u8s old).toArray 28 (0, 0))) := Lib.hid (t9.obj D7.out (fun e => e))
        have D109 : Hid (w9.heap[g10]? = some (.cells X.toArray 28 (0, 0))) := Lib.hid (t9.obj D10.out (fun e => e))
        have D119 : Hid (w9.heap[g11]? = some (.cells X.toArray 28 (0, 0))) := Lib.hid (t9.obj D11.out (fun e => e))
        have D149 : Hid (w9.heap[g14]? = some (.cells (u8s x).toArray 28 (0, 0))) := Lib.hid (t9.obj D14.out (fun e => e))
        have Cg159 : Hid (w9.heap[g15]? = some (.cells X.toArray 28 (0, 0))) := Lib.hid (t9.obj Cg15.out (fun e => e))
        clear PB HP D7 D10 D11 D14 Cg15
        have PB := Lib.hid PB9.out
        have HP := Lib.hid HP9.out
        have D7 := Lib.hid D79.out
        have D10 := Lib.hid D109.out
        have D11 := Lib.hid D119.out
        have D14 := Lib.hid D149.out
        have Cg15 := Lib.hid Cg159.out
        clear PB9 HP9 D79 D109 D119 D149 Cg159
        refine hK.out _ _ (range_of_row D7.out) (fun _ => ?_)
        clear hK K t9
        try simp only [List.getElem_toArray, List.getElem_cons_succ, List.getElem_cons_zero, Act.put, List.setIfInBounds_toArray, List.set_cons_zero, List.set_cons_succ]
        refine wpAnyH_take (i := 13) (v := .tuple #[hv A, hv B, .bool OK]) rfl (by kernel_rfl) (by kernel_rfl) (by kernel_rfl) (fun _ _ _ h => nomatch h.1) (Or.inl ⟨by rfl, fun w hSw => by go_simp⟩) (range_of_row D7.out) ?_
        simp only [List.getElem_toArray, List.getElem_cons_succ, List.getElem_cons_zero, Act.put, List.setIfInBounds_toArray, List.set_cons_zero, List.set_cons_succ]
        refine wpAnyH_take (i := 14) (v := hv A) rfl (by kernel_rfl) (by kernel_rfl) (by kernel_rfl) (fun _ _ _ h => nomatch h.1) (Or.inl ⟨by rfl, fun w hSw => by go_simp⟩) (range_of_row D7.out) ?_
        simp only [List.getElem_toArray, List.getElem_cons_succ, List.getElem_cons_zero, Act.put, List.setIfInBounds_toArray, List.set_cons_zero, List.set_cons_succ]
        refine wpAnyH_take (i := 15) (v := hv B) rfl (by kernel_rfl) (by kernel_rfl) (by kernel_rfl) (fun _ _ _ h => nomatch h.1) (Or.inl ⟨by rfl, fun w hSw => by go_simp⟩) (range_of_row D7.out) ?_
        simp only [List.getElem_toArray, List.getElem_cons_succ, List.getElem_cons_zero, Act.put, List.setIfInBounds_toArray, List.set_cons_zero, List.set_cons_succ]
        refine wpAnyH_take (i := 16) (v := .bool OK) rfl (by kernel_rfl) (by kernel_rfl) (by kernel_rfl) (fun _ _ _ h => nomatch h.1) (Or.inl ⟨by rfl, fun w hSw => by go_simp⟩) (range_of_row D7.out) ?_
        simp only [List.getElem_toArray, List.getElem_cons_succ, List.getElem_cons_zero, Act.put, List.setIfInBounds_toArray, List.set_cons_zero, List.set_cons_succ]
        refine wpAnyH_step (i := 18) (by kernel_rfl) rfl fun K hK => ?_
        refine step_allocZ rfl 28 rfl X HZ.out ?_
        intro g16 w9 e9 c9 t9 s9
        have PB9 : Hid (Pure w4.drew w9) := Lib.hid (PB.out.pure t9)
        have HP9 : Hid (Hashs w9 (.slice (some ⟨b, o, none⟩) mm c) a) := Lib.hid (HP.out.pure t9)
        have D79 : Hid (w9.heap[g7]? = some (.cells (u8s old).toArray 28 (0, 0))) := Lib.hid (t9.obj D7.out (fun e => e))
        have D109 : Hid (w9.heap[g10]? = some (.cells X.toArray 28 (0, 0))) := Lib.hid (t9.obj D10.out (fun e => e))
        have D119 : Hid (w9.heap[g11]? = some (.cells X.toArray 28 (0, 0))) := Lib.hid (t9.obj D11.out (fun e => e))
        have D149 : Hid (w9.heap[g14]? = some (.cells (u8s x).toArray 28 (0, 0))) := Lib.hid (t9.obj D14.out (fun e => e))
        have Cg159 : Hid (w9.heap[g15]? = some (.cells X.toArray 28 (0, 0))) := Lib.hid (t9.obj Cg15.out (fun e => e))
        have Cg16 := Lib.hid c9
        have Lg16 := Lib.hid e9
        have Ng15g16 : g15 ≠ g16 := by have := (Array.getElem?_eq_some_iff.1 Cg15.out).1; omega
        have Mg16 : w4.drew.heap.size ≤ g16 := by have := PB.out.size; omega
        clear PB HP D7 D10 D11 D14 Cg15
        have PB := Lib.hid PB9.out
        have HP := Lib.hid HP9.out
        have D7 := Lib.hid D79.out
        have D10 := Lib.hid D109.out
        have D11 := Lib.hid D119.out
        have D14 := Lib.hid D149.out
        have Cg15 := Lib.hid Cg159.out
        clear PB9 HP9 D79 D109 D119 D149 Cg159
        refine hK.out _ _ (range_of_row D7.out) ?_
        clear hK K t9 c9 e9 s9 Lg16
        try simp only [List.getElem_toArray, List.getElem_cons_succ, List.getElem_cons_zero, Act.put, List.setIfInBounds_toArray, List.set_cons_zero, List.set_cons_succ]
        refine wpAnyH_step (i := 19) (by kernel_rfl) rfl fun K hK => ?_
        refine step_store_blk rfl 28 _ _ rfl g15 _ (u8s A) _ rfl rfl Cg15.out (size28 hXl hA) (info28_l hA) (u8s_one _) ?_
        intro w9 c9 t9 s9
        have PB9 : Hid (Pure w4.drew w9) := Lib.hid (PB.out.trans t9 (fun q hq e => by omega))
        have HP9 : Hid (Hashs w9 (.slice (some ⟨b, o, none⟩) mm c) a) := Lib.hid (HP.out.turn t9 (fun hne q hq e => by have := HLT.out hne q hq; omega))
        have D79 : Hid (w9.heap[g7]? = some (.cells (u8s old).toArray 28 (0, 0))) := Lib.hid (t9.obj D7.out (by omega))
        have D109 : Hid (w9.heap[g10]? = some (.cells X.toArray 28 (0, 0))) := Lib.hid (t9.obj D10.out (by omega))
        have D119 : Hid (w9.heap[g11]? = some (.cells X.toArray 28 (0, 0))) := Lib.hid (t9.obj D11.out (by omega))
        have D149 : Hid (w9.heap[g14]? = some (.cells (u8s x).toArray 28 (0, 0))) := Lib.hid (t9.obj D14.out (by omega))
        have Cg169 : Hid (w9.heap[g16]? = some (.cells X.toArray 28 (0, 0))) := Lib.hid (t9.obj Cg16.out (by omega))
        have Cg159 := Lib.hid c9
        clear PB HP D7 D10 D11 D14 Cg16 Cg15
        have PB := Lib.hid PB9.out
        have HP := Lib.hid HP9.out
        have D7 := Lib.hid D79.out
        have D10 := Lib.hid D109.out
        have D11 := Lib.hid D119.out
        have D14 := Lib.hid D149.out
        have Cg16 := Lib.hid Cg169.out
        have Cg15 := Lib.hid Cg159.out
        clear PB9 HP9 D79 D109 D119 D149 Cg169 Cg159
        refine hK.out _ _ (range_of_row D7.out) ?_
        clear hK K t9 c9 s9
        try simp only [List.getElem_toArray, List.getElem_cons_succ, List.getElem_cons_zero, Act.put]
        refine wpAnyH_step (i := 20) (by kernel_rfl) rfl fun K hK => ?_
        refine step_store_blk rfl 28 _ _ rfl g16 _ (u8s B) _ rfl rfl Cg16.out (size28 hXl hB) (info28_l hB) (u8s_one _) ?_
        intro w9 c9 t9 s9
        have PB9 : Hid (Pure w4.drew w9) := Lib.hid (PB.out.trans t9 (fun q hq e => by omega))
        have HP9 : Hid (Hashs w9 (.slice (some ⟨b, o, none⟩) mm c) a) := Lib.hid (HP.out.turn t9 (fun hne q hq e => by have := HLT.out hne q hq; omega))
        have D79 : Hid (w9.heap[g7]? = some (.cells (u8s old).toArray 28 (0, 0))) := Lib.hid (t9.obj D7.out (by omega))
        have D109 : Hid (w9.heap[g10]? = some (.cells X.toArray 28 (0, 0))) := Lib.hid (t9.obj D10.out (by omega))
        have D119 : Hid (w9.heap[g11]? = some (.cells X.toArray 28 (0, 0))) := Lib.hid (t9.obj D11.out (by omega))
        have D149 : Hid (w9.heap[g14]? = some (.cells (u8s x).toArray 28 (0, 0))) := Lib.hid (t9.obj D14.out (by omega))
        have Cg159 : Hid (w9.heap[g15]? = some (.cells (u8s A).toArray 28 (0, 0))) := Lib.hid (t9.obj Cg15.out (by omega))
        have Cg169 := Lib.hid c9
        clear PB HP D7 D10 D11 D14 Cg15 Cg16
        have PB := Lib.hid PB9.out
        have HP := Lib.hid HP9.out
        have D7 := Lib.hid D79.out
        have D10 := Lib.hid D109.out
        have D11 := Lib.hid D119.out
        have D14 := Lib.hid D149.out
        have Cg15 := Lib.hid Cg159.out
        have Cg16 := Lib.hid Cg169.out
        clear PB9 HP9 D79 D109 D119 D149 Cg159 Cg169
        refine hK.out _ _ (range_of_row D7.out) ?_
        clear hK K t9 c9 s9
        try simp only [List.getElem_toArray, List.getElem_cons_succ, List.getElem_cons_zero, Act.put]
        refine wpAnyH_take (i := 21) (v := .bool OK) rfl (by kernel_rfl) (by kernel_rfl) (by kernel_rfl) (fun _ _ _ h => nomatch h.1) (Or.inl ⟨by rfl, fun w hSw => by go_simp⟩) (range_of_row D7.out) ?_
        simp only [List.getElem_toArray, List.getElem_cons_succ, List.getElem_cons_zero, Act.put, List.setIfInBounds_toArray, List.set_cons_zero, List.set_cons_succ]
        refine wpAnyH_done (by kernel_rfl) ?_ _
        exact ⟨rfl, g15, g16, rfl, PB.out, D10.out, D11.out, D14.out, Cg15.out, Cg16.out, Mg15, Mg16⟩
      · refine step_allocZ rfl 28 rfl X HZ.out ?_
        intro g16 w9 e9 c9 t9 s9
        have PB9 : Hid (Pure w4.drew w9) := Lib.hid (PB.out.pure t9)
        have HP9 : Hid (Hashs w9 (.slice (some ⟨b, o, none⟩) mm c) a) := Lib.hid (HP.out.pure t9)
        have D79 : Hid (w9.heap[g7]? = some (.cells (u8s old).toArray 28 (0, 0))) := Lib.hid (t9.obj D7.out (fun e => e))
        have D109 : Hid (w9.heap[g10]? = some (.cells X.toArray 28 (0, 0))) := Lib.hid (t9.obj D10.out (fun e => e))
        have D119 : Hid (w9.heap[g11]? = some (.cells X.toArray 28 (0, 0))) := Lib.hid (t9.obj D11.out (fun e => e))
        have D149 : Hid (w9.heap[g14]? = some (.cells (u8s x).toArray 28 (0, 0))) := Lib.hid (t9.obj D14.out (fun e => e))
        have Cg159 : Hid (w9.heap[g15]? = some (.cells X.toArray 28 (0, 0))) := Lib.hid (t9.obj Cg15.out (fun e => e))
        have Cg16 := Lib.hid c9
        have Lg16 := Lib.hid e9
        have Ng15g16 : g15 ≠ g16 := by have := (Array.getElem?_eq_some_iff.1 Cg15.out).1; omega
        have Mg16 : w4.drew.heap.size ≤ g16 := by have := PB.out.size; omega
        clear PB HP D7 D10 D11 D14 Cg15
        have PB := Lib.hid PB9.out
        have HP := Lib.hid HP9.out
        have D7 := Lib.hid D79.out
        have D10 := Lib.hid D109.out
        have D11 := Lib.hid D119.out
        have D14 := Lib.hid D149.out
        have Cg15 := Lib.hid Cg159.out
        clear PB9 HP9 D79 D109 D119 D149 Cg159
        refine hK.out _ _ (range_of_row D7.out) (fun _ => ?_)
        clear hK K t9 c9 e9 s9 Lg16
        try simp only [List.getElem_toArray, List.getElem_cons_succ, List.getElem_cons_zero, Act.put, List.setIfInBounds_toArray, List.set_cons_zero, List.set_cons_succ]
        refine wpAnyH_step (i := 12) (by kernel_rfl) rfl fun K hK => ?_
        go_simp
        refine (IH.out _ HP.out).mono ?_
        rintro e w9 ⟨rfl, t9⟩
        have PB9 : Hid (Pure w4.drew w9) := Lib.hid (PB.out.pure t9)
        have HP9 : Hid (Hashs w9 (.slice (some ⟨b, o, none⟩) mm c) a) := Lib.hid (HP.out.pure t9)
        have D79 : Hid (w9.heap[g7]? = some (.cells (u8s old).toArray 28 (0, 0))) := Lib.hid (t9.obj D7.out (fun e => e))
        have D109 : Hid (w9.heap[g10]? = some (.cells X.toArray 28 (0, 0))) := Lib.hid (t9.obj D10.out (fun e => e))
        have D119 : Hid (w9.heap[g11]? = some (.cells X.toArray 28 (0, 0))) := Lib.hid (t9.obj D11.out (fun e => e))
        have D149 : Hid (w9.heap[g14]? = some (.cells (u8s x).toArray 28 (0, 0))) := Lib.hid (t9.obj D14.out (fun e => e))
        have Cg159 : Hid (w9.heap[g15]? = some (.cells X.toArray 28 (0, 0))) := Lib.hid (t9.obj Cg15.out (fun e => e))
        have Cg169 : Hid (w9.heap[g16]? = some (.cells X.toArray 28 (0, 0))) := Lib.hid (t9.obj Cg16.out (fun e => e))
        clear PB HP D7 D10 D11 D14 Cg15 Cg16
        have PB := Lib.hid PB9.out
        have HP := Lib.hid HP9.out
        have D7 := Lib.hid D79.out
        have D10 := Lib.hid D109.out
        have D11 := Lib.hid D119.out
        have D14 := Lib.hid D149.out
        have Cg15 := Lib.hid Cg159.out
        have Cg16 := Lib.hid Cg169.out
        clear PB9 HP9 D79 D109 D119 D149 Cg159 Cg169
        refine hK.out _ _ (range_of_row D7.out) ?_
        clear hK K t9
        try simp only [List.getElem_toArray, List.getElem_cons_succ, List.getElem_cons_zero, Act.put, List.setIfInBounds_toArray, List.set_cons_zero, List.set_cons_succ]
        refine wpAnyH_take (i := 13) (v := .tuple #[hv A, hv B, .bool OK]) rfl (by kernel_rfl) (by kernel_rfl) (by kernel_rfl) (fun _ _ _ h => nomatch h.1) (Or.inl ⟨by rfl, fun w hSw => by go_simp⟩) (range_of_row D7.out) ?_
        simp only [List.getElem_toArray, List.getElem_cons_succ, List.getElem_cons_zero, Act.put, List.setIfInBounds_toArray, List.set_cons_zero, List.set_cons_succ]
        refine wpAnyH_take (i := 14) (v := hv A) rfl (by kernel_rfl) (by kernel_rfl) (by kernel_rfl) (fun _ _ _ h => nomatch h.1) (Or.inl ⟨by rfl, fun w hSw => by go_simp⟩) (range_of_row D7.out) ?_
        simp only [List.getElem_toArray, List.getElem_cons_succ, List.getElem_cons_zero, Act.put, List.setIfInBounds_toArray, List.set_cons_zero, List.set_cons_succ]
        refine wpAnyH_take (i := 15) (v := hv B) rfl (by kernel_rfl) (by kernel_rfl) (by kernel_rfl) (fun _ _ _ h => nomatch h.1) (Or.inl ⟨by rfl, fun w hSw => by go_simp⟩) (range_of_row D7.out) ?_
        simp only [List.getElem_toArray, List.getElem_cons_succ, List.getElem_cons_zero, Act.put, List.setIfInBounds_toArray, List.set_cons_zero, List.set_cons_succ]
        refine wpAnyH_take (i := 16) (v := .bool OK) rfl (by kernel_rfl) (by kernel_rfl) (by kernel_rfl) (fun _ _ _ h => nomatch h.1) (Or.inl ⟨by rfl, fun w hSw => by go_simp⟩) (range_of_row D7.out) ?_
        simp only [List.getElem_toArray, List.getElem_cons_succ, List.getElem_cons_zero, Act.put, List.setIfInBounds_toArray, List.set_cons_zero, List.set_cons_succ]
        refine wpAnyH_step (i := 19) (by kernel_rfl) rfl fun K hK => ?_
        refine step_store_blk rfl 28 _ _ rfl g15 _ (u8s A) _ rfl rfl Cg15.out (size28 hXl hA) (info28_l hA) (u8s_one _) ?_
        intro w9 c9 t9 s9
        have PB9 : Hid (Pure w4.drew w9) := Lib.hid (PB.out.trans t9 (fun q hq e => by omega))
        have HP9 : Hid (Hashs w9 (.slice (some ⟨b, o, none⟩) mm c) a) := Lib.hid (HP.out.turn t9 (fun hne q hq e => by have := HLT.out hne q hq; omega))
        have D79 : Hid (w9.heap[g7]? = some (.cells (u8s old).toArray 28 (0, 0))) := Lib.hid (t9.obj D7.out (by omega))
        have D109 : Hid (w9.heap[g10]? = some (.cells X.toArray 28 (0, 0))) := Lib.hid (t9.obj D10.out (by omega))
        have D119 : Hid (w9.heap[g11]? = some (.cells X.toArray 28 (0, 0))) := Lib.hid (t9.obj D11.out (by omega))
        have D149 : Hid (w9.heap[g14]? = some (.cells (u8s x).toArray 28 (0, 0))) := Lib.hid (t9.obj D14.out (by omega))
        have Cg169 : Hid (w9.heap[g16]? = some (.cells X.toArray 28 (0, 0))) := Lib.hid (t9.obj Cg16.out (by omega))
        have Cg159 := Lib.hid c9
        clear PB HP D7 D10 D11 D14 Cg16 Cg15
        have PB := Lib.hid PB9.out
        have HP := Lib.hid HP9.out
        have D7 := Lib.hid D79.out
        have D10 := Lib.hid D109.out
        have D11 := Lib.hid D119.out
        have D14 := Lib.hid D149.out
        have Cg16 := Lib.hid Cg169.out
        have Cg15 := Lib.hid Cg159.out
        clear PB9 HP9 D79 D109 D119 D149 Cg169 Cg159
        refine hK.out _ _ (range_of_row D7.out) ?_
        clear hK K t9 c9 s9
        try simp only [List.getElem_toArray, List.getElem_cons_succ, List.getElem_cons_zero, Act.put]
        refine wpAnyH_step (i := 20) (by kernel_rfl) rfl fun K hK => ?_
        refine step_store_blk rfl 28 _ _ rfl g16 _ (u8s B) _ rfl rfl Cg16.out (size28 hXl hB) (info28_l hB) (u8s_one _) ?_
        intro w9 c9 t9 s9
        have PB9 : Hid (Pure w4.drew w9) := Lib.hid (PB.out.trans t9 (fun q hq e => by omega))
        have HP9 : Hid (Hashs w9 (.slice (some ⟨b, o, none⟩) mm c) a) := Lib.hid (HP.out.turn t9 (fun hne q hq e => by have := HLT.out hne q hq; omega))
        have D79 : Hid (w9.heap[g7]? = some (.cells (u8s old).toArray 28 (0, 0))) := Lib.hid (t9.obj D7.out (by omega))
        have D109 : Hid (w9.heap[g10]? = some (.cells X.toArray 28 (0, 0))) := Lib.hid (t9.obj D10.out (by omega))
        have D119 : Hid (w9.heap[g11]? = some (.cells X.toArray 28 (0, 0))) := Lib.hid (t9.obj D11.out (by omega))
        have D149 : Hid (w9.heap[g14]? = some (.cells (u8s x).toArray 28 (0, 0))) := Lib.hid (t9.obj D14.out (by omega))
        have Cg159 : Hid (w9.heap[g15]? = some (.cells (u8s A).toArray 28 (0, 0))) := Lib.hid (t9.obj Cg15.out (by omega))
        have Cg169 := Lib.hid c9
        clear PB HP D7 D10 D11 D14 Cg15 Cg16
        have PB := Lib.hid PB9.out
        have HP := Lib.hid HP9.out
        have D7 := Lib.hid D79.out
        have D10 := Lib.hid D109.out
        have D11 := Lib.hid D119.out
        have D14 := Lib.hid D149.out
        have Cg15 := Lib.hid Cg159.out
        have Cg16 := Lib.hid Cg169.out
        clear PB9 HP9 D79 D109 D119 D149 Cg159 Cg169
        refine hK.out _ _ (range_of_row D7.out) ?_
        clear hK K t9 c9 s9
        try simp only [List.getElem_toArray, List.getElem_cons_succ, List.getElem_cons_zero, Act.put]
        refine wpAnyH_take (i := 21) (v := .bool OK) rfl (by kernel_rfl) (by kernel_rfl) (by kernel_rfl) (fun _ _ _ h => nomatch h.1) (Or.inl ⟨by rfl, fun w hSw => by go_simp⟩) (range_of_row D7.out) ?_
        simp only [List.getElem_toArray, List.getElem_cons_succ, List.getElem_cons_zero, Act.put, List.setIfInBounds_toArray, List.set_cons_zero, List.set_cons_succ]
        refine wpAnyH_done (by kernel_rfl) ?_ _
        exact ⟨rfl, g15, g16, rfl, PB.out, D10.out, D11.out, D14.out, Cg15.out, Cg16.out, Mg15, Mg16⟩
    · refine step_allocZ rfl 28 rfl X HZ.out ?_
      intro g16 w9 e9 c9 t9 s9
      have PB9 : Hid (Pure w4.drew w9) := Lib.hid (PB.out.pure t9)
      have HP9 : Hid (Hashs w9 (.slice (some ⟨b, o, none⟩) mm c) a) := Lib.hid (HP.out.pure t9)
      have D79 : Hid (w9.heap[g7]? = some (.cells (u8s old).toArray 28 (0, 0))) := Lib.hid (t9.obj D7.out (fun e => e))
      have D109 : Hid (w9.heap[g10]? = some (.cells X.toArray 28 (0, 0))) := Lib.hid (t9.obj D10.out (fun e => e))
      have D119 : Hid (w9.heap[g11]? = some (.cells X.toArray 28 (0, 0))) := Lib.hid (t9.obj D11.out (fun e => e))
      have D149 : Hid (w9.heap[g14]? = some (.cells (u8s x).toArray 28 (0, 0))) := Lib.hid (t9.obj D14.out (fun e => e))
      have Cg16 := Lib.hid c9
      have Lg16 := Lib.hid e9
      have Mg16 : w4.drew.heap.size ≤ g16 := by have := PB.out.size; omega
      clear PB HP D7 D10 D11 D14
      have PB := Lib.hid PB9.out
      have HP := Lib.hid HP9.out
      have D7 := Lib.hid D79.out
      have D10 := Lib.hid D109.out
      have D11 := Lib.hid D119.out
      have D14 := Lib.hid D149.out
      clear PB9 HP9 D79 D109 D119 D149
      refine hK.out _ _ (range_of_row D7.out) (fun _ => ?_)
      clear hK K t9 c9 e9 s9 Lg16
      try simp only [List.getElem_toArray, List.getElem_cons_succ, List.getElem_cons_zero, Act.put, List.setIfInBounds_toArray, List.set_cons_zero, List.set_cons_succ]
      refine wpAnyH_ready (rs := [12, 17]) (by kernel_rfl) (by simp) (AllReadyH.cons rfl (fun K hK => ?_) (AllReadyH.cons rfl (fun K hK => ?_) AllReadyH.nil))
      · go_simp
        refine (IH.out _ HP.out).mono ?_
        rintro e w9 ⟨rfl, t9⟩
        have PB9 : Hid (Pure w4.drew w9) := Lib.hid (PB.out.pure t9)
        have HP9 : Hid (Hashs w9 (.slice (some ⟨b, o, none⟩) mm c) a) := Lib.hid (HP.out.pure t9)
        have D79 : Hid (w9.heap[g7]? = some (.cells (u8s old).toArray 28 (0, 0))) := Lib.hid (t9.obj D7.out (fun e => e))
        have D109 : Hid (w9.heap[g10]? = some (.cells X.toArray 28 (0, 0))) := Lib.hid (t9.obj D10.out (fun e => e))
        have D119 : Hid (w9.heap[g11]? = some (.cells X.toArray 28 (0, 0))) := Lib.hid (t9.obj D11.out (fun e => e))
        have D149 : Hid (w9.heap[g14]? = some (.cells (u8s x).toArray 28 (0, 0))) := Lib.hid (t9.obj D14.out (fun e => e))
        have Cg169 : Hid (w9.heap[g16]? = some (.cells X.toArray 28 (0, 0))) := Lib.hid (t9.obj Cg16.out (fun e => e))
        clear PB HP D7 D10 D11 D14 Cg16
        have PB := Lib.hid PB9.out
        have HP := Lib.hid HP9.out
        have D7 := Lib.hid D79.out
        have D10 := Lib.hid D109.out
        have D11 := Lib.hid D119.out
        have D14 := Lib.hid D149.out
        have Cg16 := Lib.hid Cg169.out
        clear PB9 HP9 D79 D109 D119 D149 Cg169
        refine hK.out _ _ (range_of_row D7.out) (fun _ => ?_)
        clear hK K t9
        try simp only [List.getElem_toArray, List.getElem_cons_succ, List.getElem_cons_zero, Act.put, List.setIfInBounds_toArray, List.set_cons_zero, List.set_cons_succ]
        refine wpAnyH_take (i := 13) (v := .tuple #[hv A, hv B, .bool OK]) rfl (by kernel_rfl) (by kernel_rfl) (by kernel_rfl) (fun _ _ _ h => nomatch h.1) (Or.inl ⟨by rfl, fun w hSw => by go_simp⟩) (range_of_row D7.out) ?_
        simp only [List.getElem_toArray, List.getElem_cons_succ, List.getElem_cons_zero, Act.put, List.setIfInBounds_toArray, List.set_cons_zero, List.set_cons_succ]
        refine wpAnyH_take (i := 14) (v := hv A) rfl (by kernel_rfl) (by kernel_rfl) (by kernel_rfl) (fun _ _ _ h => nomatch h.1) (Or.inl ⟨by rfl, fun w hSw => by go_simp⟩) (range_of_row D7.out) ?_
        simp only [List.getElem_toArray, List.getElem_cons_succ, List.getElem_cons_zero, Act.put, List.setIfInBounds_toArray, List.set_cons_zero, List.set_cons_succ]
        refine wpAnyH_take (i := 15) (v := hv B) rfl (by kernel_rfl) (by kernel_rfl) (by kernel_rfl) (fun _ _ _ h => nomatch h.1) (Or.inl ⟨by rfl, fun w hSw => by go_simp⟩) (range_of_row D7.out) ?_
        simp only [List.getElem_toArray, List.getElem_cons_succ, List.getElem_cons_zero, Act.put, List.setIfInBounds_toArray, List.set_cons_zero, List.set_cons_succ]
        refine wpAnyH_take (i := 16) (v := .bool OK) rfl (by kernel_rfl) (by kernel_rfl) (by kernel_rfl) (fun _ _ _ h => nomatch h.1) (Or.inl ⟨by rfl, fun w hSw => by go_simp⟩) (range_of_row D7.out) ?_
        simp only [List.getElem_toArray, List.getElem_cons_succ, List.getElem_cons_zero, Act.put, List.setIfInBounds_toArray, List.set_cons_zero, List.set_cons_succ]
        refine wpAnyH_step (i := 17) (by kernel_rfl) rfl fun K hK => ?_
        refine step_allocZ rfl 28 rfl X HZ.out ?_
        intro g15 w9 e9 c9 t9 s9
        have PB9 : Hid (Pure w4.drew w9) := Lib.hid (PB.out.pure t9)
        have HP9 : Hid (Hashs w9 (.slice (some ⟨b, o, none⟩) mm c) a) := Lib.hid (HP.out.pure t9)
        have D79 : Hid (w9.heap[g7]? = some (.cells (u8s old).toArray 28 (0, 0))) := Lib.hid (t9.obj D7.out (fun e => e))
        have D109 : Hid (w9.heap[g10]? = some (.cells X.toArray 28 (0, 0))) := Lib.hid (t9.obj D10.out (fun e => e))
        have D119 : Hid (w9.heap[g11]? = some (.cells X.toArray 28 (0, 0))) := Lib.hid (t9.obj D11.out (fun e => e))
        have D149 : Hid (w9.heap[g14]? = some (.cells (u8s x).toArray 28 (0, 0))) := Lib.hid (t9.obj D14.out (fun e => e))
        have Cg169 : Hid (w9.heap[g16]? = some (.cells X.toArray 28 (0, 0))) := Lib.hid (t9.obj Cg16.out (fun e => e))
        have Cg15 := Lib.hid c9
        have Lg15 := Lib.hid e9
        have Ng16g15 : g16 ≠ g15 := by have := (Array.getElem?_eq_some_iff.1 Cg16.out).1; omega
        have Mg15 : w4.drew.heap.size ≤ g15 := by have := PB.out.size; omega
        clear PB HP D7 D10 D11 D14 Cg16
        have PB := Lib.hid PB9.out
        have HP := Lib.hid HP9.out
        have D7 := Lib.hid D79.out
        have D10 := Lib.hid D109.out
        have D11 := Lib.hid D119.out
        have D14 := Lib.hid D149.out
        have Cg16 := Lib.hid Cg169.out
        clear PB9 HP9 D79 D109 D119 D149 Cg169
        refine hK.out _ _ (range_of_row D7.out) ?_
        clear hK K t9 c9 e9 s9 Lg15
        try simp only [List.getElem_toArray, List.getElem_cons_succ, List.getElem_cons_zero, Act.put, List.setIfInBounds_toArray, List.set_cons_zero, List.set_cons_succ]
        refine wpAnyH_step (i := 19) (by kernel_rfl) rfl fun K hK => ?_
        refine step_store_blk rfl 28 _ _ rfl g15 _ (u8s A) _ rfl rfl Cg15.out (size28 hXl hA) (info28_l hA) (u8s_one _) ?_
        intro w9 c9 t9 s9
        have PB9 : Hid (Pure w4.drew w9) := Lib.hid (PB.out.trans t9 (fun q hq e => by omega))
        have HP9 : Hid (Hashs w9 (.slice (some ⟨b, o, none⟩) mm c) a) := Lib.hid (HP.out.turn t9 (fun hne q hq e => by have := HLT.out hne q hq; omega))
        have D79 : Hid (w9.heap[g7]? = some (.cells (u8s old).toArray 28 (0, 0))) := Lib.hid (t9.obj D7.out (by omega))
        have D109 : Hid (w9.heap[g10]? = some (.cells X.toArray 28 (0, 0))) := Lib.hid (t9.obj D10.out (by omega))
        have D119 : Hid (w9.heap[g11]? = some (.cells X.toArray 28 (0, 0))) := Lib.hid (t9.obj D11.out (by omega))
        have D149 : Hid (w9.heap[g14]? = some (.cells (u8s x).toArray 28 (0, 0))) := Lib.hid (t9.obj D14.out (by omega))
        have Cg169 : Hid (w9.heap[g16]? = some (.cells X.toArray 28 (0, 0))) := Lib.hid (t9.obj Cg16.out (by omega))
        have Cg159 := Lib.hid c9
        clear PB HP D7 D10 D11 D14 Cg16 Cg15
        have PB := Lib.hid PB9.out
        have HP := Lib.hid HP9.out
        have D7 := Lib.hid D79.out
        have D10 := Lib.hid D109.out
        have D11 := Lib.hid D119.out
        have D14 := Lib.hid D149.out
        have Cg16 := Lib.hid Cg169.out
        have Cg15 := Lib.hid Cg159.out
        clear PB9 HP9 D79 D109 D119 D149 Cg169 Cg159
        refine hK.out _ _ (range_of_row D7.out) ?_
        clear hK K t9 c9 s9
        try simp only [List.getElem_toArray, List.getElem_cons_succ, List.getElem_cons_zero, Act.put]
        refine wpAnyH_step (i := 20) (by kernel_rfl) rfl fun K hK => ?_
        refine step_store_blk rfl 28 _ _ rfl g16 _ (u8s B) _ rfl rfl Cg16.out (size28 hXl hB) (info28_l hB) (u8s_one _) ?_
        intro w9 c9 t9 s9
        have PB9 : Hid (Pure w4.drew w9) := Lib.hid (PB.out.trans t9 (fun q hq e => by omega))
        have HP9 : Hid (Hashs w9 (.slice (some ⟨b, o, none⟩) mm c) a) := Lib.hid (HP.out.turn t9 (fun hne q hq e => by have := HLT.out hne q hq; omega))
        have D79 : Hid (w9.heap[g7]? = some (.cells (u8s old).toArray 28 (0, 0))) := Lib.hid (t9.obj D7.out (by omega))
        have D109 : Hid (w9.heap[g10]? = some (.cells X.toArray 28 (0, 0))) := Lib.hid (t9.obj D10.out (by omega))
        have D119 : Hid (w9.heap[g11]? = some (.cells X.toArray 28 (0, 0))) := Lib.hid (t9.obj D11.out (by omega))
        have D149 : Hid (w9.heap[g14]? = some (.cells (u8s x).toArray 28 (0, 0))) := Lib.hid (t9.obj D14.out (by omega))
        have Cg159 : Hid (w9.heap[g15]? = some (.cells (u8s A).toArray 28 (0, 0))) := Lib.hid (t9.obj Cg15.out (by omega))
        have Cg169 := Lib.hid c9
        clear PB HP D7 D10 D11 D14 Cg15 Cg16
        have PB := Lib.hid PB9.out
        have HP := Lib.hid HP9.out
        have D7 := Lib.hid D79.out
        have D10 := Lib.hid D109.out
        have D11 := Lib.hid D119.out
        have D14 := Lib.hid D149.out
        have Cg15 := Lib.hid Cg159.out
        have Cg16 := Lib.hid Cg169.out
        clear PB9 HP9 D79 D109 D119 D149 Cg159 Cg169
        refine hK.out _ _ (range_of_row D7.out) ?_
        clear hK K t9 c9 s9
        try simp only [List.getElem_toArray, List.getElem_cons_succ, List.getElem_cons_zero, Act.put]
        refine wpAnyH_take (i := 21) (v := .bool OK) rfl (by kernel_rfl) (by kernel_rfl) (by kernel_rfl) (fun _ _ _ h => nomatch h.1) (Or.inl ⟨by rfl, fun w hSw => by go_simp⟩) (range_of_row D7.out) ?_
        simp only [List.getElem_toArray, List.getElem_cons_succ, List.getElem_cons_zero, Act.put, List.setIfInBounds_toArray, List.set_cons_zero, List.set_cons_succ]
        refine wpAnyH_done (by kernel_rfl) ?_ _
        exact ⟨rfl, g15, g16, rfl, PB.out, D10.out, D11.out, D14.out, Cg15.out, Cg16.out, Mg15, Mg16⟩
      · refine step_allocZ rfl 28 rfl X HZ.out ?_
        intro g15 w9 e9 c9 t9 s9
        have PB9 : Hid (Pure w4.drew w9) := Lib.hid (PB.out.pure t9)
        have HP9 : Hid (Hashs w9 (.slice (some ⟨b, o, none⟩) mm c) a) := Lib.hid (HP.out.pure t9)
        have D79 : Hid (w9.heap[g7]? = some (.cells (u8s old).toArray 28 (0, 0))) := Lib.hid (t9.obj D7.out (fun e => e))
        have D109 : Hid (w9.heap[g10]? = some (.cells X.toArray 28 (0, 0))) := Lib.hid (t9.obj D10.out (fun e => e))
        have D119 : Hid (w9.heap[g11]? = some (.cells X.toArray 28 (0, 0))) := Lib.hid (t9.obj D11.out (fun e => e))
        have D149 : Hid (w9.heap[g14]? = some (.cells (u8s x).toArray 28 (0, 0))) := Lib.hid (t9.obj D14.out (fun e => e))
        have Cg169 : Hid (w9.heap[g16]? = some (.cells X.toArray 28 (0, 0))) := Lib.hid (t9.obj Cg16.out (fun e => e))
        have Cg15 := Lib.hid c9
        have Lg15 := Lib.hid e9
        have Ng16g15 : g16 ≠ g15 := by have := (Array.getElem?_eq_some_iff.1 Cg16.out).1; omega
        have Mg15 : w4.drew.heap.size ≤ g15 := by have := PB.out.size; omega
        clear PB HP D7 D10 D11 D14 Cg16
        have PB := Lib.hid PB9.out
        have HP := Lib.hid HP9.out
        have D7 := Lib.hid D79.out
        have D10 := Lib.hid D109.out
        have D11 := Lib.hid D119.out
        have D14 := Lib.hid D149.out
        have Cg16 := Lib.hid Cg169.out
        clear PB9 HP9 D79 D109 D119 D149 Cg169
        refine hK.out _ _ (range_of_row D7.out) (fun _ => ?_)
        clear hK K t9 c9 e9 s9 Lg15
        try simp only [List.getElem_toArray, List.getElem_cons_succ, List.getElem_cons_zero, Act.put, List.setIfInBounds_toArray, List.set_cons_zero, List.set_cons_succ]
        refine wpAnyH_step (i := 12) (by kernel_rfl) rfl fun K hK => ?_
        go_simp
        refine (IH.out _ HP.out).mono ?_
        rintro e w9 ⟨rfl, t9⟩
        have PB9 : Hid (Pure w4.drew w9) := Lib.hid (PB.out.pure t9)
        have HP9 : Hid (Hashs w9 (.slice (some ⟨b, o, none⟩) mm c) a) := Lib.hid (HP.out.pure t9)
        have D79 : Hid (w9.heap[g7]? = some (.cells (u8s old).toArray 28 (0, 0))) := Lib.hid (t9.obj D7.out (fun e => e))
        have D109 : Hid (w9.heap[g10]? = some (.cells X.toArray 28 (0, 0))) := Lib.hid (t9.obj D10.out (fun e => e))
        have D119 : Hid (w9.heap[g11]? = some (.cells X.toArray 28 (0, 0))) := Lib.hid (t9.obj D11.out (fun e => e))
        have D149 : Hid (w9.heap[g14]? = some (.cells (u8s x).toArray 28 (0, 0))) := Lib.hid (t9.obj D14.out (fun e => e))
        have Cg169 : Hid (w9.heap[g16]? = some (.cells X.toArray 28 (0, 0))) := Lib.hid (t9.obj Cg16.out (fun e => e))
        have Cg159 : Hid (w9.heap[g15]? = some (.cells X.toArray 28 (0, 0))) := Lib.hid (t9.obj Cg15.out (fun e => e))
        clear PB HP D7 D10 D11 D14 Cg16 Cg15
        have PB := Lib.hid PB9.out
        have HP := Lib.hid HP9.out
        have D7 := Lib.hid D79.out
        have D10 := Lib.hid D109.out
        have D11 := Lib.hid D119.out
        have D14 := Lib.hid D149.out
        have Cg16 := Lib.hid Cg169.out
        have Cg15 := Lib.hid Cg159.out
        clear PB9 HP9 D79 D109 D119 D149 Cg169 Cg159
        refine hK.out _ _ (range_of_row D7.out) ?_
        clear hK K t9
        try simp only [List.getElem_toArray, List.getElem_cons_succ, List.getElem_cons_zero, Act.put, List.setIfInBounds_toArray, List.set_cons_zero, List.set_cons_succ]
        refine wpAnyH_take (i := 13) (v := .tuple #[hv A, hv B, .bool OK]) rfl (by kernel_rfl) (by kernel_rfl) (by kernel_rfl) (fun _ _ _ h => nomatch h.1) (Or.inl ⟨by rfl, fun w hSw => by go_simp⟩) (range_of_row D7.out) ?_
        simp only [List.getElem_toArray, List.getElem_cons_succ, List.getElem_cons_zero, Act.put, List.setIfInBounds_toArray, List.set_cons_zero, List.set_cons_succ]
        refine wpAnyH_take (i := 14) (v := hv A) rfl (by kernel_rfl) (by kernel_rfl) (by kernel_rfl) (fun _ _ _ h => nomatch h.1) (Or.inl ⟨by rfl, fun w hSw => by go_simp⟩) (range_of_row D7.out) ?_
        simp only [List.getElem_toArray, List.getElem_cons_succ, List.getElem_cons_zero, Act.put, List.setIfInBounds_toArray, List.set_cons_zero, List.set_cons_succ]
        refine wpAnyH_take (i := 15) (v := hv B) rfl (by kernel_rfl) (by kernel_rfl) (by kernel_rfl) (fun _ _ _ h => nomatch h.1) (Or.inl ⟨by rfl, fun w hSw => by go_simp⟩) (range_of_row D7.out) ?_
        simp only [List.getElem_toArray, List.getElem_cons_succ, List.getElem_cons_zero, Act.put, List.setIfInBounds_toArray, List.set_cons_zero, List.set_cons_succ]
        refine wpAnyH_take (i := 16) (v := .bool OK) rfl (by kernel_rfl) (by kernel_rfl) (by kernel_rfl) (fun _ _ _ h => nomatch h.1) (Or.inl ⟨by rfl, fun w hSw => by go_simp⟩) (range_of_row D7.out) ?_
        simp only [List.getElem_toArray, List.getElem_cons_succ, List.getElem_cons_zero, Act.put, List.setIfInBounds_toArray, List.set_cons_zero, List.set_cons_succ]
        refine wpAnyH_step (i := 19) (by kernel_rfl) rfl fun K hK => ?_
        refine step_store_blk rfl 28 _ _ rfl g15 _ (u8s A) _ rfl rfl Cg15.out (size28 hXl hA) (info28_l hA) (u8s_one _) ?_
        intro w9 c9 t9 s9
        have PB9 : Hid (Pure w4.drew w9) := Lib.hid (PB.out.trans t9 (fun q hq e => by omega))
        have HP9 : Hid (Hashs w9 (.slice (some ⟨b, o, none⟩) mm c) a) := Lib.hid (HP.out.turn t9 (fun hne q hq e => by have := HLT.out hne q hq; omega))
        have D79 : Hid (w9.heap[g7]? = some (.cells (u8s old).toArray 28 (0, 0))) := Lib.hid (t9.obj D7.out (by omega))
        have D109 : Hid (w9.heap[g10]? = some (.cells X.toArray 28 (0, 0))) := Lib.hid (t9.obj D10.out (by omega))
        have D119 : Hid (w9.heap[g11]? = some (.cells X.toArray 28 (0, 0))) := Lib.hid (t9.obj D11.out (by omega))
        have D149 : Hid (w9.heap[g14]? = some (.cells (u8s x).toArray 28 (0, 0))) := Lib.hid (t9.obj D14.out (by omega))
        have Cg169 : Hid (w9.heap[g16]? = some (.cells X.toArray 28 (0, 0))) := Lib.hid (t9.obj Cg16.out (by omega))
        have Cg159 := Lib.hid c9
        clear PB HP D7 D10 D11 D14 Cg16 Cg15
        have PB := Lib.hid PB9.out
        have HP := Lib.hid HP9.out
        have D7 := Lib.hid D79.out
        have D10 := Lib.hid D109.out
        have D11 := Lib.hid D119.out
        have D14 := Lib.hid D149.out
        have Cg16 := Lib.hid Cg169.out
        have Cg15 := Lib.hid Cg159.out
        clear PB9 HP9 D79 D109 D119 D149 Cg169 Cg159
        refine hK.out _ _ (range_of_row D7.out) ?_
        clear hK K t9 c9 s9
        try simp only [List.getElem_toArray, List.getElem_cons_succ, List.getElem_cons_zero, Act.put]
        refine wpAnyH_step (i := 20) (by kernel_rfl) rfl fun K hK => ?_
        refine step_store_blk rfl 28 _ _ rfl g16 _ (u8s B) _ rfl rfl Cg16.out (size28 hXl hB) (info28_l hB) (u8s_one _) ?_
        intro w9 c9 t9 s9
        have PB9 : Hid (Pure w4.drew w9) := Lib.hid (PB.out.trans t9 (fun q hq e => by omega))
        have HP9 : Hid (Hashs w9 (.slice (some ⟨b, o, none⟩) mm c) a) := Lib.hid (HP.out.turn t9 (fun hne q hq e => by have := HLT.out hne q hq; omega))
        have D79 : Hid (w9.heap[g7]? = some (.cells (u8s old).toArray 28 (0, 0))) := Lib.hid (t9.obj D7.out (by omega))
        have D109 : Hid (w9.heap[g10]? = some (.cells X.toArray 28 (0, 0))) := Lib.hid (t9.obj D10.out (by omega))
        have D119 : Hid (w9.heap[g11]? = some (.cells X.toArray 28 (0, 0))) := Lib.hid (t9.obj D11.out (by omega))
        have D149 : Hid (w9.heap[g14]? = some (.cells (u8s x).toArray 28 (0, 0))) := Lib.hid (t9.obj D14.out (by omega))
        have Cg159 : Hid (w9.heap[g15]? = some (.cells (u8s A).toArray 28 (0, 0))) := Lib.hid (t9.obj Cg15.out (by omega))
        have Cg169 := Lib.hid c9
        clear PB HP D7 D10 D11 D14 Cg15 Cg16
        have PB := Lib.hid PB9.out
        have HP := Lib.hid HP9.out
        have D7 := Lib.hid D79.out
        have D10 := Lib.hid D109.out
        have D11 := Lib.hid D119.out
        have D14 := Lib.hid D149.out
        have Cg15 := Lib.hid Cg159.out
        have Cg16 := Lib.hid Cg169.out
        clear PB9 HP9 D79 D109 D119 D149 Cg159 Cg169
        refine hK.out _ _ (range_of_row D7.out) ?_
        clear hK K t9 c9 s9
        try simp only [List.getElem_toArray, List.getElem_cons_succ, List.getElem_cons_zero, Act.put]
        refine wpAnyH_take (i := 21) (v := .bool OK) rfl (by kernel_rfl) (by kernel_rfl) (by kernel_rfl) (fun _ _ _ h => nomatch h.1) (Or.inl ⟨by rfl, fun w hSw => by go_simp⟩) (range_of_row D7.out) ?_
        simp only [List.getElem_toArray, List.getElem_cons_succ, List.getElem_cons_zero, Act.put, List.setIfInBounds_toArray, List.set_cons_zero, List.set_cons_succ]
        refine wpAnyH_done (by kernel_rfl) ?_ _
        exact ⟨rfl, g15, g16, rfl, PB.out, D10.out, D11.out, D14.out, Cg15.out, Cg16.out, Mg15, Mg16⟩
  · rintro g15 g16 w5 ⟨t5, d10, d11, d14, d15, d16, lg, lg'⟩
    have PT := Lib.hid (PT4.out.drew.pure t5)
    have Cg10 := Lib.hid d10; have Cg11 := Lib.hid d11; have D14 := Lib.hid d14; have D15 := Lib.hid d15; have D16 := Lib.hid d16
    have hWB : w.heap.size ≤ w4.drew.heap.size := PT4.out.drew.size
    have l14c : g14 < w4.drew.heap.size := l14b
    have s5 := t5.size
    clear t5 d10 d11 d14 d15 d16 D7b D10b D11b D14b PT4
    generalize w4.drew = w4d at *
    go_wp2_with fail
    refine wp_region_held_drew (S := fun w' => w'.rangeAt g15 0 (u8s A) ∧ w'.rangeAt g16 0 (u8s B) ∧ w'.rangeAt g14 0 (u8s x)) (by kernel_rfl) (show w5.drew.rangeAt g15 0 (u8s A) ∧ w5.drew.rangeAt g16 0 (u8s B) ∧ w5.drew.rangeAt g14 0 (u8s x) from ⟨range_of_row D15.out, range_of_row D16.out, range_of_row D14.out⟩) (fun _ => ?_)
    have PT9 : Hid (Pure w w5.drew) := Lib.hid PT.out.drew
    have D159 : Hid (w5.drew.heap[g15]? = some (.cells (u8s A).toArray 28 (0, 0))) := Lib.hid D15.out
    have D169 : Hid (w5.drew.heap[g16]? = some (.cells (u8s B).toArray 28 (0, 0))) := Lib.hid D16.out
    have D149 : Hid (w5.drew.heap[g14]? = some (.cells (u8s x).toArray 28 (0, 0))) := Lib.hid D14.out
    have Cg109 : Hid (w5.drew.heap[g10]? = some (.cells X.toArray 28 (0, 0))) := Lib.hid Cg10.out
    have Cg119 : Hid (w5.drew.heap[g11]? = some (.cells X.toArray 28 (0, 0))) := Lib.hid Cg11.out
    clear PT D15 D16 D14 Cg10 Cg11
    have PT := Lib.hid PT9.out
    have D15 := Lib.hid D159.out
    have D16 := Lib.hid D169.out
    have D14 := Lib.hid D149.out
    have Cg10 := Lib.hid Cg109.out
    have Cg11 := Lib.hid Cg119.out
    clear PT9 D159 D169 D149 Cg109 Cg119
    generalize w5.drew = wd at *
    refine wpAnyH_take (i := 0) (v := hv x) rfl (by kernel_rfl) (by kernel_rfl) (by kernel_rfl) (fun _ _ _ h => h) (yieldsIf_load_mid (by rfl) 28 _ rfl g14 0 rfl (u8s x) _ (fun w h => h.2.2) hu28 rfl (info28_l hx)) (And.intro (range_of_row D15.out) (And.intro (range_of_row D16.out) (range_of_row D14.out))) ?_
    simp only [List.getElem_toArray, List.getElem_cons_zero, Act.put, List.setIfInBounds_toArray, List.set_cons_zero, List.set_cons_succ]
    refine wpAnyH_take (i := 1) (v := hv A) rfl (by kernel_rfl) (by kernel_rfl) (by kernel_rfl) (fun _ _ _ h => h) (yieldsIf_load_mid (by rfl) 28 _ rfl g15 0 rfl (u8s A) _ (fun w h => h.1) hu28 rfl (info28_l hA)) (And.intro (range_of_row D15.out) (And.intro (range_of_row D16.out) (range_of_row D14.out))) ?_
    simp only [List.getElem_toArray, List.getElem_cons_succ, List.getElem_cons_zero, Act.put, List.setIfInBounds_toArray, List.set_cons_zero, List.set_cons_succ]
    refine wpAnyH_take (i := 3) (v := hv x) rfl (by kernel_rfl) (by kernel_rfl) (by kernel_rfl) (fun _ _ _ h => h) (yieldsIf_load_mid (by rfl) 28 _ rfl g14 0 rfl (u8s x) _ (fun w h => h.2.2) hu28 rfl (info28_l hx)) (And.intro (range_of_row D15.out) (And.intro (range_of_row D16.out) (range_of_row D14.out))) ?_
    simp only [List.getElem_toArray, List.getElem_cons_succ, List.getElem_cons_zero, Act.put, List.setIfInBounds_toArray, List.set_cons_zero, List.set_cons_succ]
    refine wpAnyH_take (i := 4) (v := hv B) rfl (by kernel_rfl) (by kernel_rfl) (by kernel_rfl) (fun _ _ _ h => h) (yieldsIf_load_mid (by rfl) 28 _ rfl g16 0 rfl (u8s B) _ (fun w h => h.2.1) hu28 rfl (info28_l hB)) (And.intro (range_of_row D15.out) (And.intro (range_of_row D16.out) (range_of_row D14.out))) ?_
    simp only [List.getElem_toArray, List.getElem_cons_succ, List.getElem_cons_zero, Act.put, List.setIfInBounds_toArray, List.set_cons_zero, List.set_cons_succ]
    refine wpAnyH_take (i := 6) (v := .bool OK) rfl (by kernel_rfl) (by kernel_rfl) (by kernel_rfl) (fun _ _ _ h => h) (Or.inl ⟨by rfl, fun w hSw => by go_simp⟩) (And.intro (range_of_row D15.out) (And.intro (range_of_row D16.out) (range_of_row D14.out))) ?_
    simp only [List.getElem_toArray, List.getElem_cons_succ, List.getElem_cons_zero, Act.put, List.setIfInBounds_toArray, List.set_cons_zero, List.set_cons_succ]
    refine wpAnyH_step (i := 2) (by kernel_rfl) rfl fun K hK => ?_
    go_simp
    refine (over_any _ x A hx hA).mono ?_
    rintro e w9 ⟨rfl, t9⟩
    have PT9 : Hid (Pure w w9) := Lib.hid (PT.out.pure t9)
    have D159 : Hid (w9.heap[g15]? = some (.cells (u8s A).toArray 28 (0, 0))) := Lib.hid (t9.obj D15.out (fun e => e))
    have D169 : Hid (w9.heap[g16]? = some (.cells (u8s B).toArray 28 (0, 0))) := Lib.hid (t9.obj D16.out (fun e => e))
    have D149 : Hid (w9.heap[g14]? = some (.cells (u8s x).toArray 28 (0, 0))) := Lib.hid (t9.obj D14.out (fun e => e))
    have Cg109 : Hid (w9.heap[g10]? = some (.cells X.toArray 28 (0, 0))) := Lib.hid (t9.obj Cg10.out (fun e => e))
    have Cg119 : Hid (w9.heap[g11]? = some (.cells X.toArray 28 (0, 0))) := Lib.hid (t9.obj Cg11.out (fun e => e))
    clear PT D15 D16 D14 Cg10 Cg11
    have PT := Lib.hid PT9.out
    have D15 := Lib.hid D159.out
    have D16 := Lib.hid D169.out
    have D14 := Lib.hid D149.out
    have Cg10 := Lib.hid Cg109.out
    have Cg11 := Lib.hid Cg119.out
    clear PT9 D159 D169 D149 Cg109 Cg119
    refine hK.out _ _ (And.intro (range_of_row D15.out) (And.intro (range_of_row D16.out) (range_of_row D14.out))) ?_
    clear hK K t9
    try simp only [List.getElem_toArray, List.getElem_cons_succ, List.getElem_cons_zero, Act.put, List.setIfInBounds_toArray, List.set_cons_zero, List.set_cons_succ]
    refine wpAnyH_step (i := 5) (by kernel_rfl) rfl fun K hK => ?_
    go_simp
    refine (over_any _ x B hx hB).mono ?_
    rintro e w9 ⟨rfl, t9⟩
    have PT9 : Hid (Pure w w9) := Lib.hid (PT.out.pure t9)
    have D159 : Hid (w9.heap[g15]? = some (.cells (u8s A).toArray 28 (0, 0))) := Lib.hid (t9.obj D15.out (fun e => e))
    have D169 : Hid (w9.heap[g16]? = some (.cells (u8s B).toArray 28 (0, 0))) := Lib.hid (t9.obj D16.out (fun e => e))
    have D149 : Hid (w9.heap[g14]? = some (.cells (u8s x).toArray 28 (0, 0))) := Lib.hid (t9.obj D14.out (fun e => e))
    have Cg109 : Hid (w9.heap[g10]? = some (.cells X.toArray 28 (0, 0))) := Lib.hid (t9.obj Cg10.out (fun e => e))
    have Cg119 : Hid (w9.heap[g11]? = some (.cells X.toArray 28 (0, 0))) := Lib.hid (t9.obj Cg11.out (fun e => e))
    clear PT D15 D16 D14 Cg10 Cg11
    have PT := Lib.hid PT9.out
    have D15 := Lib.hid D159.out
    have D16 := Lib.hid D169.out
    have D14 := Lib.hid D149.out
    have Cg10 := Lib.hid Cg109.out
    have Cg11 := Lib.hid Cg119.out
    clear PT9 D159 D169 D149 Cg109 Cg119
    refine hK.out _ _ (And.intro (range_of_row D15.out) (And.intro (range_of_row D16.out) (range_of_row D14.out))) ?_
    clear hK K t9
    try simp only [List.getElem_toArray, List.getElem_cons_succ, List.getElem_cons_zero, Act.put, List.setIfInBounds_toArray, List.set_cons_zero, List.set_cons_succ]
    refine wpAnyH_step (i := 7) (by kernel_rfl) rfl fun K hK => ?_
    refine step_store_blk rfl 28 _ _ rfl g10 _ (u8s (joinV x A)) _ rfl rfl Cg10.out (size28 hXl (joinV_length _ _)) (info28_l (joinV_length _ _)) (u8s_one _) ?_
    intro w9 c9 t9 s9
    have PT9 : Hid (Pure w w9) := Lib.hid (PT.out.trans t9 (fun q hq e => by omega))
    have D159 : Hid (w9.heap[g15]? = some (.cells (u8s A).toArray 28 (0, 0))) := Lib.hid (t9.obj D15.out (by omega))
    have D169 : Hid (w9.heap[g16]? = some (.cells (u8s B).toArray 28 (0, 0))) := Lib.hid (t9.obj D16.out (by omega))
    have D149 : Hid (w9.heap[g14]? = some (.cells (u8s x).toArray 28 (0, 0))) := Lib.hid (t9.obj D14.out (by omega))
    have Cg119 : Hid (w9.heap[g11]? = some (.cells X.toArray 28 (0, 0))) := Lib.hid (t9.obj Cg11.out (by omega))
    have Cg109 := Lib.hid c9
    clear PT D15 D16 D14 Cg11 Cg10
    have PT := Lib.hid PT9.out
    have D15 := Lib.hid D159.out
    have D16 := Lib.hid D169.out
    have D14 := Lib.hid D149.out
    have Cg11 := Lib.hid Cg119.out
    have Cg10 := Lib.hid Cg109.out
    clear PT9 D159 D169 D149 Cg119 Cg109
    refine hK.out _ _ (And.intro (range_of_row D15.out) (And.intro (range_of_row D16.out) (range_of_row D14.out))) ?_
    clear hK K t9 c9 s9
    try simp only [List.getElem_toArray, List.getElem_cons_succ, List.getElem_cons_zero, Act.put]
    refine wpAnyH_step (i := 8) (by kernel_rfl) rfl fun K hK => ?_
    refine step_store_blk rfl 28 _ _ rfl g11 _ (u8s (joinV x B)) _ rfl rfl Cg11.out (size28 hXl (joinV_length _ _)) (info28_l (joinV_length _ _)) (u8s_one _) ?_
    intro w9 c9 t9 s9
    have PT9 : Hid (Pure w w9) := Lib.hid (PT.out.trans t9 (fun q hq e => by omega))
    have D159 : Hid (w9.heap[g15]? = some (.cells (u8s A).toArray 28 (0, 0))) := Lib.hid (t9.obj D15.out (by omega))
    have D169 : Hid (w9.heap[g16]? = some (.cells (u8s B).toArray 28 (0, 0))) := Lib.hid (t9.obj D16.out (by omega))
    have D149 : Hid (w9.heap[g14]? = some (.cells (u8s x).toArray 28 (0, 0))) := Lib.hid (t9.obj D14.out (by omega))
    have Cg109 : Hid (w9.heap[g10]? = some (.cells (u8s (joinV x A)).toArray 28 (0, 0))) := Lib.hid (t9.obj Cg10.out (by omega))
    have Cg119 := Lib.hid c9
    clear PT D15 D16 D14 Cg10 Cg11
    have PT := Lib.hid PT9.out
    have D15 := Lib.hid D159.out
    have D16 := Lib.hid D169.out
    have D14 := Lib.hid D149.out
    have Cg10 := Lib.hid Cg109.out
    have Cg11 := Lib.hid Cg119.out
    clear PT9 D159 D169 D149 Cg109 Cg119
    refine hK.out _ _ (And.intro (range_of_row D15.out) (And.intro (range_of_row D16.out) (range_of_row D14.out))) ?_
    clear hK K t9 c9 s9
    try simp only [List.getElem_toArray, List.getElem_cons_succ, List.getElem_cons_zero, Act.put]
    refine wpAnyH_take (i := 9) (v := .bool OK) rfl (by kernel_rfl) (by kernel_rfl) (by kernel_rfl) (fun _ _ _ h => h) (Or.inl ⟨by rfl, fun w hSw => by go_simp⟩) (And.intro (range_of_row D15.out) (And.intro (range_of_row D16.out) (range_of_row D14.out))) ?_
    simp only [List.getElem_toArray, List.getElem_cons_succ, List.getElem_cons_zero, Act.put, List.setIfInBounds_toArray, List.set_cons_zero, List.set_cons_succ]
    refine wpAnyH_done (by kernel_rfl) ?_ _
    go_wp2
    exact bodyPost_ret (v := .tuple #[hv (joinV x A), hv (joinV x B), .bool OK]) (results_cct Try.results56 _ _ g10 g11 (u8s (joinV x A)).toArray (u8s (joinV x B)).toArray _ rfl rfl Cg10.out Cg11.out hu28 rfl (info28_a (joinV_length _ _)) (info28_a (joinV_length _ _))) rfl ⟨rfl, PT.out⟩

/-- The reference's rise. -/
theorem rise_any : ∀ (size : Nat), 1 ≤ size → size ≤ 4611686018427387904 → ∀ (p : List (List UInt8)) (w : World) (v : Value) (m : Nat) (old : List UInt8) (whole : Bool), 1 ≤ m → m ≤ size → Hashs w v p → old.length = 32 → p.length ≤ 4398046510976 →
    Calls Try.prog 56 #[.int .i64 (m : Int), .int .i64 (size : Int), hv old, .bool whole, v] w fun e w' => e = .returned (.tuple #[hv (riseV m size old whole p).1, hv (riseV m size old whole p).2.1, .bool (riseV m size old whole p).2.2]) ∧ Pure w w' := by
  intro size
  induction size using Nat.strongRecOn with
  | _ size ih =>
    intro h1 hsz p w v m old whole hm1 hms hp ho hlen
    by_cases he : m = size
    · subst he
      cases whole with
      | true => rw [riseV_whole]; exact rise_whole w v p old m hp ho
      | false =>
        by_cases h1 : p.length = 1
        · obtain ⟨x, rfl⟩ := List.length_eq_one_iff.1 h1
          rw [riseV_one]
          exact rise_one w v x old m hp
        · rw [riseV_many m old p h1]
          exact rise_many w v p old m hp h1 ho
    · have h2 : 2 ≤ size := by omega
      have hk1 := belowV_lt h2
      have hk0 := belowV_pos size
      have hx : ∀ x ∈ p, x.length = 32 := by obtain ⟨_, _, _, _, _, h4⟩ := hp; exact h4
      rcases List.eq_nil_or_concat p with rfl | ⟨a, x, rfl⟩
      · rw [riseV_nil old whole h2 he]
        exact rise_nil w v old m size whole he hp ho
      · have hal : a.length ≤ 4398046510976 := by simp at hlen; omega
        have hp' := hp
        obtain ⟨ao, c, rfl, _, _, _⟩ := hp'
        rw [List.concat_eq_append] at hp hx ⊢
        have hxa : ∀ y ∈ a, y.length = 32 := fun y hy => hx y (by simp [hy])
        by_cases hi : m ≤ belowV size
        · obtain ⟨a1, a2⟩ := riseV_ok (belowV size) m old whole a ho hxa
          rw [riseV_left old whole a x h2 he hi]
          exact rise_left w ao _ c a x old m (belowV size) size whole h2 hsz he rfl hi hp hal ho _ _ _ a1 a2 fun W V hW => ih (belowV size) hk1 hk0 (by omega) a W V m old whole hm1 hi hW ho hal
        · obtain ⟨a1, a2⟩ := riseV_ok (size - belowV size) (m - belowV size) old false a ho hxa
          rw [riseV_right old whole a x h2 he hi]
          exact rise_right w ao _ c a x old m (belowV size) size whole h2 hsz he rfl hi hms hp hal ho _ _ _ a1 a2 fun W V hW => ih (size - belowV size) (by omega) (by omega) (by omega) a W V (m - belowV size) old false (by omega) (by omega) hW ho hal
end Go.Proofs.Ytjbigghjbcjelaa
