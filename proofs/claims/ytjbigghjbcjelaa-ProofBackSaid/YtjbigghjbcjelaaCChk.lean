/- Chapter 10: is a smaller log the beginning? (CheckConsistency, program and reference) -/
import Derived.Test.YtjbigghjbcjelaaRise
namespace Go.Proofs.Ytjbigghjbcjelaa
open Go.RowKit

/-- Both ways: as many hashes as there must be. -/
theorem rise_both : ∀ (size : Nat), 1 ≤ size → ∀ (m : Nat) (old : List UInt8) (known : Bool), 1 ≤ m → m ≤ size → ∃ d, (∀ a b, a.length = d → bothV m size old known (a ++ b) false = ((riseV m size old known a).1, (riseV m size old known a).2.1, b, false)) ∧ (∀ a, a.length < d → (bothV m size old known a false).2.2.2 = true) ∧ (∀ a, (riseV m size old known a).2.2 = decide (a.length = d)) := by
  intro size
  induction size using Nat.strongRecOn with
  | _ size ih =>
    intro h1 m old known hm1 hms
    by_cases he : m = size
    · subst he
      cases known with
      | true =>
        refine ⟨0, fun a b hl => ?_, fun a hl => by omega, fun a => ?_⟩
        · obtain rfl := List.eq_nil_of_length_eq_zero hl
          rw [bothV_known, riseV_whole]; rfl
        · rw [riseV_whole]; cases a <;> simp
      | false =>
        refine ⟨1, fun a b hl => ?_, fun a hl => ?_, fun a => ?_⟩
        · obtain ⟨x, rfl⟩ := List.length_eq_one_iff.1 hl
          rw [bothV_new, riseV_one, List.singleton_append, nextV_cons]
        · obtain rfl := List.eq_nil_of_length_eq_zero (by omega : a.length = 0)
          rw [bothV_new]; exact nextV_none
        · by_cases hl : a.length = 1
          · obtain ⟨x, rfl⟩ := List.length_eq_one_iff.1 hl
            rw [riseV_one]; rfl
          · rw [riseV_many m old a hl]; simp [hl]
    · have h2 : 2 ≤ size := by omega
      have hk1 := belowV_lt h2
      have hk0 := belowV_pos size
      by_cases hi : m ≤ belowV size
      · obtain ⟨d, a1, a2, a3⟩ := ih (belowV size) hk1 hk0 m old known hm1 hi
        refine ⟨d + 1, fun a b hl => ?_, fun a hl => ?_, fun a => ?_⟩
        · rcases List.eq_nil_or_concat a with rfl | ⟨a, x, rfl⟩
          · simp at hl
          · rw [List.concat_eq_append] at hl ⊢
            rw [bothV_left _ _ _ _ h2 he hi, riseV_left _ _ a x h2 he hi, List.append_assoc, a1 a _ (by simpa using hl)]
            simp only [List.singleton_append, nextV_cons]
        · rw [bothV_left _ _ _ _ h2 he hi]
          by_cases hd : a.length = d
          · have := a1 a [] hd
            rw [List.append_nil] at this
            rw [this]
            exact nextV_none
          · show (nextV _ (bothV m (belowV size) old known a false).2.2.2).2.2 = true
            rw [a2 a (by omega)]
            exact nextV_short _
        · rcases List.eq_nil_or_concat a with rfl | ⟨a, x, rfl⟩
          · rw [riseV_nil old known h2 he]; simp
          · rw [List.concat_eq_append, riseV_left _ _ a x h2 he hi, a3 a]; simp
      · obtain ⟨d, a1, a2, a3⟩ := ih (size - belowV size) (by omega) (by omega) (m - belowV size) old false (by omega) (by omega)
        refine ⟨d + 1, fun a b hl => ?_, fun a hl => ?_, fun a => ?_⟩
        · rcases List.eq_nil_or_concat a with rfl | ⟨a, x, rfl⟩
          · simp at hl
          · rw [List.concat_eq_append] at hl ⊢
            rw [bothV_right _ _ _ _ h2 he hi, riseV_right _ _ a x h2 he hi, List.append_assoc, a1 a _ (by simpa using hl)]
            simp only [List.singleton_append, nextV_cons]
        · rw [bothV_right _ _ _ _ h2 he hi]
          by_cases hd : a.length = d
          · have := a1 a [] hd
            rw [List.append_nil] at this
            rw [this]
            exact nextV_none
          · show (nextV _ (bothV (m - belowV size) (size - belowV size) old false a false).2.2.2).2.2 = true
            rw [a2 a (by omega)]
            exact nextV_short _
        · rcases List.eq_nil_or_concat a with rfl | ⟨a, x, rfl⟩
          · rw [riseV_nil old known h2 he]; simp
          · rw [List.concat_eq_append, riseV_right _ _ a x h2 he hi, a3 a]; simp
/-- What both answer where the numbers may be. -/
def cchkV (m : Nat) (old : List UInt8) (size : Nat) (root : List UInt8) (p : List (List UInt8)) : Int :=
  if (riseV m size old true p).2.2 = true ∧ ((riseV m size old true p).1 == old) = true ∧ ((riseV m size old true p).2.1 == root) = true then 0 else 1001
theorem cchkV_eq (m : Nat) (old : List UInt8) (size : Nat) (root : List UInt8) (p : List (List UInt8)) : cchkV m old size root p =
  if (riseV m size old true p).2.2 = true ∧ ((riseV m size old true p).1 == old) = true ∧ ((riseV m size old true p).2.1 == root) = true then 0 else 1001 := rfl
theorem cchkV_both (m : Nat) (old : List UInt8) (size : Nat) (root : List UInt8) (p : List (List UInt8)) (h1 : 1 ≤ size) (hm1 : 1 ≤ m) (hms : m ≤ size) :
    cchkV m old size root p = if ((bothV m size old true p false).1 == old) = true ∧ ((bothV m size old true p false).2.1 == root) = true ∧ (!(bothV m size old true p false).2.2.2 && (bothV m size old true p false).2.2.1.isEmpty) = true then 0 else 1001 := by
  obtain ⟨d, a1, a2, a3⟩ := rise_both size h1 m old true hm1 hms
  rw [cchkV, a3 p]
  by_cases hd : p.length = d
  · have := a1 p [] hd
    rw [List.append_nil] at this
    rw [this]
    simp [hd]
  · rw [if_neg (c := decide (p.length = d) = true ∧ _) (by simp [hd]), if_neg]
    rintro ⟨_, _, h⟩
    by_cases hl : p.length < d
    · rw [a2 p hl] at h; simp at h
    · have := a1 (p.take d) (p.drop d) (by simp; omega)
      rw [List.take_append_drop] at this
      rw [this] at h
      simp at h
      omega
/-- The same, of the nodes that both share. -/
theorem rise_sub : ∀ (n : Nat) (ls : List (List UInt8)) (m : Nat) (known : Bool) (old : List UInt8), ls.length = n → 1 ≤ m → m ≤ n → (known = true → old = rootV (ls.take m)) → riseV m n old known (subV ls m known) = (rootV (ls.take m), rootV ls, true) := by
  intro n
  induction n using Nat.strongRecOn with
  | _ n ih =>
    intro ls m known old hn hm1 hmn hold
    by_cases he : m = n
    · subst he
      have ht : ls.take m = ls := by rw [← hn]; exact List.take_length
      rw [subV_eq ls m known (by omega)]
      cases known with
      | true => rw [if_pos rfl, riseV_whole, hold rfl, ht]; rfl
      | false => rw [if_neg (by decide), riseV_one, ht]
    · have h2 : 2 ≤ n := by omega
      have hk1 := belowV_lt h2
      have hk0 := belowV_pos n
      have hr := rootV_more (ls := ls) (by omega)
      rw [hn] at hr
      by_cases hi : m ≤ belowV n
      · have hp := subV_left (ls := ls) (m := m) known (by omega) (by omega) (by rw [hn]; exact hi)
        rw [hn] at hp
        have htt : (ls.take (belowV n)).take m = ls.take m := by rw [List.take_take, Nat.min_eq_left hi]
        rw [hp, riseV_left _ _ _ _ h2 he hi, ih (belowV n) hk1 (ls.take (belowV n)) m known old (by simp; omega) hm1 hi (by rw [htt]; exact hold), hr, htt]
      · have hp := subV_right (ls := ls) (m := m) known (by omega) (by omega) (by rw [hn]; exact hi)
        rw [hn] at hp
        have hq : rootV (ls.take m) = joinV (rootV (ls.take (belowV n))) (rootV ((ls.drop (belowV n)).take (m - belowV n))) := by
          have h2m : 2 ≤ m := by omega
          have hb : belowV m = belowV n := by
            have hge := belowV_ge h2
            exact (belowV_unique (n := m) (j := (n - 1).log2) (by have := hi; simp only [belowV] at this; omega) (by have := hge; simp only [belowV] at this; omega)).symm
          have hr' := rootV_more (ls := ls.take m) (by simp; omega)
          have hlm : (ls.take m).length = m := by simp; omega
          rw [hlm, hb, List.take_take, Nat.min_eq_left (by omega)] at hr'
          rw [hr', List.drop_take]
        rw [hp, riseV_right _ _ _ _ h2 he hi, ih (n - belowV n) (by omega) (ls.drop (belowV n)) (m - belowV n) false old (by simp; omega) (by omega) (by omega) (fun h => by simp at h), hr, hq]

set_option maxHeartbeats 1000000 in
theorem RCheckConsistency_ok (w : World) (m : Nat) (old : List UInt8) (size : Nat) (root : List UInt8) (v : Value) (p : List (List UInt8)) (h1 : 1 ≤ size) (h2 : size ≤ 256) (hm1 : 1 ≤ m) (hms : m ≤ size) (hp : Hashs w v p) (hpl : p.length ≤ 4398046510976) (ho : old.length = 32) (hr : root.length = 32) :
    Calls Try.prog 37 #[.int .i64 (m : Int), hv old, .int .i64 (size : Int), hv root, v] w fun e w' => e = .returned (.int .i64 (cchkV m old size root p)) ∧ Pure w w' := by
  obtain ⟨X, hXl, HZ⟩ := ex28
  have HP := Lib.hid hp
  have b1 : decide ((size : Int) < 1) = false := decide_eq_false (by omega)
  have b2 : decide ((256 : Int) < size) = false := decide_eq_false (by omega)
  have b3 : decide ((m : Int) < 1) = false := decide_eq_false (by omega)
  have b4 : decide ((size : Int) < m) = false := decide_eq_false (by omega)
  have b1n : decide (size < 1) = false := decide_eq_false (by omega)
  have b2n : decide (256 < size) = false := decide_eq_false (by omega)
  have b3n : decide (m < 1) = false := decide_eq_false (by omega)
  have b4n : decide (size < m) = false := decide_eq_false (by omega)
  have b1z : decide (size = 0) = false := decide_eq_false (by omega)
  have b3z : decide (m = 0) = false := decide_eq_false (by omega)
  have hu28 := Try.underlying28
  have hx : ∀ x ∈ p, x.length = 32 := by obtain ⟨_, _, _, _, _, h4⟩ := hp; exact h4
  have hR := riseV_ok size m old true p ho hx
  have HCL : Hid (∀ W, Hashs W v p → _) := Lib.hid fun W hW => rise_any size h1 (by omega) p W v m old true hm1 hms hW ho hpl
  have hC := cchkV_eq m old size root p
  obtain ⟨r, hrr⟩ : ∃ r, r = riseV m size old true p := ⟨_, rfl⟩
  rw [← hrr] at HCL hR hC
  have HC := Lib.hid hC; clear hC hrr hp hx
  obtain ⟨A, B, OK⟩ := r
  dsimp only at HCL hR HC
  obtain ⟨hA, hB⟩ := hR
  go_enter Try.func37, Try.ntmps37
  go_wp2_with (refine wpList_boxV rfl 28 _ rfl (u8s old) rfl ?_)
  intro g6 w1 e1 c1 t1 s1
  have l6 : w.heap.size ≤ g6 := by omega
  clear e1
  go_wp2_with (refine wpList_boxV rfl 28 _ rfl (u8s root) rfl ?_)
  intro g8 w2 e2 c2 t2 s2
  have l8 : g6 < g8 := by omega
  clear e2
  have D6 := Lib.hid (t2.obj c1 (fun e => e)); have D8 := Lib.hid c2; have PT := Lib.hid (t1.pure t2)
  clear c1 t1 s1 c2 t2
  go_wp2_with (refine wpList_load_row rfl 28 _ rfl g6 rfl _ (u8s old).toArray _ _ D6.out hu28 rfl (info28_a ho) ?_)
  refine (HCL.out _ (HP.out.pure PT.out)).mono ?_
  rintro e w3 ⟨rfl, t3⟩
  have E6 := Lib.hid (t3.obj D6.out (fun e => e)); have E8 := Lib.hid (t3.obj D8.out (fun e => e)); have P3 := Lib.hid (PT.out.pure t3)
  have s3 : g8 < w3.heap.size := by have := t3.size; omega
  clear t3 D6 D8 PT s2
  go_wp2_with (refine wpList_allocZ rfl 28 rfl X HZ.out ?_)
  intro ga w5 e5 c5 t5 s5
  have la : g8 < ga := by omega
  clear e5
  go_wp2_with (refine wpList_allocZ rfl 28 rfl X HZ.out ?_)
  intro gb w6 e6 c6 t6 s6
  have lb : ga < gb := by omega
  clear e6
  go_wp2_with (refine wpList_store_blk rfl 28 _ _ rfl ga _ (u8s A) _ rfl rfl (t6.obj c5 (fun e => e)) (size28 hXl hA) (info28_l hA) (u8s_one _) ?_)
  intro w7 c7 t7 s7
  go_wp2_with (refine wpList_store_blk rfl 28 _ _ rfl gb _ (u8s B) _ rfl rfl (t7.obj c6 (by omega)) (size28 hXl hB) (info28_l hB) (u8s_one _) ?_)
  intro w8 c8 t8 s8
  have DA := Lib.hid (range_of_row (t8.obj c7 (by omega))); have DB := Lib.hid (range_of_row c8)
  have F6 := Lib.hid (range_of_row (t8.obj (t7.obj (t6.obj (t5.obj E6.out (fun e => e)) (fun e => e)) (by omega)) (by omega)))
  have F8 := Lib.hid (range_of_row (t8.obj (t7.obj (t6.obj (t5.obj E8.out (fun e => e)) (fun e => e)) (by omega)) (by omega)))
  have P8 := Lib.hid ((((P3.out.pure t5).pure t6).trans t7 fun q hq e => by omega).trans t8 fun q hq e => by omega : Pure w w8)
  clear c5 t5 s5 c6 t6 s6 c7 t7 s7 c8 t8 s8 E6 E8 P3
  cases OK with
  | false =>
    go_wp2
    go_ret
    exact ⟨by rw [HC.out]; rfl, P8.out⟩
  | true =>
    cases hBA : (A == old) with
    | false =>
      have nq1 : ∀ V : World, (binOp .neq 28 (hv A) (hv old)).run Try.prog V = .ok (.bool true) V := fun V => by rw [neq28 V hA ho, hBA]; rfl
      have HBA := Lib.hid hBA; clear hBA
      go_wp2_with (first | (refine wpList_load_mid_w (by rfl) 28 _ rfl ga 0 rfl (u8s A) _ DA.out hu28 rfl (info28_l hA) ?_) | (refine wpList_load_mid_w (by rfl) 28 _ rfl gb 0 rfl (u8s B) _ DB.out hu28 rfl (info28_l hB) ?_) | (refine wpList_load_mid_w (by rfl) 28 _ rfl g6 0 rfl (u8s old) _ F6.out hu28 rfl (info28_l ho) ?_) | (refine wpList_load_mid_w (by rfl) 28 _ rfl g8 0 rfl (u8s root) _ F8.out hu28 rfl (info28_l hr) ?_))
      go_ret
      exact ⟨by rw [HC.out, HBA.out]; rfl, P8.out⟩
    | true =>
      have nq1 : ∀ V : World, (binOp .neq 28 (hv A) (hv old)).run Try.prog V = .ok (.bool false) V := fun V => by rw [neq28 V hA ho, hBA]; rfl
      have HBA := Lib.hid hBA; clear hBA
      cases hBB : (B == root) with
      | false =>
        have nq2 : ∀ V : World, (binOp .neq 28 (hv B) (hv root)).run Try.prog V = .ok (.bool true) V := fun V => by rw [neq28 V hB hr, hBB]; rfl
        have HBB := Lib.hid hBB; clear hBB
        go_wp2_with (first | (refine wpList_load_mid_w (by rfl) 28 _ rfl ga 0 rfl (u8s A) _ DA.out hu28 rfl (info28_l hA) ?_) | (refine wpList_load_mid_w (by rfl) 28 _ rfl gb 0 rfl (u8s B) _ DB.out hu28 rfl (info28_l hB) ?_) | (refine wpList_load_mid_w (by rfl) 28 _ rfl g6 0 rfl (u8s old) _ F6.out hu28 rfl (info28_l ho) ?_) | (refine wpList_load_mid_w (by rfl) 28 _ rfl g8 0 rfl (u8s root) _ F8.out hu28 rfl (info28_l hr) ?_))
        go_ret
        exact ⟨by rw [HC.out, HBA.out, HBB.out]; rfl, P8.out⟩
      | true =>
        have nq2 : ∀ V : World, (binOp .neq 28 (hv B) (hv root)).run Try.prog V = .ok (.bool false) V := fun V => by rw [neq28 V hB hr, hBB]; rfl
        have HBB := Lib.hid hBB; clear hBB
        go_wp2_with (first | (refine wpList_load_mid_w (by rfl) 28 _ rfl ga 0 rfl (u8s A) _ DA.out hu28 rfl (info28_l hA) ?_) | (refine wpList_load_mid_w (by rfl) 28 _ rfl gb 0 rfl (u8s B) _ DB.out hu28 rfl (info28_l hB) ?_) | (refine wpList_load_mid_w (by rfl) 28 _ rfl g6 0 rfl (u8s old) _ F6.out hu28 rfl (info28_l ho) ?_) | (refine wpList_load_mid_w (by rfl) 28 _ rfl g8 0 rfl (u8s root) _ F8.out hu28 rfl (info28_l hr) ?_))
        go_ret
        exact ⟨by rw [HC.out, HBA.out, HBB.out]; rfl, P8.out⟩

set_option maxHeartbeats 1000000 in
theorem CheckConsistency_ok (w : World) (m : Nat) (old : List UInt8) (size : Nat) (root : List UInt8) (v : Value) (p : List (List UInt8)) (h1 : 1 ≤ size) (h2 : size ≤ 256) (hm1 : 1 ≤ m) (hms : m ≤ size) (hp : Hashs w v p) (hpl : p.length ≤ 4398046510976) (ho : old.length = 32) (hr : root.length = 32) :
    Calls Try.prog 36 #[.int .i64 (m : Int), hv old, .int .i64 (size : Int), hv root, v] w fun e w' => e = .returned (.int .i64 (cchkV m old size root p)) ∧ Pure w w' := by
  obtain ⟨X, hXl, HZ⟩ := ex28
  have HP := Lib.hid hp
  have b1 : decide ((size : Int) < 1) = false := decide_eq_false (by omega)
  have b2 : decide ((256 : Int) < size) = false := decide_eq_false (by omega)
  have b3 : decide ((m : Int) < 1) = false := decide_eq_false (by omega)
  have b4 : decide ((size : Int) < m) = false := decide_eq_false (by omega)
  have b1n : decide (size < 1) = false := decide_eq_false (by omega)
  have b2n : decide (256 < size) = false := decide_eq_false (by omega)
  have b3n : decide (m < 1) = false := decide_eq_false (by omega)
  have b4n : decide (size < m) = false := decide_eq_false (by omega)
  have b1z : decide (size = 0) = false := decide_eq_false (by omega)
  have b3z : decide (m = 0) = false := decide_eq_false (by omega)
  have hu28 := Try.underlying28
  have hx : ∀ x ∈ p, x.length = 32 := by obtain ⟨_, _, _, _, _, h4⟩ := hp; exact h4
  have hR := bothV_ok size m old true p false ho hx
  have HCL : Hid (∀ W N g V, N ≤ W.heap.size → WalkN N W g V p false → _) := Lib.hid fun W N g V hN hW => both_any size h1 (by omega) m W N g V p false old true hm1 hms hN hW ho
  have hC := cchkV_both m old size root p h1 hm1 hms
  obtain ⟨r, hrr⟩ : ∃ r, r = bothV m size old true p false := ⟨_, rfl⟩
  rw [← hrr] at HCL hR hC
  have HC := Lib.hid hC; clear hC hrr hp hx
  obtain ⟨A, B, HS, SH⟩ := r
  dsimp only at HCL hR HC
  obtain ⟨hA, hB, _⟩ := hR
  obtain ⟨ao, c, rfl, hcap, _, _⟩ := HP.out
  obtain ⟨n, hn⟩ : ∃ n, n = p.length := ⟨_, rfl⟩
  rw [← hn] at HP
  have hpl' : p.length ≤ 4398046510976 := hpl
  have HPL := Lib.hid hpl'; clear hpl' hcap
  rw [← hn] at hpl ⊢
  clear hn
  go_enter Try.func36, Try.ntmps36
  go_wp2_with (refine wpList_boxV rfl 28 _ rfl (u8s old) rfl ?_)
  intro g6 w1 e1 c1 t1 s1
  have l6 : w.heap.size ≤ g6 := by omega
  clear e1
  go_wp2_with (refine wpList_boxV rfl 28 _ rfl (u8s root) rfl ?_)
  intro g8 w2 e2 c2 t2 s2
  have l8 : g6 < g8 := by omega
  clear e2
  have D6 := Lib.hid (t2.obj c1 (fun e => e)); have D8 := Lib.hid c2; have PT := Lib.hid (t1.pure t2)
  clear c1 t1 s1 c2 t2
  go_upto_region 4 with fail
  have hat : (w2.alloc (.cells #[.slice ao n c, .bool false] 74)).heap[g8 + 1]? = some (.cells #[.slice ao n c, .bool false] 74 (0, 0)) := by
    have := heap_alloc_new w2 (.cells #[.slice ao n c, .bool false] 74)
    rwa [s2] at this
  have ta : Pure w2 (w2.alloc (.cells #[.slice ao n c, .bool false] 74)) := (Turn.refl _ _).alloc _
  have hlow : p ≠ [] → ∀ q, (Value.slice ao n c).ownBlock = some q → q < w.heap.size := fun hne => HP.out.lt hne
  have HW2 : Hid (WalkN (g8 + 2) (w2.alloc (.cells #[.slice ao n c, .bool false] 74)) (g8 + 1) (.slice ao n c) p false) := Lib.hid ⟨⟨hat, (HP.out.turn PT.out (fun _ _ _ e => e)).turn ta (fun _ _ _ e => e), fun hne e => by have := hlow hne _ e; omega⟩, by omega, fun hne q hq => by have := hlow hne q hq; omega, HPL.out⟩
  have D6b := Lib.hid (ta.obj D6.out (fun e => e)); have D8b := Lib.hid (ta.obj D8.out (fun e => e)); have P2 := Lib.hid (PT.out.pure ta)
  have sN : (w2.alloc (.cells #[.slice ao n c, .bool false] 74)).heap.size = g8 + 2 := by simp [s2]
  clear hat ta D6 D8 PT hlow
  generalize w2.alloc (.cells #[.slice ao n c, .bool false] 74) = w2' at *
  obtain ⟨g, hg⟩ : ∃ g, g = g8 + 1 := ⟨_, rfl⟩
  obtain ⟨N, hN⟩ : ∃ N, N = g8 + 2 := ⟨_, rfl⟩
  rw [← hN] at HW2
  rw [← hg] at HW2 ⊢
  have lg : g8 < g := by omega
  have lN : N ≤ w2'.heap.size := by omega
  have lgN : g < N := by omega
  clear s2 hg hN sN
  go_wp2_with (refine wpList_load_row rfl 28 _ rfl g6 rfl _ (u8s old).toArray _ _ D6b.out hu28 rfl (info28_a ho) ?_)
  refine (HCL.out _ N g _ lN HW2.out).mono ?_
  rintro e w3 ⟨v4, rfl, h3, t3⟩
  have HW3 := Lib.hid h3
  have E6 := Lib.hid (t3.obj D6b.out (by omega)); have E8 := Lib.hid (t3.obj D8b.out (by omega)); have P3 := Lib.hid (P2.out.trans t3 fun q hq e => by omega : Pure w w3)
  have s3 : N ≤ w3.heap.size := by have := t3.size; omega
  clear t3 h3 D6b D8b P2 HW2 lN
  go_wp2_with (refine wpList_allocZ rfl 28 rfl X HZ.out ?_)
  intro ga w5 e5 c5 t5 s5
  have la : N ≤ ga := by omega
  clear e5
  go_wp2_with (refine wpList_allocZ rfl 28 rfl X HZ.out ?_)
  intro gb w6 e6 c6 t6 s6
  have lb : ga < gb := by omega
  clear e6
  go_wp2_with (refine wpList_store_blk rfl 28 _ _ rfl ga _ (u8s A) _ rfl rfl (t6.obj c5 (fun e => e)) (size28 hXl hA) (info28_l hA) (u8s_one _) ?_)
  intro w7 c7 t7 s7
  go_wp2_with (refine wpList_store_blk rfl 28 _ _ rfl gb _ (u8s B) _ rfl rfl (t7.obj c6 (by omega)) (size28 hXl hB) (info28_l hB) (u8s_one _) ?_)
  intro w8 c8 t8 s8
  have DA := Lib.hid (range_of_row (t8.obj c7 (by omega))); have DB := Lib.hid (range_of_row c8)
  have F6 := Lib.hid (range_of_row (t8.obj (t7.obj (t6.obj (t5.obj E6.out (fun e => e)) (fun e => e)) (by omega)) (by omega)))
  have F8 := Lib.hid (range_of_row (t8.obj (t7.obj (t6.obj (t5.obj E8.out (fun e => e)) (fun e => e)) (by omega)) (by omega)))
  have HW := Lib.hid ((((HW3.out.pure t5).pure t6).store t7 (by omega)).store t8 (by omega))
  have P8 := Lib.hid ((((P3.out.pure t5).pure t6).trans t7 fun q hq e => by omega).trans t8 fun q hq e => by omega : Pure w w8)
  clear c5 t5 s5 c6 t6 s6 c7 t7 s7 c8 t8 s8 E6 E8 P3 HW3
  cases hBA : (A == old) with
  | false =>
    have nq1 : ∀ V : World, (binOp .neq 28 (hv A) (hv old)).run Try.prog V = .ok (.bool true) V := fun V => by rw [neq28 V hA ho, hBA]; rfl
    have HBA := Lib.hid hBA; clear hBA
    go_wp2_with (first | (refine wpList_load_mid_w (by rfl) 28 _ rfl ga 0 rfl (u8s A) _ DA.out hu28 rfl (info28_l hA) ?_) | (refine wpList_load_mid_w (by rfl) 28 _ rfl gb 0 rfl (u8s B) _ DB.out hu28 rfl (info28_l hB) ?_) | (refine wpList_load_mid_w (by rfl) 28 _ rfl g6 0 rfl (u8s old) _ F6.out hu28 rfl (info28_l ho) ?_) | (refine wpList_load_mid_w (by rfl) 28 _ rfl g8 0 rfl (u8s root) _ F8.out hu28 rfl (info28_l hr) ?_))
    go_ret
    exact ⟨by rw [HC.out, HBA.out]; rfl, P8.out⟩
  | true =>
    have nq1 : ∀ V : World, (binOp .neq 28 (hv A) (hv old)).run Try.prog V = .ok (.bool false) V := fun V => by rw [neq28 V hA ho, hBA]; rfl
    have HBA := Lib.hid hBA; clear hBA
    cases hBB : (B == root) with
    | false =>
      have nq2 : ∀ V : World, (binOp .neq 28 (hv B) (hv root)).run Try.prog V = .ok (.bool true) V := fun V => by rw [neq28 V hB hr, hBB]; rfl
      have HBB := Lib.hid hBB; clear hBB
      go_wp2_with (first | (refine wpList_load_mid_w (by rfl) 28 _ rfl ga 0 rfl (u8s A) _ DA.out hu28 rfl (info28_l hA) ?_) | (refine wpList_load_mid_w (by rfl) 28 _ rfl gb 0 rfl (u8s B) _ DB.out hu28 rfl (info28_l hB) ?_) | (refine wpList_load_mid_w (by rfl) 28 _ rfl g6 0 rfl (u8s old) _ F6.out hu28 rfl (info28_l ho) ?_) | (refine wpList_load_mid_w (by rfl) 28 _ rfl g8 0 rfl (u8s root) _ F8.out hu28 rfl (info28_l hr) ?_))
      go_ret
      exact ⟨by rw [HC.out, HBA.out, HBB.out]; rfl, P8.out⟩
    | true =>
      have nq2 : ∀ V : World, (binOp .neq 28 (hv B) (hv root)).run Try.prog V = .ok (.bool false) V := fun V => by rw [neq28 V hB hr, hBB]; rfl
      have HBB := Lib.hid hBB; clear hBB
      cases hJ : (!SH && HS.isEmpty) with
      | false =>
        have HJ := Lib.hid hJ; clear hJ
        go_wp2_with (first | (refine wpList_load_mid_w (by rfl) 28 _ rfl ga 0 rfl (u8s A) _ DA.out hu28 rfl (info28_l hA) ?_) | (refine wpList_load_mid_w (by rfl) 28 _ rfl gb 0 rfl (u8s B) _ DB.out hu28 rfl (info28_l hB) ?_) | (refine wpList_load_mid_w (by rfl) 28 _ rfl g6 0 rfl (u8s old) _ F6.out hu28 rfl (info28_l ho) ?_) | (refine wpList_load_mid_w (by rfl) 28 _ rfl g8 0 rfl (u8s root) _ F8.out hu28 rfl (info28_l hr) ?_) | (go_at_call 51; refine (just_any _ g v4 HS SH HW.out.at_).mono ?_; rintro e wj ⟨rfl, rfl⟩; rw [HJ.out]))
        go_ret
        exact ⟨by rw [HC.out, HBA.out, HBB.out, HJ.out]; rfl, P8.out⟩
      | true =>
        have HJ := Lib.hid hJ; clear hJ
        go_wp2_with (first | (refine wpList_load_mid_w (by rfl) 28 _ rfl ga 0 rfl (u8s A) _ DA.out hu28 rfl (info28_l hA) ?_) | (refine wpList_load_mid_w (by rfl) 28 _ rfl gb 0 rfl (u8s B) _ DB.out hu28 rfl (info28_l hB) ?_) | (refine wpList_load_mid_w (by rfl) 28 _ rfl g6 0 rfl (u8s old) _ F6.out hu28 rfl (info28_l ho) ?_) | (refine wpList_load_mid_w (by rfl) 28 _ rfl g8 0 rfl (u8s root) _ F8.out hu28 rfl (info28_l hr) ?_) | (go_at_call 51; refine (just_any _ g v4 HS SH HW.out.at_).mono ?_; rintro e wj ⟨rfl, rfl⟩; rw [HJ.out]))
        go_ret
        exact ⟨by rw [HC.out, HBA.out, HBB.out, HJ.out]; rfl, P8.out⟩

set_option maxHeartbeats 1000000 in
theorem CheckConsistency_bad (w : World) (m : Int) (old : List UInt8) (size : Int) (root : List UInt8) (v : Value) (hbad : ¬ (1 ≤ size ∧ size ≤ 256 ∧ 1 ≤ m ∧ m ≤ size)) :
    Calls Try.prog 36 #[.int .i64 m, hv old, .int .i64 size, hv root, v] w fun e w' => e = .returned (.int .i64 1000) ∧ Pure w w' := by
  by_cases h1 : size < 1
  · have b1 : decide (size < 1) = true := decide_eq_true h1
    go_enter Try.func36, Try.ntmps36
    go_wp2_with (refine wpList_boxV rfl 28 _ rfl (u8s old) rfl ?_)
    intro g6 w1 e1 c1 t1 s1
    clear e1
    go_wp2_with (refine wpList_boxV rfl 28 _ rfl (u8s root) rfl ?_)
    intro g8 w2 e2 c2 t2 s2
    have P1 := Lib.hid (t1.pure t2)
    clear e2 c1 t1 s1 c2 t2 s2
    go_wp2
    go_ret
    exact ⟨rfl, P1.out⟩
  · have b1 : decide (size < 1) = false := decide_eq_false h1
    by_cases h2 : 256 < size
    · have b2 : decide (256 < size) = true := decide_eq_true h2
      go_enter Try.func36, Try.ntmps36
      go_wp2_with (refine wpList_boxV rfl 28 _ rfl (u8s old) rfl ?_)
      intro g6 w1 e1 c1 t1 s1
      clear e1
      go_wp2_with (refine wpList_boxV rfl 28 _ rfl (u8s root) rfl ?_)
      intro g8 w2 e2 c2 t2 s2
      have P1 := Lib.hid (t1.pure t2)
      clear e2 c1 t1 s1 c2 t2 s2
      go_wp2
      go_ret
      exact ⟨rfl, P1.out⟩
    · have b2 : decide (256 < size) = false := decide_eq_false h2
      by_cases h3 : m < 1
      · have b3 : decide (m < 1) = true := decide_eq_true h3
        go_enter Try.func36, Try.ntmps36
        go_wp2_with (refine wpList_boxV rfl 28 _ rfl (u8s old) rfl ?_)
        intro g6 w1 e1 c1 t1 s1
        clear e1
        go_wp2_with (refine wpList_boxV rfl 28 _ rfl (u8s root) rfl ?_)
        intro g8 w2 e2 c2 t2 s2
        have P1 := Lib.hid (t1.pure t2)
        clear e2 c1 t1 s1 c2 t2 s2
        go_wp2
        go_ret
        exact ⟨rfl, P1.out⟩
      · have b3 : decide (m < 1) = false := decide_eq_false h3
        have h4 : size < m := by omega
        have b4 : decide (size < m) = true := decide_eq_true h4
        clear hbad
        go_enter Try.func36, Try.ntmps36
        go_wp2_with (refine wpList_boxV rfl 28 _ rfl (u8s old) rfl ?_)
        intro g6 w1 e1 c1 t1 s1
        clear e1
        go_wp2_with (refine wpList_boxV rfl 28 _ rfl (u8s root) rfl ?_)
        intro g8 w2 e2 c2 t2 s2
        have P1 := Lib.hid (t1.pure t2)
        clear e2 c1 t1 s1 c2 t2 s2
        go_wp2
        go_ret
        exact ⟨rfl, P1.out⟩

set_option maxHeartbeats 1000000 in
theorem RCheckConsistency_bad (w : World) (m : Int) (old : List UInt8) (size : Int) (root : List UInt8) (v : Value) (hbad : ¬ (1 ≤ size ∧ size ≤ 256 ∧ 1 ≤ m ∧ m ≤ size)) :
    Calls Try.prog 37 #[.int .i64 m, hv old, .int .i64 size, hv root, v] w fun e w' => e = .returned (.int .i64 1000) ∧ Pure w w' := by
  by_cases h1 : size < 1
  · have b1 : decide (size < 1) = true := decide_eq_true h1
    go_enter Try.func37, Try.ntmps37
    go_wp2_with (refine wpList_boxV rfl 28 _ rfl (u8s old) rfl ?_)
    intro g6 w1 e1 c1 t1 s1
    clear e1
    go_wp2_with (refine wpList_boxV rfl 28 _ rfl (u8s root) rfl ?_)
    intro g8 w2 e2 c2 t2 s2
    have P1 := Lib.hid (t1.pure t2)
    clear e2 c1 t1 s1 c2 t2 s2
    go_wp2
    go_ret
    exact ⟨rfl, P1.out⟩
  · have b1 : decide (size < 1) = false := decide_eq_false h1
    by_cases h2 : 256 < size
    · have b2 : decide (256 < size) = true := decide_eq_true h2
      go_enter Try.func37, Try.ntmps37
      go_wp2_with (refine wpList_boxV rfl 28 _ rfl (u8s old) rfl ?_)
      intro g6 w1 e1 c1 t1 s1
      clear e1
      go_wp2_with (refine wpList_boxV rfl 28 _ rfl (u8s root) rfl ?_)
      intro g8 w2 e2 c2 t2 s2
      have P1 := Lib.hid (t1.pure t2)
      clear e2 c1 t1 s1 c2 t2 s2
      go_wp2
      go_ret
      exact ⟨rfl, P1.out⟩
    · have b2 : decide (256 < size) = false := decide_eq_false h2
      by_cases h3 : m < 1
      · have b3 : decide (m < 1) = true := decide_eq_true h3
        go_enter Try.func37, Try.ntmps37
        go_wp2_with (refine wpList_boxV rfl 28 _ rfl (u8s old) rfl ?_)
        intro g6 w1 e1 c1 t1 s1
        clear e1
        go_wp2_with (refine wpList_boxV rfl 28 _ rfl (u8s root) rfl ?_)
        intro g8 w2 e2 c2 t2 s2
        have P1 := Lib.hid (t1.pure t2)
        clear e2 c1 t1 s1 c2 t2 s2
        go_wp2
        go_ret
        exact ⟨rfl, P1.out⟩
      · have b3 : decide (m < 1) = false := decide_eq_false h3
        have h4 : size < m := by omega
        have b4 : decide (size < m) = true := decide_eq_true h4
        clear hbad
        go_enter Try.func37, Try.ntmps37
        go_wp2_with (refine wpList_boxV rfl 28 _ rfl (u8s old) rfl ?_)
        intro g6 w1 e1 c1 t1 s1
        clear e1
        go_wp2_with (refine wpList_boxV rfl 28 _ rfl (u8s root) rfl ?_)
        intro g8 w2 e2 c2 t2 s2
        have P1 := Lib.hid (t1.pure t2)
        clear e2 c1 t1 s1 c2 t2 s2
        go_wp2
        go_ret
        exact ⟨rfl, P1.out⟩
end Go.Proofs.Ytjbigghjbcjelaa
