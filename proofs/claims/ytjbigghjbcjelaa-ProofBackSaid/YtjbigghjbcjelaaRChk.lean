/- Chapter 10: is a leaf in? (the reference's CheckInclusion, and why both answer alike) -/
import Derived.Test.YtjbigghjbcjelaaClimb
namespace Go.Proofs.Ytjbigghjbcjelaa
open Go.RowKit

theorem nextV_cons (x : List UInt8) (t : List (List UInt8)) : nextV (x :: t) false = (x, t, false) := by simp [nextV]
theorem nextV_none : (nextV [] false).2.2 = true := by simp [nextV]
theorem nextV_short (hs : List (List UInt8)) : (nextV hs true).2.2 = true := by simp [nextV]
/-- Both ways up: as many hashes as there are levels. -/
theorem climb_up : ∀ (size : Nat), 1 ≤ size → ∀ (h : List UInt8) (i : Nat), ∃ d, (∀ a b, a.length = d → upV size (a ++ b) false h i = ((climbV size a h i).1, b, false)) ∧ (∀ a, a.length < d → (upV size a false h i).2.2 = true) ∧ (∀ a, (climbV size a h i).2 = decide (a.length = d)) := by
  intro size
  induction size using Nat.strongRecOn with
  | _ size ih =>
    intro h1 h i
    by_cases h2 : 2 ≤ size
    · have hk1 := belowV_lt h2
      have hk0 := belowV_pos size
      by_cases hi : i < belowV size
      · obtain ⟨d, a1, a2, a3⟩ := ih (belowV size) hk1 hk0 h i
        refine ⟨d + 1, fun a b hl => ?_, fun a hl => ?_, fun a => ?_⟩
        · rcases List.eq_nil_or_concat a with rfl | ⟨a, x, rfl⟩
          · simp at hl
          · rw [List.concat_eq_append] at hl ⊢
            rw [upV_left _ _ _ h2 hi, climbV_left a x h h2 hi, List.append_assoc, a1 a _ (by simpa using hl)]
            simp only [List.singleton_append, nextV_cons]
        · rw [upV_left _ _ _ h2 hi]
          by_cases he : a.length = d
          · have := a1 a [] he
            rw [List.append_nil] at this
            rw [this]
            exact nextV_none
          · show (nextV _ (upV (belowV size) a false h i).2.2).2.2 = true
            rw [a2 a (by omega)]
            exact nextV_short _
        · rcases List.eq_nil_or_concat a with rfl | ⟨a, x, rfl⟩
          · rw [climbV_nil h i h2]; simp
          · rw [List.concat_eq_append, climbV_left a x h h2 hi, a3 a]; simp
      · obtain ⟨d, a1, a2, a3⟩ := ih (size - belowV size) (by omega) (by omega) h (i - belowV size)
        refine ⟨d + 1, fun a b hl => ?_, fun a hl => ?_, fun a => ?_⟩
        · rcases List.eq_nil_or_concat a with rfl | ⟨a, x, rfl⟩
          · simp at hl
          · rw [List.concat_eq_append] at hl ⊢
            rw [upV_right _ _ _ h2 hi, climbV_right a x h h2 hi, List.append_assoc, a1 a _ (by simpa using hl)]
            simp only [List.singleton_append, nextV_cons]
        · rw [upV_right _ _ _ h2 hi]
          by_cases he : a.length = d
          · have := a1 a [] he
            rw [List.append_nil] at this
            rw [this]
            exact nextV_none
          · show (nextV _ (upV (size - belowV size) a false h (i - belowV size)).2.2).2.2 = true
            rw [a2 a (by omega)]
            exact nextV_short _
        · rcases List.eq_nil_or_concat a with rfl | ⟨a, x, rfl⟩
          · rw [climbV_nil h i h2]; simp
          · rw [List.concat_eq_append, climbV_right a x h h2 hi, a3 a]; simp
    · refine ⟨0, fun a b hl => ?_, fun a hl => by omega, fun a => ?_⟩
      · obtain rfl := List.eq_nil_of_length_eq_zero hl
        rw [upV_one size _ _ _ _ h2, climbV_one size _ _ _ h2]; rfl
      · rw [climbV_one size _ _ _ h2]; cases a <;> simp
/-- What both answer, by the path's climb. -/
theorem chkV_climb (leaf : List UInt8) (i size : Nat) (hs : List (List UInt8)) (root : List UInt8) (h1 : 1 ≤ size) :
    chkV leaf i size hs root = if (climbV size hs (leafV leaf) i).2 = true ∧ ((climbV size hs (leafV leaf) i).1 == root) = true then 0 else 1001 := by
  obtain ⟨d, a1, a2, a3⟩ := climb_up size h1 (leafV leaf) i
  rw [chkV, a3 hs]
  by_cases hd : hs.length = d
  · have := a1 hs [] hd
    rw [List.append_nil] at this
    rw [this]
    simp [hd]
  · rw [if_neg (c := _ ∧ ((climbV size hs (leafV leaf) i).1 == root) = true) (by simp [hd]), if_neg]
    rintro ⟨_, h⟩
    by_cases hl : hs.length < d
    · rw [a2 hs hl] at h; simp at h
    · have := a1 (hs.take d) (hs.drop d) (by simp; omega)
      rw [List.take_append_drop] at this
      rw [this] at h
      simp at h
      omega
/-- The same, of a path as long as it must be. -/
theorem climb_path : ∀ (m : Nat) (ls : List (List UInt8)) (i : Nat) (x : List UInt8), ls.length = m → ls[i]? = some x → climbV m (pathV ls i) (leafV x) i = (rootV ls, true) := by
  intro m
  induction m using Nat.strongRecOn with
  | _ m ih =>
    intro ls i x hm hx
    have hil : i < ls.length := (List.getElem?_eq_some_iff.1 hx).1
    by_cases h2 : 2 ≤ m
    · have hk1 := belowV_lt h2
      have hk0 := belowV_pos m
      have hr := rootV_more (ls := ls) (by omega)
      rw [hm] at hr
      by_cases hi : i < belowV m
      · have hp := pathV_left (ls := ls) (i := i) (by omega) (by rw [hm]; exact hi)
        rw [hm] at hp
        rw [hp, climbV_left _ _ _ h2 hi, ih (belowV m) hk1 (ls.take (belowV m)) i x (by simp; omega) (by rw [List.getElem?_take_of_lt hi]; exact hx), hr]
      · have hp := pathV_right (ls := ls) (i := i) (by omega) (by rw [hm]; exact hi)
        rw [hm] at hp
        rw [hp, climbV_right _ _ _ h2 hi, ih (m - belowV m) (by omega) (ls.drop (belowV m)) (i - belowV m) x (by simp; omega) (by rw [List.getElem?_drop, show belowV m + (i - belowV m) = i from by omega]; exact hx), hr]
    · obtain ⟨y, rfl⟩ : ∃ y, ls = [y] := List.length_eq_one_iff.1 (by omega)
      have : i = 0 := by simp at hil; omega
      subst this
      simp at hx
      subst hx
      rw [climbV_one m _ _ _ h2, pathV_one _ _ (by simp), rootV_one]
      rfl

set_option maxHeartbeats 1000000 in
theorem RCheckInclusion_ok (w : World) (leaf : List UInt8) (i size : Nat) (v : Value) (hs : List (List UInt8)) (root : List UInt8) (hl : leaf.length ≤ 140737488351232) (h1 : 1 ≤ size) (h2 : size ≤ 256) (hi : i < size) (hp : Hashs w v hs) (hpl : hs.length ≤ 4398046510976) (hr : root.length = 32) :
    Calls Try.prog 31 #[.string (bstr leaf), .int .i64 (i : Int), .int .i64 (size : Int), v, hv root] w fun e w' => e = .returned (.int .i64 (chkV leaf i size hs root)) ∧ Pure w w' := by
  obtain ⟨X, hXl, HZ⟩ := ex28
  have HP := Lib.hid hp
  have b1 : decide ((size : Int) < 1) = false := decide_eq_false (by omega)
  have b2 : decide ((256 : Int) < size) = false := decide_eq_false (by omega)
  have b3 : decide ((i : Int) < 0) = false := decide_eq_false (by omega)
  have b4 : decide ((size : Int) ≤ i) = false := decide_eq_false (by omega)
  have b1n : decide (size < 1) = false := decide_eq_false (by omega)
  have b2n : decide (256 < size) = false := decide_eq_false (by omega)
  have b4n : decide (size ≤ i) = false := decide_eq_false (by omega)
  have b1z : decide (size = 0) = false := decide_eq_false (by omega)
  have hR1 := climbV_len size hs (leafV leaf) i (leafV_length leaf)
  have hC := chkV_climb leaf i size hs root h1
  have HCL : Hid (∀ W, Hashs W v hs → _) := Lib.hid fun W hW => climb_any size h1 (by omega) hs W v (leafV leaf) i hW (leafV_length leaf) (by omega) hpl
  obtain ⟨r, hrr⟩ : ∃ r, r = climbV size hs (leafV leaf) i := ⟨_, rfl⟩
  rw [← hrr] at HCL hR1 hC
  have HC := Lib.hid hC; clear hC hrr
  obtain ⟨r1, r2⟩ := r
  dsimp only at HCL hR1 HC
  have HI1 := Lib.hid (info28_a hR1); have HI2 := Lib.hid (info28_a hr)
  have hu28 := Try.underlying28
  go_enter Try.func31, Try.ntmps31
  go_wp2_with (refine wpList_boxV rfl 28 _ rfl (u8s root) rfl ?_)
  intro g9 w1 e1 c1 t1 s1
  have l9 : w.heap.size ≤ g9 := by omega
  clear e1
  have D9 := Lib.hid c1; have P1 := Lib.hid t1
  clear c1 t1
  go_wp2_with fail
  refine (RLeaf_any _ leaf hl).mono ?_
  rintro e w3 ⟨rfl, t3⟩
  have D3 := Lib.hid (t3.obj D9.out (fun e => e)); have P3 := Lib.hid (P1.out.pure t3)
  clear t3 D9 P1 s1
  go_wp2_with fail
  refine (HCL.out _ (HP.out.pure P3.out)).mono ?_
  rintro e w4 ⟨rfl, t4⟩
  have D4 := Lib.hid (t4.obj D3.out (fun e => e)); have P4 := Lib.hid (P3.out.pure t4)
  have s4 := (Array.getElem?_eq_some_iff.1 D4.out).1
  clear t4 D3 P3
  go_wp2_with (refine wpList_allocZ rfl 28 rfl X HZ.out ?_)
  intro gx w5 e5 c5 t5 s5
  have lgx : g9 < gx := by omega
  have D5 := Lib.hid (t5.obj D4.out (fun e => e)); have P5 := Lib.hid (P4.out.pure t5)
  clear e5 t5 D4 P4 s5 s4
  go_wp2_with (refine wpList_store_blk rfl 28 _ _ rfl gx _ (u8s r1) _ rfl rfl c5 (size28 hXl hR1) (info28_l hR1) (u8s_one _) ?_)
  intro w6 c6 t6 _
  have D6 := Lib.hid (range_of_row (t6.obj D5.out (by omega))); have X6 := Lib.hid (range_of_row c6); have P6 := Lib.hid (P5.out.trans t6 fun q hq e => by omega : Pure w w6)
  clear c5 c6 t6 D5 P5
  cases r2 with
  | false =>
    go_wp2
    go_ret
    exact ⟨by rw [HC.out]; rfl, P6.out⟩
  | true =>
    cases hB : (r1 == root) with
    | true =>
      have nq : ∀ V : World, (binOp .neq 28 (hv r1) (hv root)).run Try.prog V = .ok (.bool false) V := fun V => by rw [neq28 V hR1 hr, hB]; rfl
      have HB := Lib.hid hB; clear hB
      go_wp2_with (first | (refine wpList_load_mid_w (by rfl) 28 _ rfl gx 0 rfl (u8s r1) _ X6.out hu28 rfl (info28_l hR1) ?_) | (refine wpList_load_mid_w (by rfl) 28 _ rfl g9 0 rfl (u8s root) _ D6.out hu28 rfl (info28_l hr) ?_))
      go_ret
      exact ⟨by rw [HC.out, HB.out]; rfl, P6.out⟩
    | false =>
      have nq : ∀ V : World, (binOp .neq 28 (hv r1) (hv root)).run Try.prog V = .ok (.bool true) V := fun V => by rw [neq28 V hR1 hr, hB]; rfl
      have HB := Lib.hid hB; clear hB
      go_wp2_with (first | (refine wpList_load_mid_w (by rfl) 28 _ rfl gx 0 rfl (u8s r1) _ X6.out hu28 rfl (info28_l hR1) ?_) | (refine wpList_load_mid_w (by rfl) 28 _ rfl g9 0 rfl (u8s root) _ D6.out hu28 rfl (info28_l hr) ?_))
      go_ret
      exact ⟨by rw [HC.out, HB.out]; rfl, P6.out⟩

set_option maxHeartbeats 1000000 in
theorem RCheckInclusion_bad (w : World) (leaf : List UInt8) (i size : Int) (v : Value) (root : List UInt8) (hbad : ¬ (1 ≤ size ∧ size ≤ 256 ∧ 0 ≤ i ∧ i < size)) :
    Calls Try.prog 31 #[.string (bstr leaf), .int .i64 i, .int .i64 size, v, hv root] w fun e w' => e = .returned (.int .i64 1000) ∧ Pure w w' := by
  by_cases h1 : size < 1
  · have b1 : decide (size < 1) = true := decide_eq_true h1
    go_enter Try.func31, Try.ntmps31
    go_wp2_with (refine wpList_boxV rfl 28 _ rfl (u8s root) rfl ?_)
    intro g9 w1 e1 c1 t1 s1
    have P1 := Lib.hid t1
    clear e1 c1 t1 s1
    go_wp2
    go_ret
    exact ⟨rfl, P1.out⟩
  · have b1 : decide (size < 1) = false := decide_eq_false h1
    by_cases h2 : 256 < size
    · have b2 : decide (256 < size) = true := decide_eq_true h2
      go_enter Try.func31, Try.ntmps31
      go_wp2_with (refine wpList_boxV rfl 28 _ rfl (u8s root) rfl ?_)
      intro g9 w1 e1 c1 t1 s1
      have P1 := Lib.hid t1
      clear e1 c1 t1 s1
      go_wp2
      go_ret
      exact ⟨rfl, P1.out⟩
    · have b2 : decide (256 < size) = false := decide_eq_false h2
      by_cases h3 : i < 0
      · have b3 : decide (i < 0) = true := decide_eq_true h3
        go_enter Try.func31, Try.ntmps31
        go_wp2_with (refine wpList_boxV rfl 28 _ rfl (u8s root) rfl ?_)
        intro g9 w1 e1 c1 t1 s1
        have P1 := Lib.hid t1
        clear e1 c1 t1 s1
        go_wp2
        go_ret
        exact ⟨rfl, P1.out⟩
      · have b3 : decide (i < 0) = false := decide_eq_false h3
        have h4 : size ≤ i := by omega
        have b4 : decide (size ≤ i) = true := decide_eq_true h4
        clear hbad
        go_enter Try.func31, Try.ntmps31
        go_wp2_with (refine wpList_boxV rfl 28 _ rfl (u8s root) rfl ?_)
        intro g9 w1 e1 c1 t1 s1
        have P1 := Lib.hid t1
        clear e1 c1 t1 s1
        go_wp2
        go_ret
        exact ⟨rfl, P1.out⟩
end Go.Proofs.Ytjbigghjbcjelaa
