/- The law WireCuts, walked. -/
import Derived.Test.YtjingpkgappblaaWireNums
import Derived.Test.YtjingpkgappblaaWireLong
namespace Go.Proofs.Ytjingpkgappblaa
open Go.RowKit

theorem cut_text (s : List UInt8) (n L k : Nat) (hn : n = 1 ∨ n = 2 ∨ n = 4) (hL : L < 256) (hk : k < n + L) :
    rdText ((beB L n ++ s).take k) n = ([], 300, (beB L n ++ s).take k) := by
  have hp : L < 256 ^ n := Nat.lt_of_lt_of_le hL (by rcases hn with rfl | rfl | rfl <;> decide)
  have hs : sizedB n = true := by rcases hn with rfl | rfl | rfl <;> rfl
  by_cases hkn : n ≤ k
  · have e : (beB L n ++ s).take k = beB L n ++ s.take (k - n) := by rw [List.take_append, beB_length, List.take_of_length_le (by rw [beB_length]; exact hkn)]
    rw [e, rdText, rdNum_beB L n _ hn hp]
    simp
    omega
  · by_cases hl : n ≤ ((beB L n ++ s).take k).length
    · simp at hl; omega
    · have e : rdNum ((beB L n ++ s).take k) n = (0, 300, (beB L n ++ s).take k) := by rw [rdNum, if_pos hs, Int.toNat_natCast, if_neg hl]
      rw [rdText, e]
      simp

theorem cut_hash (x : List UInt8) (k : Nat) (hk : k ≤ 31) : rdHash (x.take k) = (List.replicate 32 0, 300, x.take k) := by
  rw [rdHash, if_neg (by simp; omega)]

theorem str_take (x : List UInt8) (k : Nat) : (bstr x).extract 0 k = bstr (x.take k) := by rw [bstr_ext]; simp

set_option maxRecDepth 100000 in
set_option maxHeartbeats 4000000 in
theorem WireCuts_1 (s : List UInt8) (y : Int) (w : World) (hs : s.length ≤ 140737488351232) (hy : wrap64 ((IntKind.u64.wrap y).tmod 3) = 0) :
    Calls Try.prog 10 #[.string (bstr s), .int .i64 y] w fun e w' => e = .returned (.bool true) ∧ Pure w w' := by
  have hz := bstr_size s
  have hand := and255 s.length (by omega)
  have hL : s.length % 256 < 256 := Nat.mod_lt _ (by omega)
  obtain ⟨L, hLe⟩ : ∃ L, L = s.length % 256 := ⟨_, rfl⟩
  rw [← hLe] at hand hL
  have HLE := Lib.hid hLe; clear hLe
  have hzb := bstr_size (beB L 1)
  rw [beB_length] at hzb
  have happ := bstr_app (beB L 1) s
  have hX : (bstr (beB L 1 ++ s)).size = (beB L 1 ++ s).length := bstr_size _
  have hXl : (beB L 1 ++ s).length ≤ 150737488351232 := by simp [beB_length]; omega
  have hct := fun k (hk : k < 1 + L) => cut_text s 1 L k (by omega) hL hk
  generalize beB L 1 ++ s = X at happ hX hXl hct
  have HCT := Lib.hid hct; clear hct
  go_enter Try.func10, Try.ntmps10
  go_wp2_with fail
  refine (awake3_any w).mono ?_
  rintro e w1 ⟨rfl, ht1⟩
  go_wp2_with fail
  refine (Be_any L 1 _ (by omega) (by omega)).mono ?_
  rintro e w2 ⟨rfl, ht2⟩
  have ht := (ht1.alloc (.cells #[.int .i64 1, .int .i64 2, .int .i64 4] 3)).pure ht2
  clear ht1 ht2 hy
  go_wp2_with fail
  clear happ hzb
  go_loopw [7] (fun i wr => ∃ k : Nat, k ≤ 40 ∧ k ≤ X.length ∧ i = .int .i64 k ∧ Pure w wr) (fun i _ => 40 - (intOf i).toNat)
  case atStart => exact ⟨0, by omega, by omega, rfl, ht⟩
  case round =>
    clear ht
    obtain ⟨k, hk, hkX, rfl, ht⟩ := hrel
    by_cases hlt : k < 40 ∧ k < X.length
    · obtain ⟨hl1, hl2⟩ := hlt
      have ex1 := str_take X k
      have hl3 : (X.take k).length = k := by simp; omega
      have HTK := Lib.hid hl3; clear hl3
      by_cases hkl : k < 1 + L
      · have hcase : (k : Int) < 1 + (L : Int) := by omega
        have HC := Lib.hid (HCT.out k hkl)
        clear hkl
        by_cases hm : k ≤ 31
        · have ex2 := str_take X k
          have hl4 : (X.take k).length = k := by simp; omega
          have HT4 := Lib.hid hl4; clear hl4
          have hm' : (k : Int) ≤ 31 := by omega
          have HH := Lib.hid (cut_hash X k (by omega))
          clear hm
          go_wp2_with fail
          refine (Open_own (X.take k) ht (by rw [HTK.out]; omega)).mono ?_
          rintro e w3 ⟨rfl, h1⟩
          go_wp2_with fail
          refine (RText_own _ h1).mono ?_
          rintro e w4 ⟨rfl, h2⟩
          rw [show rdText (X.take k) 1 = ([], 300, X.take k) from HC.out] at h2 ⊢
          clear h1
          have hll := RLeft_own h2
          rw [HTK.out] at hll
          have HLL := Lib.hid hll; clear hll
          go_wp2_with (first | (go_at_call 19; refine (Num_any _ _).mono ?_; rintro e w9 ⟨rfl, rfl⟩) | (go_at_call 42; refine HLL.out.mono ?_; rintro e w9 ⟨rfl, rfl⟩))
          refine (Open_own (X.take k) h2.pure (by rw [HT4.out]; omega)).mono ?_
          rintro e w5 ⟨rfl, h5⟩
          generalize w4.heap.size = g5 at *
          clear h2
          go_wp2_with fail
          refine (RHash_own h5).mono ?_
          rintro e w6 ⟨rfl, h6⟩
          rw [HH.out] at h6 ⊢
          clear h5
          go_wp2_with (refine wpList_store_blk rfl 56 _ _ rfl w6.heap.size _ (u8s (List.replicate 32 0)) _ rfl rfl (heap_alloc_new _ _) rfl (by kernel_rfl) (u8s_one _) ?_)
          intro w7 hc7 ht7 _
          have h7 : OwnR w w7 g5 (X.take k) := ⟨h6.rd.turn (((Turn.refl (fun k => k = w6.heap.size) w6).alloc _).trans ht7 fun _ _ e => e) (by have := h6.rd.lt; omega), h6.new, (h6.pure.alloc _).trans ht7 fun i hi e => by have := h6.pure.size; omega⟩
          clear hc7 ht7 h6
          have hll2 := RLeft_own h7
          rw [HT4.out] at hll2
          have HLL2 := Lib.hid hll2; clear hll2
          go_wp2_with (first | (go_at_call 19; refine (Num_any _ _).mono ?_; rintro e w9 ⟨rfl, rfl⟩) | (go_at_call 42; refine HLL2.out.mono ?_; rintro e w9 ⟨rfl, rfl⟩))
          exact ⟨⟨k + 1, by omega, by omega, by go_num, h7.pure⟩, by simp [intOf]; omega⟩
        · have ex2 := str_take X 31
          have hl4 : (X.take 31).length = 31 := by simp; omega
          have HT4 := Lib.hid hl4; clear hl4
          have hm' : ¬ ((k : Int) ≤ 31) := by omega
          have HH := Lib.hid (cut_hash X 31 (by omega))
          clear hm
          go_wp2_with fail
          refine (Open_own (X.take k) ht (by rw [HTK.out]; omega)).mono ?_
          rintro e w3 ⟨rfl, h1⟩
          go_wp2_with fail
          refine (RText_own _ h1).mono ?_
          rintro e w4 ⟨rfl, h2⟩
          rw [show rdText (X.take k) 1 = ([], 300, X.take k) from HC.out] at h2 ⊢
          clear h1
          have hll := RLeft_own h2
          rw [HTK.out] at hll
          have HLL := Lib.hid hll; clear hll
          go_wp2_with (first | (go_at_call 19; refine (Num_any _ _).mono ?_; rintro e w9 ⟨rfl, rfl⟩) | (go_at_call 42; refine HLL.out.mono ?_; rintro e w9 ⟨rfl, rfl⟩))
          refine (Open_own (X.take 31) h2.pure (by rw [HT4.out]; omega)).mono ?_
          rintro e w5 ⟨rfl, h5⟩
          generalize w4.heap.size = g5 at *
          clear h2
          go_wp2_with fail
          refine (RHash_own h5).mono ?_
          rintro e w6 ⟨rfl, h6⟩
          rw [HH.out] at h6 ⊢
          clear h5
          go_wp2_with (refine wpList_store_blk rfl 56 _ _ rfl w6.heap.size _ (u8s (List.replicate 32 0)) _ rfl rfl (heap_alloc_new _ _) rfl (by kernel_rfl) (u8s_one _) ?_)
          intro w7 hc7 ht7 _
          have h7 : OwnR w w7 g5 (X.take 31) := ⟨h6.rd.turn (((Turn.refl (fun k => k = w6.heap.size) w6).alloc _).trans ht7 fun _ _ e => e) (by have := h6.rd.lt; omega), h6.new, (h6.pure.alloc _).trans ht7 fun i hi e => by have := h6.pure.size; omega⟩
          clear hc7 ht7 h6
          have hll2 := RLeft_own h7
          rw [HT4.out] at hll2
          have HLL2 := Lib.hid hll2; clear hll2
          go_wp2_with (first | (go_at_call 19; refine (Num_any _ _).mono ?_; rintro e w9 ⟨rfl, rfl⟩) | (go_at_call 42; refine HLL2.out.mono ?_; rintro e w9 ⟨rfl, rfl⟩))
          exact ⟨⟨k + 1, by omega, by omega, by go_num, h7.pure⟩, by simp [intOf]; omega⟩
      · have hcase : ¬ ((k : Int) < 1 + (L : Int)) := by omega
        clear hkl
        by_cases hm : k ≤ 31
        · have ex2 := str_take X k
          have hl4 : (X.take k).length = k := by simp; omega
          have HT4 := Lib.hid hl4; clear hl4
          have hm' : (k : Int) ≤ 31 := by omega
          have HH := Lib.hid (cut_hash X k (by omega))
          clear hm
          go_wp2_with fail
          refine (Open_own (X.take k) ht (by rw [HTK.out]; omega)).mono ?_
          rintro e w3 ⟨rfl, h1⟩
          go_wp2_with fail
          refine (RText_own _ h1).mono ?_
          rintro e w4 ⟨rfl, h2⟩
          generalize rdText (X.take k) 1 = R at h2 ⊢
          clear h1
          have hll := RLeft_own h2
          have HLL := Lib.hid hll; clear hll
          go_wp2_with (first | (go_at_call 19; refine (Num_any _ _).mono ?_; rintro e w9 ⟨rfl, rfl⟩) | (go_at_call 42; refine HLL.out.mono ?_; rintro e w9 ⟨rfl, rfl⟩))
          refine (Open_own (X.take k) h2.pure (by rw [HT4.out]; omega)).mono ?_
          rintro e w5 ⟨rfl, h5⟩
          generalize w4.heap.size = g5 at *
          clear h2
          go_wp2_with fail
          refine (RHash_own h5).mono ?_
          rintro e w6 ⟨rfl, h6⟩
          rw [HH.out] at h6 ⊢
          clear h5
          go_wp2_with (refine wpList_store_blk rfl 56 _ _ rfl w6.heap.size _ (u8s (List.replicate 32 0)) _ rfl rfl (heap_alloc_new _ _) rfl (by kernel_rfl) (u8s_one _) ?_)
          intro w7 hc7 ht7 _
          have h7 : OwnR w w7 g5 (X.take k) := ⟨h6.rd.turn (((Turn.refl (fun k => k = w6.heap.size) w6).alloc _).trans ht7 fun _ _ e => e) (by have := h6.rd.lt; omega), h6.new, (h6.pure.alloc _).trans ht7 fun i hi e => by have := h6.pure.size; omega⟩
          clear hc7 ht7 h6
          have hll2 := RLeft_own h7
          rw [HT4.out] at hll2
          have HLL2 := Lib.hid hll2; clear hll2
          go_wp2_with (first | (go_at_call 19; refine (Num_any _ _).mono ?_; rintro e w9 ⟨rfl, rfl⟩) | (go_at_call 42; refine HLL2.out.mono ?_; rintro e w9 ⟨rfl, rfl⟩))
          exact ⟨⟨k + 1, by omega, by omega, by go_num, h7.pure⟩, by simp [intOf]; omega⟩
        · have ex2 := str_take X 31
          have hl4 : (X.take 31).length = 31 := by simp; omega
          have HT4 := Lib.hid hl4; clear hl4
          have hm' : ¬ ((k : Int) ≤ 31) := by omega
          have HH := Lib.hid (cut_hash X 31 (by omega))
          clear hm
          go_wp2_with fail
          refine (Open_own (X.take k) ht (by rw [HTK.out]; omega)).mono ?_
          rintro e w3 ⟨rfl, h1⟩
          go_wp2_with fail
          refine (RText_own _ h1).mono ?_
          rintro e w4 ⟨rfl, h2⟩
          generalize rdText (X.take k) 1 = R at h2 ⊢
          clear h1
          have hll := RLeft_own h2
          have HLL := Lib.hid hll; clear hll
          go_wp2_with (first | (go_at_call 19; refine (Num_any _ _).mono ?_; rintro e w9 ⟨rfl, rfl⟩) | (go_at_call 42; refine HLL.out.mono ?_; rintro e w9 ⟨rfl, rfl⟩))
          refine (Open_own (X.take 31) h2.pure (by rw [HT4.out]; omega)).mono ?_
          rintro e w5 ⟨rfl, h5⟩
          generalize w4.heap.size = g5 at *
          clear h2
          go_wp2_with fail
          refine (RHash_own h5).mono ?_
          rintro e w6 ⟨rfl, h6⟩
          rw [HH.out] at h6 ⊢
          clear h5
          go_wp2_with (refine wpList_store_blk rfl 56 _ _ rfl w6.heap.size _ (u8s (List.replicate 32 0)) _ rfl rfl (heap_alloc_new _ _) rfl (by kernel_rfl) (u8s_one _) ?_)
          intro w7 hc7 ht7 _
          have h7 : OwnR w w7 g5 (X.take 31) := ⟨h6.rd.turn (((Turn.refl (fun k => k = w6.heap.size) w6).alloc _).trans ht7 fun _ _ e => e) (by have := h6.rd.lt; omega), h6.new, (h6.pure.alloc _).trans ht7 fun i hi e => by have := h6.pure.size; omega⟩
          clear hc7 ht7 h6
          have hll2 := RLeft_own h7
          rw [HT4.out] at hll2
          have HLL2 := Lib.hid hll2; clear hll2
          go_wp2_with (first | (go_at_call 19; refine (Num_any _ _).mono ?_; rintro e w9 ⟨rfl, rfl⟩) | (go_at_call 42; refine HLL2.out.mono ?_; rintro e w9 ⟨rfl, rfl⟩))
          exact ⟨⟨k + 1, by omega, by omega, by go_num, h7.pure⟩, by simp [intOf]; omega⟩
    · by_cases hl1 : k < 40
      · have hl2 : ¬ k < X.length := fun h => hlt ⟨hl1, h⟩
        clear hlt
        go_wp2
        go_ret
        exact ⟨rfl, ht⟩
      · clear hlt
        by_cases hl2 : k < X.length
        · go_wp2
          go_ret
          exact ⟨rfl, ht⟩
        · go_wp2
          go_ret
          exact ⟨rfl, ht⟩
set_option maxRecDepth 100000 in
set_option maxHeartbeats 4000000 in
theorem WireCuts_2 (s : List UInt8) (y : Int) (w : World) (hs : s.length ≤ 140737488351232) (hy : wrap64 ((IntKind.u64.wrap y).tmod 3) = 1) :
    Calls Try.prog 10 #[.string (bstr s), .int .i64 y] w fun e w' => e = .returned (.bool true) ∧ Pure w w' := by
  have hz := bstr_size s
  have hand := and255 s.length (by omega)
  have hL : s.length % 256 < 256 := Nat.mod_lt _ (by omega)
  obtain ⟨L, hLe⟩ : ∃ L, L = s.length % 256 := ⟨_, rfl⟩
  rw [← hLe] at hand hL
  have HLE := Lib.hid hLe; clear hLe
  have hzb := bstr_size (beB L 2)
  rw [beB_length] at hzb
  have happ := bstr_app (beB L 2) s
  have hX : (bstr (beB L 2 ++ s)).size = (beB L 2 ++ s).length := bstr_size _
  have hXl : (beB L 2 ++ s).length ≤ 150737488351232 := by simp [beB_length]; omega
  have hct := fun k (hk : k < 2 + L) => cut_text s 2 L k (by omega) hL hk
  generalize beB L 2 ++ s = X at happ hX hXl hct
  have HCT := Lib.hid hct; clear hct
  go_enter Try.func10, Try.ntmps10
  go_wp2_with fail
  refine (awake3_any w).mono ?_
  rintro e w1 ⟨rfl, ht1⟩
  go_wp2_with fail
  refine (Be_any L 2 _ (by omega) (by omega)).mono ?_
  rintro e w2 ⟨rfl, ht2⟩
  have ht := (ht1.alloc (.cells #[.int .i64 1, .int .i64 2, .int .i64 4] 3)).pure ht2
  clear ht1 ht2 hy
  go_wp2_with fail
  clear happ hzb
  go_loopw [7] (fun i wr => ∃ k : Nat, k ≤ 40 ∧ k ≤ X.length ∧ i = .int .i64 k ∧ Pure w wr) (fun i _ => 40 - (intOf i).toNat)
  case atStart => exact ⟨0, by omega, by omega, rfl, ht⟩
  case round =>
    clear ht
    obtain ⟨k, hk, hkX, rfl, ht⟩ := hrel
    by_cases hlt : k < 40 ∧ k < X.length
    · obtain ⟨hl1, hl2⟩ := hlt
      have ex1 := str_take X k
      have hl3 : (X.take k).length = k := by simp; omega
      have HTK := Lib.hid hl3; clear hl3
      by_cases hkl : k < 2 + L
      · have hcase : (k : Int) < 2 + (L : Int) := by omega
        have HC := Lib.hid (HCT.out k hkl)
        clear hkl
        by_cases hm : k ≤ 31
        · have ex2 := str_take X k
          have hl4 : (X.take k).length = k := by simp; omega
          have HT4 := Lib.hid hl4; clear hl4
          have hm' : (k : Int) ≤ 31 := by omega
          have HH := Lib.hid (cut_hash X k (by omega))
          clear hm
          go_wp2_with fail
          refine (Open_own (X.take k) ht (by rw [HTK.out]; omega)).mono ?_
          rintro e w3 ⟨rfl, h1⟩
          go_wp2_with fail
          refine (RText_own _ h1).mono ?_
          rintro e w4 ⟨rfl, h2⟩
          rw [show rdText (X.take k) 2 = ([], 300, X.take k) from HC.out] at h2 ⊢
          clear h1
          have hll := RLeft_own h2
          rw [HTK.out] at hll
          have HLL := Lib.hid hll; clear hll
          go_wp2_with (first | (go_at_call 19; refine (Num_any _ _).mono ?_; rintro e w9 ⟨rfl, rfl⟩) | (go_at_call 42; refine HLL.out.mono ?_; rintro e w9 ⟨rfl, rfl⟩))
          refine (Open_own (X.take k) h2.pure (by rw [HT4.out]; omega)).mono ?_
          rintro e w5 ⟨rfl, h5⟩
          generalize w4.heap.size = g5 at *
          clear h2
          go_wp2_with fail
          refine (RHash_own h5).mono ?_
          rintro e w6 ⟨rfl, h6⟩
          rw [HH.out] at h6 ⊢
          clear h5
          go_wp2_with (refine wpList_store_blk rfl 56 _ _ rfl w6.heap.size _ (u8s (List.replicate 32 0)) _ rfl rfl (heap_alloc_new _ _) rfl (by kernel_rfl) (u8s_one _) ?_)
          intro w7 hc7 ht7 _
          have h7 : OwnR w w7 g5 (X.take k) := ⟨h6.rd.turn (((Turn.refl (fun k => k = w6.heap.size) w6).alloc _).trans ht7 fun _ _ e => e) (by have := h6.rd.lt; omega), h6.new, (h6.pure.alloc _).trans ht7 fun i hi e => by have := h6.pure.size; omega⟩
          clear hc7 ht7 h6
          have hll2 := RLeft_own h7
          rw [HT4.out] at hll2
          have HLL2 := Lib.hid hll2; clear hll2
          go_wp2_with (first | (go_at_call 19; refine (Num_any _ _).mono ?_; rintro e w9 ⟨rfl, rfl⟩) | (go_at_call 42; refine HLL2.out.mono ?_; rintro e w9 ⟨rfl, rfl⟩))
          exact ⟨⟨k + 1, by omega, by omega, by go_num, h7.pure⟩, by simp [intOf]; omega⟩
        · have ex2 := str_take X 31
          have hl4 : (X.take 31).length = 31 := by simp; omega
          have HT4 := Lib.hid hl4; clear hl4
          have hm' : ¬ ((k : Int) ≤ 31) := by omega
          have HH := Lib.hid (cut_hash X 31 (by omega))
          clear hm
          go_wp2_with fail
          refine (Open_own (X.take k) ht (by rw [HTK.out]; omega)).mono ?_
          rintro e w3 ⟨rfl, h1⟩
          go_wp2_with fail
          refine (RText_own _ h1).mono ?_
          rintro e w4 ⟨rfl, h2⟩
          rw [show rdText (X.take k) 2 = ([], 300, X.take k) from HC.out] at h2 ⊢
          clear h1
          have hll := RLeft_own h2
          rw [HTK.out] at hll
          have HLL := Lib.hid hll; clear hll
          go_wp2_with (first | (go_at_call 19; refine (Num_any _ _).mono ?_; rintro e w9 ⟨rfl, rfl⟩) | (go_at_call 42; refine HLL.out.mono ?_; rintro e w9 ⟨rfl, rfl⟩))
          refine (Open_own (X.take 31) h2.pure (by rw [HT4.out]; omega)).mono ?_
          rintro e w5 ⟨rfl, h5⟩
          generalize w4.heap.size = g5 at *
          clear h2
          go_wp2_with fail
          refine (RHash_own h5).mono ?_
          rintro e w6 ⟨rfl, h6⟩
          rw [HH.out] at h6 ⊢
          clear h5
          go_wp2_with (refine wpList_store_blk rfl 56 _ _ rfl w6.heap.size _ (u8s (List.replicate 32 0)) _ rfl rfl (heap_alloc_new _ _) rfl (by kernel_rfl) (u8s_one _) ?_)
          intro w7 hc7 ht7 _
          have h7 : OwnR w w7 g5 (X.take 31) := ⟨h6.rd.turn (((Turn.refl (fun k => k = w6.heap.size) w6).alloc _).trans ht7 fun _ _ e => e) (by have := h6.rd.lt; omega), h6.new, (h6.pure.alloc _).trans ht7 fun i hi e => by have := h6.pure.size; omega⟩
          clear hc7 ht7 h6
          have hll2 := RLeft_own h7
          rw [HT4.out] at hll2
          have HLL2 := Lib.hid hll2; clear hll2
          go_wp2_with (first | (go_at_call 19; refine (Num_any _ _).mono ?_; rintro e w9 ⟨rfl, rfl⟩) | (go_at_call 42; refine HLL2.out.mono ?_; rintro e w9 ⟨rfl, rfl⟩))
          exact ⟨⟨k + 1, by omega, by omega, by go_num, h7.pure⟩, by simp [intOf]; omega⟩
      · have hcase : ¬ ((k : Int) < 2 + (L : Int)) := by omega
        clear hkl
        by_cases hm : k ≤ 31
        · have ex2 := str_take X k
          have hl4 : (X.take k).length = k := by simp; omega
          have HT4 := Lib.hid hl4; clear hl4
          have hm' : (k : Int) ≤ 31 := by omega
          have HH := Lib.hid (cut_hash X k (by omega))
          clear hm
          go_wp2_with fail
          refine (Open_own (X.take k) ht (by rw [HTK.out]; omega)).mono ?_
          rintro e w3 ⟨rfl, h1⟩
          go_wp2_with fail
          refine (RText_own _ h1).mono ?_
          rintro e w4 ⟨rfl, h2⟩
          generalize rdText (X.take k) 2 = R at h2 ⊢
          clear h1
          have hll := RLeft_own h2
          have HLL := Lib.hid hll; clear hll
          go_wp2_with (first | (go_at_call 19; refine (Num_any _ _).mono ?_; rintro e w9 ⟨rfl, rfl⟩) | (go_at_call 42; refine HLL.out.mono ?_; rintro e w9 ⟨rfl, rfl⟩))
          refine (Open_own (X.take k) h2.pure (by rw [HT4.out]; omega)).mono ?_
          rintro e w5 ⟨rfl, h5⟩
          generalize w4.heap.size = g5 at *
          clear h2
          go_wp2_with fail
          refine (RHash_own h5).mono ?_
          rintro e w6 ⟨rfl, h6⟩
          rw [HH.out] at h6 ⊢
          clear h5
          go_wp2_with (refine wpList_store_blk rfl 56 _ _ rfl w6.heap.size _ (u8s (List.replicate 32 0)) _ rfl rfl (heap_alloc_new _ _) rfl (by kernel_rfl) (u8s_one _) ?_)
          intro w7 hc7 ht7 _
          have h7 : OwnR w w7 g5 (X.take k) := ⟨h6.rd.turn (((Turn.refl (fun k => k = w6.heap.size) w6).alloc _).trans ht7 fun _ _ e => e) (by have := h6.rd.lt; omega), h6.new, (h6.pure.alloc _).trans ht7 fun i hi e => by have := h6.pure.size; omega⟩
          clear hc7 ht7 h6
          have hll2 := RLeft_own h7
          rw [HT4.out] at hll2
          have HLL2 := Lib.hid hll2; clear hll2
          go_wp2_with (first | (go_at_call 19; refine (Num_any _ _).mono ?_; rintro e w9 ⟨rfl, rfl⟩) | (go_at_call 42; refine HLL2.out.mono ?_; rintro e w9 ⟨rfl, rfl⟩))
          exact ⟨⟨k + 1, by omega, by omega, by go_num, h7.pure⟩, by simp [intOf]; omega⟩
        · have ex2 := str_take X 31
          have hl4 : (X.take 31).length = 31 := by simp; omega
          have HT4 := Lib.hid hl4; clear hl4
          have hm' : ¬ ((k : Int) ≤ 31) := by omega
          have HH := Lib.hid (cut_hash X 31 (by omega))
          clear hm
          go_wp2_with fail
          refine (Open_own (X.take k) ht (by rw [HTK.out]; omega)).mono ?_
          rintro e w3 ⟨rfl, h1⟩
          go_wp2_with fail
          refine (RText_own _ h1).mono ?_
          rintro e w4 ⟨rfl, h2⟩
          generalize rdText (X.take k) 2 = R at h2 ⊢
          clear h1
          have hll := RLeft_own h2
          have HLL := Lib.hid hll; clear hll
          go_wp2_with (first | (go_at_call 19; refine (Num_any _ _).mono ?_; rintro e w9 ⟨rfl, rfl⟩) | (go_at_call 42; refine HLL.out.mono ?_; rintro e w9 ⟨rfl, rfl⟩))
          refine (Open_own (X.take 31) h2.pure (by rw [HT4.out]; omega)).mono ?_
          rintro e w5 ⟨rfl, h5⟩
          generalize w4.heap.size = g5 at *
          clear h2
          go_wp2_with fail
          refine (RHash_own h5).mono ?_
          rintro e w6 ⟨rfl, h6⟩
          rw [HH.out] at h6 ⊢
          clear h5
          go_wp2_with (refine wpList_store_blk rfl 56 _ _ rfl w6.heap.size _ (u8s (List.replicate 32 0)) _ rfl rfl (heap_alloc_new _ _) rfl (by kernel_rfl) (u8s_one _) ?_)
          intro w7 hc7 ht7 _
          have h7 : OwnR w w7 g5 (X.take 31) := ⟨h6.rd.turn (((Turn.refl (fun k => k = w6.heap.size) w6).alloc _).trans ht7 fun _ _ e => e) (by have := h6.rd.lt; omega), h6.new, (h6.pure.alloc _).trans ht7 fun i hi e => by have := h6.pure.size; omega⟩
          clear hc7 ht7 h6
          have hll2 := RLeft_own h7
          rw [HT4.out] at hll2
          have HLL2 := Lib.hid hll2; clear hll2
          go_wp2_with (first | (go_at_call 19; refine (Num_any _ _).mono ?_; rintro e w9 ⟨rfl, rfl⟩) | (go_at_call 42; refine HLL2.out.mono ?_; rintro e w9 ⟨rfl, rfl⟩))
          exact ⟨⟨k + 1, by omega, by omega, by go_num, h7.pure⟩, by simp [intOf]; omega⟩
    · by_cases hl1 : k < 40
      · have hl2 : ¬ k < X.length := fun h => hlt ⟨hl1, h⟩
        clear hlt
        go_wp2
        go_ret
        exact ⟨rfl, ht⟩
      · clear hlt
        by_cases hl2 : k < X.length
        · go_wp2
          go_ret
          exact ⟨rfl, ht⟩
        · go_wp2
          go_ret
          exact ⟨rfl, ht⟩
set_option maxRecDepth 100000 in
set_option maxHeartbeats 4000000 in
theorem WireCuts_4 (s : List UInt8) (y : Int) (w : World) (hs : s.length ≤ 140737488351232) (hy : wrap64 ((IntKind.u64.wrap y).tmod 3) = 2) :
    Calls Try.prog 10 #[.string (bstr s), .int .i64 y] w fun e w' => e = .returned (.bool true) ∧ Pure w w' := by
  have hz := bstr_size s
  have hand := and255 s.length (by omega)
  have hL : s.length % 256 < 256 := Nat.mod_lt _ (by omega)
  obtain ⟨L, hLe⟩ : ∃ L, L = s.length % 256 := ⟨_, rfl⟩
  rw [← hLe] at hand hL
  have HLE := Lib.hid hLe; clear hLe
  have hzb := bstr_size (beB L 4)
  rw [beB_length] at hzb
  have happ := bstr_app (beB L 4) s
  have hX : (bstr (beB L 4 ++ s)).size = (beB L 4 ++ s).length := bstr_size _
  have hXl : (beB L 4 ++ s).length ≤ 150737488351232 := by simp [beB_length]; omega
  have hct := fun k (hk : k < 4 + L) => cut_text s 4 L k (by omega) hL hk
  generalize beB L 4 ++ s = X at happ hX hXl hct
  have HCT := Lib.hid hct; clear hct
  go_enter Try.func10, Try.ntmps10
  go_wp2_with fail
  refine (awake3_any w).mono ?_
  rintro e w1 ⟨rfl, ht1⟩
  go_wp2_with fail
  refine (Be_any L 4 _ (by omega) (by omega)).mono ?_
  rintro e w2 ⟨rfl, ht2⟩
  have ht := (ht1.alloc (.cells #[.int .i64 1, .int .i64 2, .int .i64 4] 3)).pure ht2
  clear ht1 ht2 hy
  go_wp2_with fail
  clear happ hzb
  go_loopw [7] (fun i wr => ∃ k : Nat, k ≤ 40 ∧ k ≤ X.length ∧ i = .int .i64 k ∧ Pure w wr) (fun i _ => 40 - (intOf i).toNat)
  case atStart => exact ⟨0, by omega, by omega, rfl, ht⟩
  case round =>
    clear ht
    obtain ⟨k, hk, hkX, rfl, ht⟩ := hrel
    by_cases hlt : k < 40 ∧ k < X.length
    · obtain ⟨hl1, hl2⟩ := hlt
      have ex1 := str_take X k
      have hl3 : (X.take k).length = k := by simp; omega
      have HTK := Lib.hid hl3; clear hl3
      by_cases hkl : k < 4 + L
      · have hcase : (k : Int) < 4 + (L : Int) := by omega
        have HC := Lib.hid (HCT.out k hkl)
        clear hkl
        by_cases hm : k ≤ 31
        · have ex2 := str_take X k
          have hl4 : (X.take k).length = k := by simp; omega
          have HT4 := Lib.hid hl4; clear hl4
          have hm' : (k : Int) ≤ 31 := by omega
          have HH := Lib.hid (cut_hash X k (by omega))
          clear hm
          go_wp2_with fail
          refine (Open_own (X.take k) ht (by rw [HTK.out]; omega)).mono ?_
          rintro e w3 ⟨rfl, h1⟩
          go_wp2_with fail
          refine (RText_own _ h1).mono ?_
          rintro e w4 ⟨rfl, h2⟩
          rw [show rdText (X.take k) 4 = ([], 300, X.take k) from HC.out] at h2 ⊢
          clear h1
          have hll := RLeft_own h2
          rw [HTK.out] at hll
          have HLL := Lib.hid hll; clear hll
          go_wp2_with (first | (go_at_call 19; refine (Num_any _ _).mono ?_; rintro e w9 ⟨rfl, rfl⟩) | (go_at_call 42; refine HLL.out.mono ?_; rintro e w9 ⟨rfl, rfl⟩))
          refine (Open_own (X.take k) h2.pure (by rw [HT4.out]; omega)).mono ?_
          rintro e w5 ⟨rfl, h5⟩
          generalize w4.heap.size = g5 at *
          clear h2
          go_wp2_with fail
          refine (RHash_own h5).mono ?_
          rintro e w6 ⟨rfl, h6⟩
          rw [HH.out] at h6 ⊢
          clear h5
          go_wp2_with (refine wpList_store_blk rfl 56 _ _ rfl w6.heap.size _ (u8s (List.replicate 32 0)) _ rfl rfl (heap_alloc_new _ _) rfl (by kernel_rfl) (u8s_one _) ?_)
          intro w7 hc7 ht7 _
          have h7 : OwnR w w7 g5 (X.take k) := ⟨h6.rd.turn (((Turn.refl (fun k => k = w6.heap.size) w6).alloc _).trans ht7 fun _ _ e => e) (by have := h6.rd.lt; omega), h6.new, (h6.pure.alloc _).trans ht7 fun i hi e => by have := h6.pure.size; omega⟩
          clear hc7 ht7 h6
          have hll2 := RLeft_own h7
          rw [HT4.out] at hll2
          have HLL2 := Lib.hid hll2; clear hll2
          go_wp2_with (first | (go_at_call 19; refine (Num_any _ _).mono ?_; rintro e w9 ⟨rfl, rfl⟩) | (go_at_call 42; refine HLL2.out.mono ?_; rintro e w9 ⟨rfl, rfl⟩))
          exact ⟨⟨k + 1, by omega, by omega, by go_num, h7.pure⟩, by simp [intOf]; omega⟩
        · have ex2 := str_take X 31
          have hl4 : (X.take 31).length = 31 := by simp; omega
          have HT4 := Lib.hid hl4; clear hl4
          have hm' : ¬ ((k : Int) ≤ 31) := by omega
          have HH := Lib.hid (cut_hash X 31 (by omega))
          clear hm
          go_wp2_with fail
          refine (Open_own (X.take k) ht (by rw [HTK.out]; omega)).mono ?_
          rintro e w3 ⟨rfl, h1⟩
          go_wp2_with fail
          refine (RText_own _ h1).mono ?_
          rintro e w4 ⟨rfl, h2⟩
          rw [show rdText (X.take k) 4 = ([], 300, X.take k) from HC.out] at h2 ⊢
          clear h1
          have hll := RLeft_own h2
          rw [HTK.out] at hll
          have HLL := Lib.hid hll; clear hll
          go_wp2_with (first | (go_at_call 19; refine (Num_any _ _).mono ?_; rintro e w9 ⟨rfl, rfl⟩) | (go_at_call 42; refine HLL.out.mono ?_; rintro e w9 ⟨rfl, rfl⟩))
          refine (Open_own (X.take 31) h2.pure (by rw [HT4.out]; omega)).mono ?_
          rintro e w5 ⟨rfl, h5⟩
          generalize w4.heap.size = g5 at *
          clear h2
          go_wp2_with fail
          refine (RHash_own h5).mono ?_
          rintro e w6 ⟨rfl, h6⟩
          rw [HH.out] at h6 ⊢
          clear h5
          go_wp2_with (refine wpList_store_blk rfl 56 _ _ rfl w6.heap.size _ (u8s (List.replicate 32 0)) _ rfl rfl (heap_alloc_new _ _) rfl (by kernel_rfl) (u8s_one _) ?_)
          intro w7 hc7 ht7 _
          have h7 : OwnR w w7 g5 (X.take 31) := ⟨h6.rd.turn (((Turn.refl (fun k => k = w6.heap.size) w6).alloc _).trans ht7 fun _ _ e => e) (by have := h6.rd.lt; omega), h6.new, (h6.pure.alloc _).trans ht7 fun i hi e => by have := h6.pure.size; omega⟩
          clear hc7 ht7 h6
          have hll2 := RLeft_own h7
          rw [HT4.out] at hll2
          have HLL2 := Lib.hid hll2; clear hll2
          go_wp2_with (first | (go_at_call 19; refine (Num_any _ _).mono ?_; rintro e w9 ⟨rfl, rfl⟩) | (go_at_call 42; refine HLL2.out.mono ?_; rintro e w9 ⟨rfl, rfl⟩))
          exact ⟨⟨k + 1, by omega, by omega, by go_num, h7.pure⟩, by simp [intOf]; omega⟩
      · have hcase : ¬ ((k : Int) < 4 + (L : Int)) := by omega
        clear hkl
        by_cases hm : k ≤ 31
        · have ex2 := str_take X k
          have hl4 : (X.take k).length = k := by simp; omega
          have HT4 := Lib.hid hl4; clear hl4
          have hm' : (k : Int) ≤ 31 := by omega
          have HH := Lib.hid (cut_hash X k (by omega))
          clear hm
          go_wp2_with fail
          refine (Open_own (X.take k) ht (by rw [HTK.out]; omega)).mono ?_
          rintro e w3 ⟨rfl, h1⟩
          go_wp2_with fail
          refine (RText_own _ h1).mono ?_
          rintro e w4 ⟨rfl, h2⟩
          generalize rdText (X.take k) 4 = R at h2 ⊢
          clear h1
          have hll := RLeft_own h2
          have HLL := Lib.hid hll; clear hll
          go_wp2_with (first | (go_at_call 19; refine (Num_any _ _).mono ?_; rintro e w9 ⟨rfl, rfl⟩) | (go_at_call 42; refine HLL.out.mono ?_; rintro e w9 ⟨rfl, rfl⟩))
          refine (Open_own (X.take k) h2.pure (by rw [HT4.out]; omega)).mono ?_
          rintro e w5 ⟨rfl, h5⟩
          generalize w4.heap.size = g5 at *
          clear h2
          go_wp2_with fail
          refine (RHash_own h5).mono ?_
          rintro e w6 ⟨rfl, h6⟩
          rw [HH.out] at h6 ⊢
          clear h5
          go_wp2_with (refine wpList_store_blk rfl 56 _ _ rfl w6.heap.size _ (u8s (List.replicate 32 0)) _ rfl rfl (heap_alloc_new _ _) rfl (by kernel_rfl) (u8s_one _) ?_)
          intro w7 hc7 ht7 _
          have h7 : OwnR w w7 g5 (X.take k) := ⟨h6.rd.turn (((Turn.refl (fun k => k = w6.heap.size) w6).alloc _).trans ht7 fun _ _ e => e) (by have := h6.rd.lt; omega), h6.new, (h6.pure.alloc _).trans ht7 fun i hi e => by have := h6.pure.size; omega⟩
          clear hc7 ht7 h6
          have hll2 := RLeft_own h7
          rw [HT4.out] at hll2
          have HLL2 := Lib.hid hll2; clear hll2
          go_wp2_with (first | (go_at_call 19; refine (Num_any _ _).mono ?_; rintro e w9 ⟨rfl, rfl⟩) | (go_at_call 42; refine HLL2.out.mono ?_; rintro e w9 ⟨rfl, rfl⟩))
          exact ⟨⟨k + 1, by omega, by omega, by go_num, h7.pure⟩, by simp [intOf]; omega⟩
        · have ex2 := str_take X 31
          have hl4 : (X.take 31).length = 31 := by simp; omega
          have HT4 := Lib.hid hl4; clear hl4
          have hm' : ¬ ((k : Int) ≤ 31) := by omega
          have HH := Lib.hid (cut_hash X 31 (by omega))
          clear hm
          go_wp2_with fail
          refine (Open_own (X.take k) ht (by rw [HTK.out]; omega)).mono ?_
          rintro e w3 ⟨rfl, h1⟩
          go_wp2_with fail
          refine (RText_own _ h1).mono ?_
          rintro e w4 ⟨rfl, h2⟩
          generalize rdText (X.take k) 4 = R at h2 ⊢
          clear h1
          have hll := RLeft_own h2
          have HLL := Lib.hid hll; clear hll
          go_wp2_with (first | (go_at_call 19; refine (Num_any _ _).mono ?_; rintro e w9 ⟨rfl, rfl⟩) | (go_at_call 42; refine HLL.out.mono ?_; rintro e w9 ⟨rfl, rfl⟩))
          refine (Open_own (X.take 31) h2.pure (by rw [HT4.out]; omega)).mono ?_
          rintro e w5 ⟨rfl, h5⟩
          generalize w4.heap.size = g5 at *
          clear h2
          go_wp2_with fail
          refine (RHash_own h5).mono ?_
          rintro e w6 ⟨rfl, h6⟩
          rw [HH.out] at h6 ⊢
          clear h5
          go_wp2_with (refine wpList_store_blk rfl 56 _ _ rfl w6.heap.size _ (u8s (List.replicate 32 0)) _ rfl rfl (heap_alloc_new _ _) rfl (by kernel_rfl) (u8s_one _) ?_)
          intro w7 hc7 ht7 _
          have h7 : OwnR w w7 g5 (X.take 31) := ⟨h6.rd.turn (((Turn.refl (fun k => k = w6.heap.size) w6).alloc _).trans ht7 fun _ _ e => e) (by have := h6.rd.lt; omega), h6.new, (h6.pure.alloc _).trans ht7 fun i hi e => by have := h6.pure.size; omega⟩
          clear hc7 ht7 h6
          have hll2 := RLeft_own h7
          rw [HT4.out] at hll2
          have HLL2 := Lib.hid hll2; clear hll2
          go_wp2_with (first | (go_at_call 19; refine (Num_any _ _).mono ?_; rintro e w9 ⟨rfl, rfl⟩) | (go_at_call 42; refine HLL2.out.mono ?_; rintro e w9 ⟨rfl, rfl⟩))
          exact ⟨⟨k + 1, by omega, by omega, by go_num, h7.pure⟩, by simp [intOf]; omega⟩
    · by_cases hl1 : k < 40
      · have hl2 : ¬ k < X.length := fun h => hlt ⟨hl1, h⟩
        clear hlt
        go_wp2
        go_ret
        exact ⟨rfl, ht⟩
      · clear hlt
        by_cases hl2 : k < X.length
        · go_wp2
          go_ret
          exact ⟨rfl, ht⟩
        · go_wp2
          go_ret
          exact ⟨rfl, ht⟩

theorem WireCuts_any (s : List UInt8) (y : Int) (w : World) (hs : s.length ≤ 140737488351232) :
    Calls Try.prog 10 #[.string (bstr s), .int .i64 y] w fun e w' => e = .returned (.bool true) ∧ Pure w w' := by
  have h0 : 0 ≤ IntKind.u64.wrap y := by rw [IntKind.wrap_u64]; omega
  have h1 : (IntKind.u64.wrap y).tmod 3 = (IntKind.u64.wrap y) % 3 := Int.tmod_eq_emod_of_nonneg h0
  have h2 : (IntKind.u64.wrap y) % 3 = 0 ∨ (IntKind.u64.wrap y) % 3 = 1 ∨ (IntKind.u64.wrap y) % 3 = 2 := by omega
  rcases h2 with h | h | h
  · exact WireCuts_1 s y w hs (by rw [h1, h]; simp [wrap64])
  · exact WireCuts_2 s y w hs (by rw [h1, h]; simp [wrap64])
  · exact WireCuts_4 s y w hs (by rw [h1, h]; simp [wrap64])
end Go.Proofs.Ytjingpkgappblaa
