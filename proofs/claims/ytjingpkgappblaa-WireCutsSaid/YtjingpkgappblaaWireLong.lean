/- The law WireLong, walked. -/
import Derived.Test.YtjingpkgappblaaAwake3
namespace Go.Proofs.Ytjingpkgappblaa
open Go.RowKit

theorem wrText_fit (bs t : List UInt8) (s : Nat) (hs : s = 1 ∨ s = 2 ∨ s = 4) (ht : t.length < 256 ^ s) :
    wrText bs t s = wrPut bs (beB t.length s ++ t) := by
  have hf : fitsB t.length s = true := by
    rcases hs with rfl | rfl | rfl <;> simp [fitsB, sizedB] <;> omega
  rw [wrText, if_pos hf, Int.toNat_natCast]
theorem wrPut_ok (bs q : List UInt8) (h : bs.length + q.length ≤ 65536) : wrPut bs q = (0, bs ++ q) := by rw [wrPut, if_pos h]
theorem wrPut_no (bs q : List UInt8) (h : ¬ bs.length + q.length ≤ 65536) : wrPut bs q = (302, bs) := by rw [wrPut, if_neg h]

theorem str_zeros (w : World) (n : Nat) :
    (convert 43 9 (.slice (some ⟨w.heap.size, 0, none⟩) n n)).run Try.prog (w.alloc (.cells (u8s (List.replicate n 0)).toArray 5)) =
      .ok (.string (bstr (List.replicate n 0))) (w.alloc (.cells (u8s (List.replicate n 0)).toArray 5)) :=
  conv_block (P := Try.prog) _ _ 5 _ 5 (0, 0) Try.underlying43 Try.underlying5 Try.underlying9 w.heap.size n (List.replicate n 0) n (by simp) (heap_alloc_new _ _)

theorem i64_and127_nat (x : Int) : ∃ k : Nat, bits .and .i64 x 127 = (k : Int) ∧ k < 128 := by
  rw [i64_and127]
  exact ⟨(x % 128).toNat, by omega, by omega⟩

set_option maxRecDepth 100000 in
set_option maxHeartbeats 2000000 in
theorem WireLong_11 (x y : Int) (k m : Nat) (w : World) (hk : bits .and .i64 x 127 = (k : Int)) (hm : bits .and .i64 y 127 = (m : Int)) (hk1 : k < 128) (hm1 : m < 128) (hf : 4 ≤ k) (ha : m + 1 ≤ k - 4) :
    Calls Try.prog 6 #[.int .i64 x, .int .i64 y] w fun e w' => e = .returned (.bool true) ∧ Pure w w' := by
  obtain ⟨n, hn⟩ : ∃ n : Nat, n + k = 65532 := ⟨65532 - k, by omega⟩
  have hnk : (65532 : Int) - k = n := by omega
  have hl0 : (List.replicate n (0 : UInt8)).length = n := by simp
  have c1 : wrText [] (List.replicate n 0) 4 = (0, beB n 4 ++ List.replicate n 0) := by
    have := wrText_fit [] (List.replicate n 0) 4 (by omega) (by simp; omega)
    rw [hl0] at this
    refine this.trans ?_
    rw [wrPut_ok _ _ (by simp [beB_length]; omega)]
    simp
  have hb1 : (beB n 4 ++ List.replicate n (0 : UInt8)).length = 65536 - k := by simp [beB_length]; omega
  generalize beB n 4 ++ List.replicate n (0 : UInt8) = bs1 at c1 hb1
  have c2 : wrNum bs1 1 4 = (0, bs1 ++ beB 1 4) := by
    rw [wrNum, if_pos (by decide)]
    exact wrPut_ok _ _ (by simp [beB_length]; omega)
  obtain ⟨bs2, hbs2⟩ : ∃ bs2, bs2 = (wrNum bs1 1 4).2 := ⟨_, rfl⟩
  have hb2 : bs2.length = 65536 - (k - 4) := by rw [hbs2, c2]; simp [beB_length]; omega
  have c2' : wrNum bs1 1 4 = (0, bs2) := by rw [hbs2, c2]
  clear c2 hbs2
  have hl2 : (List.replicate m (0 : UInt8)).length = m := by simp
  have c3 : wrText bs2 (List.replicate m 0) 1 = (0, bs2 ++ (beB m 1 ++ List.replicate m 0)) := by
    have := wrText_fit bs2 (List.replicate m 0) 1 (by omega) (by simp; omega)
    rw [hl2] at this
    refine this.trans ?_
    exact wrPut_ok _ _ (by simp [beB_length]; omega)
  obtain ⟨bs3, hbs3⟩ : ∃ bs3, bs3 = (wrText bs2 (List.replicate m 0) 1).2 := ⟨_, rfl⟩
  have hb3 : (bstr bs3).size = 65536 - (k - 4 - m - 1) := by rw [bstr_size, hbs3, c3]; simp [beB_length]; omega
  have c3' : wrText bs2 (List.replicate m 0) 1 = (0, bs3) := by rw [hbs3, c3]
  clear c3 hbs3
  have C1 := Lib.hid c1; clear c1
  have C2 := Lib.hid c2'; clear c2'
  have C3 := Lib.hid c3'; clear c3'
  have HL0 := Lib.hid hl0; clear hl0
  have HL2 := Lib.hid hl2; clear hl2
  have hB : (((bstr bs3).size : Int) == 65536 - ((k : Int) - 4 - m - 1)) = true := by simp; omega
  clear hb3
  have HN := Lib.hid hn; clear hn
  have hn1 : n ≤ 65532 := by have := HN.out; omega
  clear hb1 hb2
  have hfi : decide ((4 : Int) ≤ k) = true := by simp; omega
  have hai : decide ((m : Int) + 1 ≤ (k : Int) - 4) = true := by simp; omega
  clear hf ha
  go_enter Try.func6, Try.ntmps6
  go_wp2_with fail
  refine (awake3_any w).mono ?_
  rintro e w1 ⟨rfl, ht1⟩
  go_wp2_with fail
  refine (New_own ht1).mono ?_
  rintro e w2 ⟨rfl, h1⟩
  generalize w1.heap.size = g at *
  have mk1 := make_u8 w2 n (by omega)
  have cv1 := str_zeros w2 n
  go_wp2_with fail
  clear mk1 cv1
  refine (WText_own (List.replicate n 0) _ (h1.next ((Turn.refl _ _).alloc _)) (by rw [HL0.out]; omega)).mono ?_
  rintro e w3 ⟨rfl, h2⟩
  rw [C1.out] at h2 ⊢
  go_wp2_with fail
  refine (WNum_own _ _ h2).mono ?_
  rintro e w4 ⟨rfl, h3⟩
  rw [C2.out] at h3 ⊢
  have mk2 := make_u8 w4 m (by omega)
  have cv2 := str_zeros w4 m
  clear h1 h2 hnk
  go_wp2_with fail
  clear mk2 cv2
  refine (WText_own (List.replicate m 0) _ (h3.next ((Turn.refl _ _).alloc _)) (by rw [HL2.out]; omega)).mono ?_
  rintro e w5 ⟨rfl, h4⟩
  rw [C3.out] at h4 ⊢
  clear h3
  go_wp2_with (first | (go_at_call 19; refine (Num_any _ _).mono ?_; rintro e w9 ⟨rfl, rfl⟩) | (go_at_call 29; refine (WAll_own h4).mono ?_; rintro e w9 ⟨rfl, rfl⟩))
  go_ret
  exact ⟨rfl, h4.pure⟩

set_option maxRecDepth 100000 in
set_option maxHeartbeats 2000000 in
theorem WireLong_10 (x y : Int) (k m : Nat) (w : World) (hk : bits .and .i64 x 127 = (k : Int)) (hm : bits .and .i64 y 127 = (m : Int)) (hk1 : k < 128) (hm1 : m < 128) (hf : 4 ≤ k) (ha : k - 4 < m + 1) :
    Calls Try.prog 6 #[.int .i64 x, .int .i64 y] w fun e w' => e = .returned (.bool true) ∧ Pure w w' := by
  obtain ⟨n, hn⟩ : ∃ n : Nat, n + k = 65532 := ⟨65532 - k, by omega⟩
  have hnk : (65532 : Int) - k = n := by omega
  have hl0 : (List.replicate n (0 : UInt8)).length = n := by simp
  have c1 : wrText [] (List.replicate n 0) 4 = (0, beB n 4 ++ List.replicate n 0) := by
    have := wrText_fit [] (List.replicate n 0) 4 (by omega) (by simp; omega)
    rw [hl0] at this
    refine this.trans ?_
    rw [wrPut_ok _ _ (by simp [beB_length]; omega)]
    simp
  have hb1 : (beB n 4 ++ List.replicate n (0 : UInt8)).length = 65536 - k := by simp [beB_length]; omega
  generalize beB n 4 ++ List.replicate n (0 : UInt8) = bs1 at c1 hb1
  have c2 : wrNum bs1 1 4 = (0, bs1 ++ beB 1 4) := by
    rw [wrNum, if_pos (by decide)]
    exact wrPut_ok _ _ (by simp [beB_length]; omega)
  obtain ⟨bs2, hbs2⟩ : ∃ bs2, bs2 = (wrNum bs1 1 4).2 := ⟨_, rfl⟩
  have hb2 : bs2.length = 65536 - (k - 4) := by rw [hbs2, c2]; simp [beB_length]; omega
  have c2' : wrNum bs1 1 4 = (0, bs2) := by rw [hbs2, c2]
  clear c2 hbs2
  have hl2 : (List.replicate m (0 : UInt8)).length = m := by simp
  have c3 : wrText bs2 (List.replicate m 0) 1 = (302, bs2) := by
    have := wrText_fit bs2 (List.replicate m 0) 1 (by omega) (by simp; omega)
    rw [hl2] at this
    refine this.trans ?_
    exact wrPut_no _ _ (by simp [beB_length]; omega)
  obtain ⟨bs3, hbs3⟩ : ∃ bs3, bs3 = (wrText bs2 (List.replicate m 0) 1).2 := ⟨_, rfl⟩
  have hb3 : (bstr bs3).size = 65536 - (k - 4) := by rw [bstr_size, hbs3, c3]; simp; omega
  have c3' : wrText bs2 (List.replicate m 0) 1 = (302, bs3) := by rw [hbs3, c3]
  clear c3 hbs3
  have C1 := Lib.hid c1; clear c1
  have C2 := Lib.hid c2'; clear c2'
  have C3 := Lib.hid c3'; clear c3'
  have HL0 := Lib.hid hl0; clear hl0
  have HL2 := Lib.hid hl2; clear hl2
  have hB : (((bstr bs3).size : Int) == 65536 - ((k : Int) - 4)) = true := by simp; omega
  clear hb3
  have HN := Lib.hid hn; clear hn
  have hn1 : n ≤ 65532 := by have := HN.out; omega
  clear hb1 hb2
  have hfi : decide ((4 : Int) ≤ k) = true := by simp; omega
  have hai : decide ((m : Int) + 1 ≤ (k : Int) - 4) = false := by simp; omega
  clear hf ha
  go_enter Try.func6, Try.ntmps6
  go_wp2_with fail
  refine (awake3_any w).mono ?_
  rintro e w1 ⟨rfl, ht1⟩
  go_wp2_with fail
  refine (New_own ht1).mono ?_
  rintro e w2 ⟨rfl, h1⟩
  generalize w1.heap.size = g at *
  have mk1 := make_u8 w2 n (by omega)
  have cv1 := str_zeros w2 n
  go_wp2_with fail
  clear mk1 cv1
  refine (WText_own (List.replicate n 0) _ (h1.next ((Turn.refl _ _).alloc _)) (by rw [HL0.out]; omega)).mono ?_
  rintro e w3 ⟨rfl, h2⟩
  rw [C1.out] at h2 ⊢
  go_wp2_with fail
  refine (WNum_own _ _ h2).mono ?_
  rintro e w4 ⟨rfl, h3⟩
  rw [C2.out] at h3 ⊢
  have mk2 := make_u8 w4 m (by omega)
  have cv2 := str_zeros w4 m
  clear h1 h2 hnk
  go_wp2_with fail
  clear mk2 cv2
  refine (WText_own (List.replicate m 0) _ (h3.next ((Turn.refl _ _).alloc _)) (by rw [HL2.out]; omega)).mono ?_
  rintro e w5 ⟨rfl, h4⟩
  rw [C3.out] at h4 ⊢
  clear h3
  go_wp2_with (first | (go_at_call 19; refine (Num_any _ _).mono ?_; rintro e w9 ⟨rfl, rfl⟩) | (go_at_call 29; refine (WAll_own h4).mono ?_; rintro e w9 ⟨rfl, rfl⟩))
  go_ret
  exact ⟨rfl, h4.pure⟩

set_option maxRecDepth 100000 in
set_option maxHeartbeats 2000000 in
theorem WireLong_01 (x y : Int) (k m : Nat) (w : World) (hk : bits .and .i64 x 127 = (k : Int)) (hm : bits .and .i64 y 127 = (m : Int)) (hk1 : k < 128) (hm1 : m < 128) (hf : k < 4) (ha : m + 1 ≤ k) :
    Calls Try.prog 6 #[.int .i64 x, .int .i64 y] w fun e w' => e = .returned (.bool true) ∧ Pure w w' := by
  obtain ⟨n, hn⟩ : ∃ n : Nat, n + k = 65532 := ⟨65532 - k, by omega⟩
  have hnk : (65532 : Int) - k = n := by omega
  have hl0 : (List.replicate n (0 : UInt8)).length = n := by simp
  have c1 : wrText [] (List.replicate n 0) 4 = (0, beB n 4 ++ List.replicate n 0) := by
    have := wrText_fit [] (List.replicate n 0) 4 (by omega) (by simp; omega)
    rw [hl0] at this
    refine this.trans ?_
    rw [wrPut_ok _ _ (by simp [beB_length]; omega)]
    simp
  have hb1 : (beB n 4 ++ List.replicate n (0 : UInt8)).length = 65536 - k := by simp [beB_length]; omega
  generalize beB n 4 ++ List.replicate n (0 : UInt8) = bs1 at c1 hb1
  have c2 : wrNum bs1 1 4 = (302, bs1) := by
    rw [wrNum, if_pos (by decide)]
    exact wrPut_no _ _ (by simp [beB_length]; omega)
  obtain ⟨bs2, hbs2⟩ : ∃ bs2, bs2 = (wrNum bs1 1 4).2 := ⟨_, rfl⟩
  have hb2 : bs2.length = 65536 - k := by rw [hbs2, c2]; simp; omega
  have c2' : wrNum bs1 1 4 = (302, bs2) := by rw [hbs2, c2]
  clear c2 hbs2
  have hl2 : (List.replicate m (0 : UInt8)).length = m := by simp
  have c3 : wrText bs2 (List.replicate m 0) 1 = (0, bs2 ++ (beB m 1 ++ List.replicate m 0)) := by
    have := wrText_fit bs2 (List.replicate m 0) 1 (by omega) (by simp; omega)
    rw [hl2] at this
    refine this.trans ?_
    exact wrPut_ok _ _ (by simp [beB_length]; omega)
  obtain ⟨bs3, hbs3⟩ : ∃ bs3, bs3 = (wrText bs2 (List.replicate m 0) 1).2 := ⟨_, rfl⟩
  have hb3 : (bstr bs3).size = 65536 - (k - m - 1) := by rw [bstr_size, hbs3, c3]; simp [beB_length]; omega
  have c3' : wrText bs2 (List.replicate m 0) 1 = (0, bs3) := by rw [hbs3, c3]
  clear c3 hbs3
  have C1 := Lib.hid c1; clear c1
  have C2 := Lib.hid c2'; clear c2'
  have C3 := Lib.hid c3'; clear c3'
  have HL0 := Lib.hid hl0; clear hl0
  have HL2 := Lib.hid hl2; clear hl2
  have hB : (((bstr bs3).size : Int) == 65536 - ((k : Int) - m - 1)) = true := by simp; omega
  clear hb3
  have HN := Lib.hid hn; clear hn
  have hn1 : n ≤ 65532 := by have := HN.out; omega
  clear hb1 hb2
  have hfi : decide ((4 : Int) ≤ k) = false := by simp; omega
  have hai : decide ((m : Int) + 1 ≤ (k : Int)) = true := by simp; omega
  clear hf ha
  go_enter Try.func6, Try.ntmps6
  go_wp2_with fail
  refine (awake3_any w).mono ?_
  rintro e w1 ⟨rfl, ht1⟩
  go_wp2_with fail
  refine (New_own ht1).mono ?_
  rintro e w2 ⟨rfl, h1⟩
  generalize w1.heap.size = g at *
  have mk1 := make_u8 w2 n (by omega)
  have cv1 := str_zeros w2 n
  go_wp2_with fail
  clear mk1 cv1
  refine (WText_own (List.replicate n 0) _ (h1.next ((Turn.refl _ _).alloc _)) (by rw [HL0.out]; omega)).mono ?_
  rintro e w3 ⟨rfl, h2⟩
  rw [C1.out] at h2 ⊢
  go_wp2_with fail
  refine (WNum_own _ _ h2).mono ?_
  rintro e w4 ⟨rfl, h3⟩
  rw [C2.out] at h3 ⊢
  have mk2 := make_u8 w4 m (by omega)
  have cv2 := str_zeros w4 m
  clear h1 h2 hnk
  go_wp2_with fail
  clear mk2 cv2
  refine (WText_own (List.replicate m 0) _ (h3.next ((Turn.refl _ _).alloc _)) (by rw [HL2.out]; omega)).mono ?_
  rintro e w5 ⟨rfl, h4⟩
  rw [C3.out] at h4 ⊢
  clear h3
  go_wp2_with (first | (go_at_call 19; refine (Num_any _ _).mono ?_; rintro e w9 ⟨rfl, rfl⟩) | (go_at_call 29; refine (WAll_own h4).mono ?_; rintro e w9 ⟨rfl, rfl⟩))
  go_ret
  exact ⟨rfl, h4.pure⟩

set_option maxRecDepth 100000 in
set_option maxHeartbeats 2000000 in
theorem WireLong_00 (x y : Int) (k m : Nat) (w : World) (hk : bits .and .i64 x 127 = (k : Int)) (hm : bits .and .i64 y 127 = (m : Int)) (hk1 : k < 128) (hm1 : m < 128) (hf : k < 4) (ha : k < m + 1) :
    Calls Try.prog 6 #[.int .i64 x, .int .i64 y] w fun e w' => e = .returned (.bool true) ∧ Pure w w' := by
  obtain ⟨n, hn⟩ : ∃ n : Nat, n + k = 65532 := ⟨65532 - k, by omega⟩
  have hnk : (65532 : Int) - k = n := by omega
  have hl0 : (List.replicate n (0 : UInt8)).length = n := by simp
  have c1 : wrText [] (List.replicate n 0) 4 = (0, beB n 4 ++ List.replicate n 0) := by
    have := wrText_fit [] (List.replicate n 0) 4 (by omega) (by simp; omega)
    rw [hl0] at this
    refine this.trans ?_
    rw [wrPut_ok _ _ (by simp [beB_length]; omega)]
    simp
  have hb1 : (beB n 4 ++ List.replicate n (0 : UInt8)).length = 65536 - k := by simp [beB_length]; omega
  generalize beB n 4 ++ List.replicate n (0 : UInt8) = bs1 at c1 hb1
  have c2 : wrNum bs1 1 4 = (302, bs1) := by
    rw [wrNum, if_pos (by decide)]
    exact wrPut_no _ _ (by simp [beB_length]; omega)
  obtain ⟨bs2, hbs2⟩ : ∃ bs2, bs2 = (wrNum bs1 1 4).2 := ⟨_, rfl⟩
  have hb2 : bs2.length = 65536 - k := by rw [hbs2, c2]; simp; omega
  have c2' : wrNum bs1 1 4 = (302, bs2) := by rw [hbs2, c2]
  clear c2 hbs2
  have hl2 : (List.replicate m (0 : UInt8)).length = m := by simp
  have c3 : wrText bs2 (List.replicate m 0) 1 = (302, bs2) := by
    have := wrText_fit bs2 (List.replicate m 0) 1 (by omega) (by simp; omega)
    rw [hl2] at this
    refine this.trans ?_
    exact wrPut_no _ _ (by simp [beB_length]; omega)
  obtain ⟨bs3, hbs3⟩ : ∃ bs3, bs3 = (wrText bs2 (List.replicate m 0) 1).2 := ⟨_, rfl⟩
  have hb3 : (bstr bs3).size = 65536 - k := by rw [bstr_size, hbs3, c3]; simp; omega
  have c3' : wrText bs2 (List.replicate m 0) 1 = (302, bs3) := by rw [hbs3, c3]
  clear c3 hbs3
  have C1 := Lib.hid c1; clear c1
  have C2 := Lib.hid c2'; clear c2'
  have C3 := Lib.hid c3'; clear c3'
  have HL0 := Lib.hid hl0; clear hl0
  have HL2 := Lib.hid hl2; clear hl2
  have hB : (((bstr bs3).size : Int) == 65536 - ((k : Int))) = true := by simp; omega
  clear hb3
  have HN := Lib.hid hn; clear hn
  have hn1 : n ≤ 65532 := by have := HN.out; omega
  clear hb1 hb2
  have hfi : decide ((4 : Int) ≤ k) = false := by simp; omega
  have hai : decide ((m : Int) + 1 ≤ (k : Int)) = false := by simp; omega
  clear hf ha
  go_enter Try.func6, Try.ntmps6
  go_wp2_with fail
  refine (awake3_any w).mono ?_
  rintro e w1 ⟨rfl, ht1⟩
  go_wp2_with fail
  refine (New_own ht1).mono ?_
  rintro e w2 ⟨rfl, h1⟩
  generalize w1.heap.size = g at *
  have mk1 := make_u8 w2 n (by omega)
  have cv1 := str_zeros w2 n
  go_wp2_with fail
  clear mk1 cv1
  refine (WText_own (List.replicate n 0) _ (h1.next ((Turn.refl _ _).alloc _)) (by rw [HL0.out]; omega)).mono ?_
  rintro e w3 ⟨rfl, h2⟩
  rw [C1.out] at h2 ⊢
  go_wp2_with fail
  refine (WNum_own _ _ h2).mono ?_
  rintro e w4 ⟨rfl, h3⟩
  rw [C2.out] at h3 ⊢
  have mk2 := make_u8 w4 m (by omega)
  have cv2 := str_zeros w4 m
  clear h1 h2 hnk
  go_wp2_with fail
  clear mk2 cv2
  refine (WText_own (List.replicate m 0) _ (h3.next ((Turn.refl _ _).alloc _)) (by rw [HL2.out]; omega)).mono ?_
  rintro e w5 ⟨rfl, h4⟩
  rw [C3.out] at h4 ⊢
  clear h3
  go_wp2_with (first | (go_at_call 19; refine (Num_any _ _).mono ?_; rintro e w9 ⟨rfl, rfl⟩) | (go_at_call 29; refine (WAll_own h4).mono ?_; rintro e w9 ⟨rfl, rfl⟩))
  go_ret
  exact ⟨rfl, h4.pure⟩


theorem WireLong_any (x y : Int) (w : World) :
    Calls Try.prog 6 #[.int .i64 x, .int .i64 y] w fun e w' => e = .returned (.bool true) ∧ Pure w w' := by
  obtain ⟨k, hk, hk1⟩ := i64_and127_nat x
  obtain ⟨m, hm, hm1⟩ := i64_and127_nat y
  by_cases hf : 4 ≤ k
  · by_cases ha : m + 1 ≤ k - 4
    · exact WireLong_11 x y k m w hk hm hk1 hm1 hf ha
    · exact WireLong_10 x y k m w hk hm hk1 hm1 hf (by omega)
  · by_cases ha : m + 1 ≤ k
    · exact WireLong_01 x y k m w hk hm hk1 hm1 (by omega) ha
    · exact WireLong_00 x y k m w hk hm hk1 hm1 (by omega) (by omega)
end Go.Proofs.Ytjingpkgappblaa
