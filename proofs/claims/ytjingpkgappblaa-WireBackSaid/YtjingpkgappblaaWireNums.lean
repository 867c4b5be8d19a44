/- The law WireNums, walked. -/
import Derived.Test.YtjingpkgappblaaAwake3
namespace Go.Proofs.Ytjingpkgappblaa
open Go.RowKit

theorem foldl_numB : ∀ (l : List UInt8) (x : Nat), l.foldl (fun x b => x * 256 + b.toNat) x = x * 256 ^ l.length + numB l
  | [], x => by simp [numB]
  | b :: l, x => by
    have h1 := foldl_numB l (x * 256 + b.toNat)
    have h2 := foldl_numB l (0 * 256 + b.toNat)
    rw [numB, List.foldl_cons, List.foldl_cons, h1, h2, List.length_cons, Nat.pow_succ]
    simp only [Nat.zero_mul, Nat.zero_add, Nat.add_mul]
    rw [Nat.mul_comm (256 ^ l.length) 256, ← Nat.mul_assoc]
    omega
theorem numB_beB_mod (x n : Nat) : numB (beB x n) = x % 256 ^ n := by
  induction n with
  | zero => simp [numB, beB, Nat.mod_one]
  | succ n ih =>
    have h := foldl_numB (beB x n) (0 * 256 + (UInt8.ofNat (x >>> (8 * n))).toNat)
    rw [beB, numB, List.foldl_cons, h, ih, beB_length, UInt8.toNat_ofNat', Nat.shiftRight_eq_div_pow]
    have e : 2 ^ (8 * n) = 256 ^ n := by rw [Nat.pow_mul]
    rw [e, Nat.zero_mul, Nat.zero_add]
    have hm : x % (256 ^ n * 256) = x % 256 ^ n + 256 ^ n * (x / 256 ^ n % 256) := Nat.mod_mul
    rw [show 256 ^ (n + 1) = 256 ^ n * 256 from Nat.pow_succ .., hm, Nat.mul_comm (256 ^ n), Nat.add_comm]
theorem numB_beB (x n : Nat) (h : x < 256 ^ n) : numB (beB x n) = x := by rw [numB_beB_mod, Nat.mod_eq_of_lt h]
theorem rdNum_beB (x n : Nat) (r : List UInt8) (hn : n = 1 ∨ n = 2 ∨ n = 4) (h : x < 256 ^ n) : rdNum (beB x n ++ r) n = ((x : Int), 0, r) := by
  have hs : sizedB n = true := by rcases hn with rfl | rfl | rfl <;> rfl
  rw [rdNum, if_pos hs, Int.toNat_natCast, if_pos (by simp [beB_length])]
  have e1 : (beB x n ++ r).take n = beB x n := by rw [List.take_append_of_le_length (by rw [beB_length]; exact Nat.le_refl _), List.take_of_length_le (by rw [beB_length]; exact Nat.le_refl _)]
  have e2 : (beB x n ++ r).drop n = r := by rw [List.drop_append_of_le_length (by rw [beB_length]; exact Nat.le_refl _), List.drop_of_length_le (by rw [beB_length]; exact Nat.le_refl _)]; rfl
  rw [e1, e2, numB_beB x n h]
theorem beB_last (x n : Nat) : (beB x (n + 1)).getD n 0 = UInt8.ofNat x := by
  have := beB_get x (n + 1) n (by omega)
  rw [List.getD, this]
  simp

set_option maxRecDepth 100000 in
set_option maxHeartbeats 2000000 in
theorem WireNums_any (x : Int) (w : World) (hx : -9223372036854775808 ≤ x ∧ x < 9223372036854775808) :
    Calls Try.prog 7 #[.int .i64 x] w fun e w' => e = .returned (.bool true) ∧ Pure w w' := by
  go_enter Try.func7, Try.ntmps7
  go_wp2_with fail
  refine (awake3_any w).mono ?_
  rintro e w1 ⟨rfl, ht1⟩
  go_wp2_with fail
  go_loopw [3] (fun i wr => ∃ k : Nat, k ≤ 3 ∧ i = .int .i64 k ∧ Pure w wr) (fun i _ => 3 - (intOf i).toNat)
  case atStart => exact ⟨0, by omega, rfl, ht1⟩
  case round =>
    clear ht1
    obtain ⟨k, hk, rfl, ht⟩ := hrel
    by_cases hlt : k < 3
    · have hk3 : k = 0 ∨ k = 1 ∨ k = 2 := by omega
      rcases hk3 with rfl | rfl | rfl
      · by_cases hf : fitsB x ((1 : Nat) : Int) = true
        · obtain ⟨a, n, rfl, hn, hn3, ha⟩ := fitsB_nat hf
          obtain rfl : n = 1 := by omega
          have h0 : 0 ≤ (a : Int) := by omega
          have hq : ((a : Int) / 256 == 0) = true := by simp; omega
          have C1 := Lib.hid (show wrNum [] a ((1 : Nat) : Int) = (0, beB a 1) by rw [wrNum, if_pos hf, wrPut, if_pos (by simp [beB_length])]; simp)
          have C2 := Lib.hid (show rdNum (beB a 1) ((1 : Nat) : Int) = ((a : Int), 0, []) by have := rdNum_beB a 1 [] (by omega) ha; simpa using this)
          have hsz : (bstr (beB a 1)).size = 1 := by rw [bstr_size, beB_length]
          have hand := and255 a (by omega)
          have hlast : ∀ h, (wrap64 ((((bstr (beB a 1))[0]'h).toNat : Nat) : Int) != (a : Int) % 256) = false := by
            intro h
            rw [bstr_get, beB_last a 0, wrap_byte, UInt8.toNat_ofNat']
            simp
          have hlen := Lib.hid (beB_length a 1)
          clear hf hn hn3
          go_wp2_with fail
          refine (New_own ht).mono ?_
          rintro e w2 ⟨rfl, h1⟩
          generalize wr.heap.size = g at *
          go_wp2_with fail
          refine (WNum_own _ _ h1).mono ?_
          rintro e w3 ⟨rfl, h2⟩
          rw [show wrNum [] a 1 = (0, beB a 1) from C1.out] at h2 ⊢
          go_wp2_with fail
          refine (Num_any _ _).mono ?_
          rintro e w4 ⟨rfl, rfl⟩
          go_wp2_with fail
          refine (WAll_own h2).mono ?_
          rintro e w4 ⟨rfl, rfl⟩
          clear h1
          go_wp2_with fail
          refine (Open_own (beB a 1) h2.pure (by rw [beB_length]; omega)).mono ?_
          rintro e w5 ⟨rfl, h5⟩
          go_wp2_with fail
          refine (RNum_own _ h5).mono ?_
          rintro e w6 ⟨rfl, h6⟩
          rw [show rdNum (beB a 1) 1 = ((a : Int), 0, []) from C2.out] at h6 ⊢
          go_wp2_with (first | (go_at_call 19; refine (Num_any _ _).mono ?_; rintro e w9 ⟨rfl, rfl⟩))
          exact ⟨⟨1, by omega, rfl, h6.pure⟩, by simp [intOf]⟩
        · have hf' : fitsB x ((1 : Nat) : Int) = false := by simpa using hf
          have hno : (decide (0 ≤ x) && (x / 256 == 0)) = false := by
            simp only [fitsB, sizedB] at hf'
            simp at hf' ⊢
            omega
          have C1 := Lib.hid (show wrNum [] x ((1 : Nat) : Int) = (301, []) by rw [wrNum, hf']; rfl)
          clear hf hf'
          by_cases h0 : 0 ≤ x
          · have hq : (x / 256 == 0) = false := by simpa [h0] using hno
            clear hno
            go_wp2_with fail
            refine (New_own ht).mono ?_
            rintro e w2 ⟨rfl, h1⟩
            generalize wr.heap.size = g at *
            go_wp2_with fail
            refine (WNum_own _ _ h1).mono ?_
            rintro e w3 ⟨rfl, h2⟩
            rw [show wrNum [] x 1 = (301, []) from C1.out] at h2 ⊢
            clear h1
            go_wp2_with (first | (go_at_call 19; refine (Num_any _ _).mono ?_; rintro e w9 ⟨rfl, rfl⟩) | (go_at_call 29; refine (WAll_own h2).mono ?_; rintro e w9 ⟨rfl, rfl⟩))
            exact ⟨⟨1, by omega, rfl, h2.pure⟩, by simp [intOf]⟩
          · clear hno
            go_wp2_with fail
            refine (New_own ht).mono ?_
            rintro e w2 ⟨rfl, h1⟩
            generalize wr.heap.size = g at *
            go_wp2_with fail
            refine (WNum_own _ _ h1).mono ?_
            rintro e w3 ⟨rfl, h2⟩
            rw [show wrNum [] x 1 = (301, []) from C1.out] at h2 ⊢
            clear h1
            go_wp2_with (first | (go_at_call 19; refine (Num_any _ _).mono ?_; rintro e w9 ⟨rfl, rfl⟩) | (go_at_call 29; refine (WAll_own h2).mono ?_; rintro e w9 ⟨rfl, rfl⟩))
            exact ⟨⟨1, by omega, rfl, h2.pure⟩, by simp [intOf]⟩
      · by_cases hf : fitsB x ((2 : Nat) : Int) = true
        · obtain ⟨a, n, rfl, hn, hn3, ha⟩ := fitsB_nat hf
          obtain rfl : n = 2 := by omega
          have h0 : 0 ≤ (a : Int) := by omega
          have hq : ((a : Int) / 65536 == 0) = true := by simp; omega
          have C1 := Lib.hid (show wrNum [] a ((2 : Nat) : Int) = (0, beB a 2) by rw [wrNum, if_pos hf, wrPut, if_pos (by simp [beB_length])]; simp)
          have C2 := Lib.hid (show rdNum (beB a 2) ((2 : Nat) : Int) = ((a : Int), 0, []) by have := rdNum_beB a 2 [] (by omega) ha; simpa using this)
          have hsz : (bstr (beB a 2)).size = 2 := by rw [bstr_size, beB_length]
          have hand := and255 a (by omega)
          have hlast : ∀ h, (wrap64 ((((bstr (beB a 2))[1]'h).toNat : Nat) : Int) != (a : Int) % 256) = false := by
            intro h
            rw [bstr_get, beB_last a 1, wrap_byte, UInt8.toNat_ofNat']
            simp
          have hlen := Lib.hid (beB_length a 2)
          clear hf hn hn3
          go_wp2_with fail
          refine (New_own ht).mono ?_
          rintro e w2 ⟨rfl, h1⟩
          generalize wr.heap.size = g at *
          go_wp2_with fail
          refine (WNum_own _ _ h1).mono ?_
          rintro e w3 ⟨rfl, h2⟩
          rw [show wrNum [] a 2 = (0, beB a 2) from C1.out] at h2 ⊢
          go_wp2_with fail
          refine (Num_any _ _).mono ?_
          rintro e w4 ⟨rfl, rfl⟩
          go_wp2_with fail
          refine (WAll_own h2).mono ?_
          rintro e w4 ⟨rfl, rfl⟩
          clear h1
          go_wp2_with fail
          refine (Open_own (beB a 2) h2.pure (by rw [beB_length]; omega)).mono ?_
          rintro e w5 ⟨rfl, h5⟩
          go_wp2_with fail
          refine (RNum_own _ h5).mono ?_
          rintro e w6 ⟨rfl, h6⟩
          rw [show rdNum (beB a 2) 2 = ((a : Int), 0, []) from C2.out] at h6 ⊢
          go_wp2_with (first | (go_at_call 19; refine (Num_any _ _).mono ?_; rintro e w9 ⟨rfl, rfl⟩))
          exact ⟨⟨2, by omega, rfl, h6.pure⟩, by simp [intOf]⟩
        · have hf' : fitsB x ((2 : Nat) : Int) = false := by simpa using hf
          have hno : (decide (0 ≤ x) && (x / 65536 == 0)) = false := by
            simp only [fitsB, sizedB] at hf'
            simp at hf' ⊢
            omega
          have C1 := Lib.hid (show wrNum [] x ((2 : Nat) : Int) = (301, []) by rw [wrNum, hf']; rfl)
          clear hf hf'
          by_cases h0 : 0 ≤ x
          · have hq : (x / 65536 == 0) = false := by simpa [h0] using hno
            clear hno
            go_wp2_with fail
            refine (New_own ht).mono ?_
            rintro e w2 ⟨rfl, h1⟩
            generalize wr.heap.size = g at *
            go_wp2_with fail
            refine (WNum_own _ _ h1).mono ?_
            rintro e w3 ⟨rfl, h2⟩
            rw [show wrNum [] x 2 = (301, []) from C1.out] at h2 ⊢
            clear h1
            go_wp2_with (first | (go_at_call 19; refine (Num_any _ _).mono ?_; rintro e w9 ⟨rfl, rfl⟩) | (go_at_call 29; refine (WAll_own h2).mono ?_; rintro e w9 ⟨rfl, rfl⟩))
            exact ⟨⟨2, by omega, rfl, h2.pure⟩, by simp [intOf]⟩
          · clear hno
            go_wp2_with fail
            refine (New_own ht).mono ?_
            rintro e w2 ⟨rfl, h1⟩
            generalize wr.heap.size = g at *
            go_wp2_with fail
            refine (WNum_own _ _ h1).mono ?_
            rintro e w3 ⟨rfl, h2⟩
            rw [show wrNum [] x 2 = (301, []) from C1.out] at h2 ⊢
            clear h1
            go_wp2_with (first | (go_at_call 19; refine (Num_any _ _).mono ?_; rintro e w9 ⟨rfl, rfl⟩) | (go_at_call 29; refine (WAll_own h2).mono ?_; rintro e w9 ⟨rfl, rfl⟩))
            exact ⟨⟨2, by omega, rfl, h2.pure⟩, by simp [intOf]⟩
      · by_cases hf : fitsB x ((4 : Nat) : Int) = true
        · obtain ⟨a, n, rfl, hn, hn3, ha⟩ := fitsB_nat hf
          obtain rfl : n = 4 := by omega
          have h0 : 0 ≤ (a : Int) := by omega
          have hq : ((a : Int) / 4294967296 == 0) = true := by simp; omega
          have C1 := Lib.hid (show wrNum [] a ((4 : Nat) : Int) = (0, beB a 4) by rw [wrNum, if_pos hf, wrPut, if_pos (by simp [beB_length])]; simp)
          have C2 := Lib.hid (show rdNum (beB a 4) ((4 : Nat) : Int) = ((a : Int), 0, []) by have := rdNum_beB a 4 [] (by omega) ha; simpa using this)
          have hsz : (bstr (beB a 4)).size = 4 := by rw [bstr_size, beB_length]
          have hand := and255 a (by omega)
          have hlast : ∀ h, (wrap64 ((((bstr (beB a 4))[3]'h).toNat : Nat) : Int) != (a : Int) % 256) = false := by
            intro h
            rw [bstr_get, beB_last a 3, wrap_byte, UInt8.toNat_ofNat']
            simp
          have hlen := Lib.hid (beB_length a 4)
          clear hf hn hn3
          go_wp2_with fail
          refine (New_own ht).mono ?_
          rintro e w2 ⟨rfl, h1⟩
          generalize wr.heap.size = g at *
          go_wp2_with fail
          refine (WNum_own _ _ h1).mono ?_
          rintro e w3 ⟨rfl, h2⟩
          rw [show wrNum [] a 4 = (0, beB a 4) from C1.out] at h2 ⊢
          go_wp2_with fail
          refine (Num_any _ _).mono ?_
          rintro e w4 ⟨rfl, rfl⟩
          go_wp2_with fail
          refine (WAll_own h2).mono ?_
          rintro e w4 ⟨rfl, rfl⟩
          clear h1
          go_wp2_with fail
          refine (Open_own (beB a 4) h2.pure (by rw [beB_length]; omega)).mono ?_
          rintro e w5 ⟨rfl, h5⟩
          go_wp2_with fail
          refine (RNum_own _ h5).mono ?_
          rintro e w6 ⟨rfl, h6⟩
          rw [show rdNum (beB a 4) 4 = ((a : Int), 0, []) from C2.out] at h6 ⊢
          go_wp2_with (first | (go_at_call 19; refine (Num_any _ _).mono ?_; rintro e w9 ⟨rfl, rfl⟩))
          exact ⟨⟨3, by omega, rfl, h6.pure⟩, by simp [intOf]⟩
        · have hf' : fitsB x ((4 : Nat) : Int) = false := by simpa using hf
          have hno : (decide (0 ≤ x) && (x / 4294967296 == 0)) = false := by
            simp only [fitsB, sizedB] at hf'
            simp at hf' ⊢
            omega
          have C1 := Lib.hid (show wrNum [] x ((4 : Nat) : Int) = (301, []) by rw [wrNum, hf']; rfl)
          clear hf hf'
          by_cases h0 : 0 ≤ x
          · have hq : (x / 4294967296 == 0) = false := by simpa [h0] using hno
            clear hno
            go_wp2_with fail
            refine (New_own ht).mono ?_
            rintro e w2 ⟨rfl, h1⟩
            generalize wr.heap.size = g at *
            go_wp2_with fail
            refine (WNum_own _ _ h1).mono ?_
            rintro e w3 ⟨rfl, h2⟩
            rw [show wrNum [] x 4 = (301, []) from C1.out] at h2 ⊢
            clear h1
            go_wp2_with (first | (go_at_call 19; refine (Num_any _ _).mono ?_; rintro e w9 ⟨rfl, rfl⟩) | (go_at_call 29; refine (WAll_own h2).mono ?_; rintro e w9 ⟨rfl, rfl⟩))
            exact ⟨⟨3, by omega, rfl, h2.pure⟩, by simp [intOf]⟩
          · clear hno
            go_wp2_with fail
            refine (New_own ht).mono ?_
            rintro e w2 ⟨rfl, h1⟩
            generalize wr.heap.size = g at *
            go_wp2_with fail
            refine (WNum_own _ _ h1).mono ?_
            rintro e w3 ⟨rfl, h2⟩
            rw [show wrNum [] x 4 = (301, []) from C1.out] at h2 ⊢
            clear h1
            go_wp2_with (first | (go_at_call 19; refine (Num_any _ _).mono ?_; rintro e w9 ⟨rfl, rfl⟩) | (go_at_call 29; refine (WAll_own h2).mono ?_; rintro e w9 ⟨rfl, rfl⟩))
            exact ⟨⟨3, by omega, rfl, h2.pure⟩, by simp [intOf]⟩
    · obtain rfl : k = 3 := by omega
      have C1 := Lib.hid (by decide : wrNum [] 1 3 = (301, []))
      have C2 := Lib.hid (by decide : rdNum [97, 98, 99, 100, 101, 102, 103, 104] 8 = (0, 301, [97, 98, 99, 100, 101, 102, 103, 104]))
      go_wp2_with fail
      refine (New_own ht).mono ?_
      rintro e w2 ⟨rfl, h1⟩
      generalize wr.heap.size = g at *
      go_wp2_with fail
      refine (WNum_own _ _ h1).mono ?_
      rintro e w3 ⟨rfl, h2⟩
      rw [C1.out] at h2 ⊢
      go_wp2_with fail
      refine (Open_own [97, 98, 99, 100, 101, 102, 103, 104] h2.pure (by simp)).mono ?_
      rintro e w5 ⟨rfl, h5⟩
      go_wp2_with fail
      refine (RNum_own _ h5).mono ?_
      rintro e w6 ⟨rfl, h6⟩
      rw [C2.out] at h6 ⊢
      go_wp2_with (first | (go_at_call 19; refine (Num_any _ _).mono ?_; rintro e w9 ⟨rfl, rfl⟩))
      go_ret
      exact ⟨rfl, h6.pure⟩
end Go.Proofs.Ytjingpkgappblaa
