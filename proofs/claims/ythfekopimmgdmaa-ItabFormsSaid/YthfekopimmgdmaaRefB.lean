/- Walks of the reference's bytes: numbers as bytes, writers, readers. -/
import Derived.Test.YthfekopimmgdmaaWireR
namespace Go.Proofs.Ythfekopimmgdmaa
open Go.RowKit

/-- The bytes of a number of which the last k are written. -/
def beTail (x n k : Nat) : List UInt8 := List.replicate (n - k) 0 ++ (beB x n).drop (n - k)
theorem beTail_zero (x n : Nat) : beTail x n 0 = List.replicate n 0 := by simp [beTail, beB_length, List.drop_of_length_le]
theorem beTail_full (x n : Nat) : beTail x n n = beB x n := by simp [beTail]
theorem beTail_length (x n k : Nat) (h : k ≤ n) : (beTail x n k).length = n := by
  simp only [beTail, List.length_append, List.length_replicate, List.length_drop, beB_length]; omega
theorem beTail_set (x n k : Nat) (h : k < n) : ((u8s (beTail x n k)).set (n - 1 - k) (Value.int .u8 (((x >>> (8 * k)) % 256 : Nat) : Int))).toArray = (u8s (beTail x n (k + 1))).toArray := by
  congr 1
  have hb : Value.int .u8 (((x >>> (8 * k)) % 256 : Nat) : Int) = u8 (UInt8.ofNat (x >>> (8 * k))) := by rw [u8, UInt8.toNat_ofNat']
  rw [hb]
  have hg := beB_get x n (n - 1 - k) (by omega)
  rw [show n - 1 - (n - 1 - k) = k from by omega] at hg
  have e : (beB x n).drop (n - (k + 1)) = UInt8.ofNat (x >>> (8 * k)) :: (beB x n).drop (n - k) := by
    rw [show n - (k + 1) = n - 1 - k from by omega, List.drop_eq_getElem_cons (by rw [beB_length]; omega), show n - 1 - k + 1 = n - k from by omega]
    rw [List.getElem?_eq_getElem (by rw [beB_length]; omega)] at hg
    rw [Option.some.inj hg]
  have r : List.replicate (n - k) (0 : UInt8) = List.replicate (n - (k + 1)) 0 ++ [0] := by
    rw [show n - k = n - (k + 1) + 1 from by omega, List.replicate_succ']
  simp only [u8s, beTail, e, r, List.map_append, List.map_cons, List.append_assoc, List.cons_append, List.nil_append]
  rw [List.set_append_right _ _ (by simp; omega)]
  simp [show n - 1 - k - (n - (k + 1)) = 0 from by omega]

theorem and255 (x : Nat) (h : x < 9223372036854775808) : bits .and .i64 (x : Int) 255 = ((x % 256 : Nat) : Int) := by
  have := bits_mask .i64 63 (by decide) (fun n a c => by rw [IntKind.wrap_i64]; omega) 8 (by decide) (x : Int) (by omega) (by omega)
  simpa using this

set_option maxRecDepth 100000 in
set_option maxHeartbeats 400000 in
theorem Be_any (x n : Nat) (w : World) (hn : n ≤ 1000) (hx : x < 9223372036854775808) :
    Calls Try.prog 32 #[.int .i64 x, .int .i64 n] w fun e w' => e = .returned (.string (bstr (beB x n))) ∧ Pure w w' := by
  have hmk := make_u8 w n (by omega)
  go_enter Try.func32, Try.ntmps32
  go_wp2
  clear hmk
  go_loopw [0, 6] (fun y i wr => ∃ k : Nat, k ≤ n ∧ y = .int .i64 ((x >>> (8 * k) : Nat) : Int) ∧ i = .int .i64 ((n : Int) - 1 - k) ∧ wr = w.alloc (.cells (u8s (beTail x n k)).toArray 5)) (fun _ i _ => (intOf i + 1).toNat)
  case atStart => exact ⟨0, by omega, by simp, by simp, by rw [beTail_zero]⟩
  case round =>
    obtain ⟨k, hk, rfl, rfl, rfl⟩ := hrel
    have hsx : x >>> (8 * k) < 9223372036854775808 := Nat.lt_of_le_of_lt (Nat.shiftRight_le _ _) hx
    have hdiv : x >>> (8 * (k + 1)) = (x >>> (8 * k)) / 256 := by rw [show 8 * (k + 1) = 8 * k + 8 from by omega, Nat.shiftRight_add, Nat.shiftRight_eq_div_pow _ 8]
    have HD := Lib.hid hdiv; clear hdiv
    by_cases hlt : k < n
    · obtain ⟨j, hj⟩ : ∃ j : Nat, n = j + 1 + k := ⟨n - 1 - k, by omega⟩
      have ej : ((n : Int) - 1 - k) = (j : Int) := by omega
      rw [ej]
      have hand := and255 _ hsx
      generalize hy : x >>> (8 * k) = y at hsx hand HD
      have HY := Lib.hid hy; clear hy
      have hc : (w.alloc (.cells (u8s (beTail x n k)).toArray 5)).cell? ⟨w.heap.size, j, none⟩ = some (u8 ((beTail x n k).getD j 0)) := by
        rw [World.cell?_alloc_new]; simp [u8s, List.getD, beTail_length x n k hk, show j < n by omega]
      have hjn : j < n := by omega
      have HJ := Lib.hid hj; clear hj
      clear ej
      go_wp2
      refine ⟨⟨k + 1, by omega, by rw [HD.out]; go_num, by have := HJ.out; go_num, ?_⟩, by simp [intOf]⟩
      have e := beTail_set x n k hlt
      rw [show n - 1 - k = j from by have := HJ.out; omega, HY.out] at e
      rw [← e]
      rfl
    · obtain rfl : k = n := by omega
      have ek : ((k : Int) - 1 - k) = -1 := by omega
      rw [ek, beTail_full]
      have hcv := conv_block (P := Try.prog) (w.alloc (.cells (u8s (beB x k)).toArray 5)) 62 5 9 5 (0, 0) Try.underlying62 Try.underlying5 Try.underlying9 w.heap.size k (beB x k) k (beB_length _ _) (heap_alloc_new _ _)
      go_wp2
      go_ret
      exact ⟨rfl, (Turn.refl _ _).alloc _⟩

set_option maxRecDepth 100000 in
set_option maxHeartbeats 400000 in
theorem sizedR_any (x s : Int) (w : World) :
    Calls Try.prog 80 #[.int .i64 x, .int .i64 s] w fun e w' => e = .returned (.bool (fitsB x s)) ∧ w = w' := by
  by_cases hs : sizedB s = true
  · obtain ⟨n, rfl, hn⟩ := sized_nat hs
    by_cases h0 : 0 ≤ x
    · rcases hn with rfl | rfl | rfl
      · have e : fitsB x ((1 : Nat) : Int) = decide (x < 256) := by simp [fitsB, sizedB, h0]
        rw [e]
        clear e hs
        go_enter Try.func80, Try.ntmps80
        go_wp2
        go_ret
        exact ⟨rfl, rfl⟩
      · have e : fitsB x ((2 : Nat) : Int) = decide (x < 65536) := by simp [fitsB, sizedB, h0]
        rw [e]
        clear e hs
        go_enter Try.func80, Try.ntmps80
        go_wp2
        go_ret
        exact ⟨rfl, rfl⟩
      · have e : fitsB x ((4 : Nat) : Int) = decide (x < 4294967296) := by simp [fitsB, sizedB, h0]
        rw [e]
        clear e hs
        go_enter Try.func80, Try.ntmps80
        go_wp2
        go_ret
        exact ⟨rfl, rfl⟩
    · have e : fitsB x n = false := by simp [fitsB, h0]
      rw [e]
      clear e hs
      rcases hn with rfl | rfl | rfl
      · go_enter Try.func80, Try.ntmps80
        go_wp2
        go_ret
        exact ⟨rfl, rfl⟩
      · go_enter Try.func80, Try.ntmps80
        go_wp2
        go_ret
        exact ⟨rfl, rfl⟩
      · go_enter Try.func80, Try.ntmps80
        go_wp2
        go_ret
        exact ⟨rfl, rfl⟩
  · have e : fitsB x s = false := by simp [fitsB, show sizedB s = false by simpa using hs]
    rw [e]
    clear e
    have hs' : sizedB s = false := by simpa using hs
    have b1 : (s == 1) = false := by simp only [sizedB, Bool.or_eq_false_iff] at hs'; exact hs'.1.1
    have b2 : (s == 2) = false := by simp only [sizedB, Bool.or_eq_false_iff] at hs'; exact hs'.1.2
    have b3 : (s == 4) = false := by simp only [sizedB, Bool.or_eq_false_iff] at hs'; exact hs'.2
    clear hs hs'
    go_enter Try.func80, Try.ntmps80
    go_wp2
    go_ret
    exact ⟨rfl, rfl⟩

set_option maxRecDepth 100000 in
set_option maxHeartbeats 400000 in
theorem T_any (w : World) (t : List UInt8) (ht0 : t.length = 32) :
    Calls Try.prog 33 #[hv t] w fun e w' => e = .returned (.string (bstr t)) ∧ Pure w w' := by
  have hcv := conv_block (P := Try.prog) (w.alloc (.cells (u8s t).toArray 39)) 62 5 9 39 (0, 0) Try.underlying62 Try.underlying5 Try.underlying9 w.heap.size 32 t 32 ht0 (heap_alloc_new _ _)
  have HT0 := Lib.hid ht0; clear ht0
  go_enter Try.func33, Try.ntmps33
  go_wp2
  go_ret
  exact ⟨rfl, (Turn.refl _ _).alloc _⟩

end Go.Proofs.Ythfekopimmgdmaa
