/- Chapter 4, the laws' own: so many bytes out of a text. -/
import Derived.Test.YtmifchdmlbcclaaShaR
import Derived.Test.YtmifchdmlbcclaaBe
import Derived.Deep.AppendLies
import Derived.Deep.DeepCutAuto
import Derived.Deep.RegionHeld3
namespace Go.Proofs.Ytmifchdmlbcclaa
open Go.RowKit

/-- So many bytes out of a text. -/
def filledV (s : List UInt8) (k : Nat) : List UInt8 := s.take k ++ List.replicate (k - s.length) 0
theorem filledV_length (s : List UInt8) (k : Nat) : (filledV s k).length = k := by simp [filledV]; omega
def fillCur (s : List UInt8) (k j : Nat) : List UInt8 := s.take j ++ List.replicate (k - j) 0
theorem fillCur_zero (s : List UInt8) (k : Nat) : fillCur s k 0 = List.replicate k 0 := by simp [fillCur]
theorem fillCur_length (s : List UInt8) (k j : Nat) (h : j ≤ k) (h2 : j ≤ s.length) : (fillCur s k j).length = k := by simp [fillCur]; omega
theorem fillCur_full (s : List UInt8) (k j : Nat) (h : j ≤ k) (h2 : j ≤ s.length) (h3 : ¬ (j < k ∧ j < s.length)) : fillCur s k j = filledV s k := by
  rw [fillCur, filledV]
  by_cases hj : j = k
  · subst hj
    rw [show j - j = 0 from by omega, show j - s.length = 0 from by omega]
  · have : j = s.length := by omega
    rw [List.take_of_length_le (by omega), List.take_of_length_le (by omega), this]
theorem fillCur_set (s : List UInt8) (k j : Nat) (h : j < k) (h2 : j < s.length) : ((u8s (fillCur s k j)).set j (Value.int .u8 ((s.getD j 0).toNat : Int))).toArray = (u8s (fillCur s k (j + 1))).toArray := by
  congr 1
  have hl : (s.take j).length = j := by simp; omega
  have e : s.take (j + 1) = s.take j ++ [s.getD j 0] := by
    rw [List.take_add_one, List.getElem?_eq_getElem h2, List.getD_eq_getElem?_getD, List.getElem?_eq_getElem h2]; rfl
  have r : List.replicate (k - j) (0 : UInt8) = 0 :: List.replicate (k - (j + 1)) 0 := by
    rw [show k - j = (k - (j + 1)) + 1 from by omega, List.replicate_succ]
  simp only [u8s, fillCur, e, r, List.map_append, List.map_cons, List.append_assoc, List.cons_append, List.nil_append]
  rw [List.set_append_right _ _ (by rw [List.length_map, hl]; exact Nat.le_refl _), List.length_map, hl]
  simp [u8]

set_option maxHeartbeats 1000000 in
theorem filled_any (w : World) (s : List UInt8) (k : Nat) (hk : k ≤ 1000) (hs : s.length ≤ 140737488351232) :
    Calls Try.prog 21 #[.string (bstr s), .int .i64 (k : Int)] w fun e w' => e = .returned (.string (bstr (filledV s k))) ∧ Pure w w' := by
  have hmk := make_u8S w k (by omega)
  have zs := bstr_size s
  go_enter Try.func21, Try.ntmps21
  go_wp2
  clear hmk
  go_loopw [6] (fun i wr => ∃ j : Nat, j ≤ k ∧ j ≤ s.length ∧ i = .int .i64 (j : Int) ∧ wr = w.alloc (.cells (u8s (fillCur s k j)).toArray 5)) (fun i _ => k - (intOf i).toNat)
  case atStart => exact ⟨0, by omega, by omega, rfl, by rw [fillCur_zero]⟩
  case round =>
    obtain ⟨j, hj, hjs, rfl, rfl⟩ := hrel
    by_cases hlt : j < k ∧ j < s.length
    · obtain ⟨h1, h2⟩ := hlt
      have q1 : (j : Int) < k := by omega
      have q2 : (j : Int) < s.length := by omega
      have q0 : (0 : Int) ≤ j := by omega
      have ix := fun W => index_bstr W s (j : Int) j rfl h2
      have i1 : IntKind.i64.wrap ((j : Int) + 1) = ((j + 1 : Nat) : Int) := by rw [IntWalk.i64_in _ (by omega)]; omega
      have hc : (w.alloc (.cells (u8s (fillCur s k j)).toArray 5)).cell? ⟨w.heap.size, j, none⟩ = some (u8 ((fillCur s k j).getD j 0)) := by
        rw [World.cell?_alloc_new]; simp [u8s, List.getD, fillCur_length s k j hj hjs, h1]
      go_wp2
      exact ⟨⟨j + 1, by omega, by omega, by first | rfl | trivial | go_num, by rw [← fillCur_set s k j h1 h2, List.getD_eq_getElem?_getD, List.getElem?_eq_getElem h2]; rfl⟩, by simp [intOf]; omega⟩
    · have hcv := conv_block (P := Try.prog) (w.alloc (.cells (u8s (filledV s k)).toArray 5)) 61 5 9 5 (0, 0) Try.underlying61 Try.underlying5 Try.underlying9 w.heap.size k (filledV s k) k (filledV_length _ _) (heap_alloc_new _ _)
      rw [fillCur_full s k j hj hjs hlt]
      by_cases h1 : j < k
      · have q1 : (j : Int) < k := by omega
        have q2 : ¬ ((j : Int) < s.length) := by omega
        go_wp2
        go_ret
        exact ⟨rfl, (Turn.refl _ _).alloc _⟩
      · have q1 : ¬ ((j : Int) < k) := by omega
        go_wp2
        go_ret
        exact ⟨rfl, (Turn.refl _ _).alloc _⟩
end Go.Proofs.Ytmifchdmlbcclaa
