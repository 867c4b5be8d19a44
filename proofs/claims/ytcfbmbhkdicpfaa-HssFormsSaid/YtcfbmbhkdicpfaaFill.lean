/- Bytes filled up: the plain law. -/
import Derived.Test.YtcfbmbhkdicpfaaShaR
import Derived.Test.YtcfbmbhkdicpfaaSha0
import Derived.Deep.AppendLies
import Derived.Deep.DeepCutAuto
import Derived.Deep.RegionHeld3
namespace Go.Proofs.Ytcfbmbhkdicpfaa
open Go.RowKit

/-- So many bytes out of a text. -/
def filledV (s : List UInt8) (k : Nat) : List UInt8 := s.take k ++ List.replicate (k - s.length) 0
theorem filledV_length (s : List UInt8) (k : Nat) : (filledV s k).length = k := by simp [filledV]; omega
def fillCur (s : List UInt8) (k j : Nat) : List UInt8 := s.take j ++ List.replicate (k - j) 0
theorem fillCur_zero (s : List UInt8) (k : Nat) : fillCur s k 0 = List.replicate k 0 := by simp [fillCur]
theorem fillCur_length (s : List UInt8) (k j : Nat) (h : j ≤ k) (h2 : j ≤ s.length) : (fillCur s k j).length = k := by simp [fillCur]; omega
theorem fillCur_full (s : List UInt8) (k j : Nat) (h : j ≤ k) (h2 : j ≤ s.length) (h3 : ¬ (j < k ∧ j < s.length)) : fillCur s k j = filledV s k := by
  rw [fillCur, filledV]
  by_cases hj : j = k
  · subst hj
    rw [show j - j = 0 from by omega, show j - s.length = 0 from by omega]
  · have : j = s.length := by omega
    rw [List.take_of_length_le (by omega), List.take_of_length_le (by omega), this]
theorem fillCur_set (s : List UInt8) (k j : Nat) (h : j < k) (h2 : j < s.length) : ((u8s (fillCur s k j)).set j (Value.int .u8 ((s.getD j 0).toNat : Int))).toArray = (u8s (fillCur s k (j + 1))).toArray := by
  congr 1
  have hl : (s.take j).length = j := by simp; omega
  have e : s.take (j + 1) = s.take j ++ [s.getD j 0] := by
    rw [List.take_add_one, List.getElem?_eq_getElem h2, List.getD_eq_getElem?_getD, List.getElem?_eq_getElem h2]; rfl
  have r : List.replicate (k - j) (0 : UInt8) = 0 :: List.replicate (k - (j + 1)) 0 := by
    rw [show k - j = (k - (j + 1)) + 1 from by omega, List.replicate_succ]
  simp only [u8s, fillCur, e, r, List.map_append, List.map_cons, List.append_assoc, List.cons_append, List.nil_append]
  rw [List.set_append_right _ _ (by rw [List.length_map, hl]; exact Nat.le_refl _), List.length_map, hl]
  simp [u8]

end Go.Proofs.Ytcfbmbhkdicpfaa
