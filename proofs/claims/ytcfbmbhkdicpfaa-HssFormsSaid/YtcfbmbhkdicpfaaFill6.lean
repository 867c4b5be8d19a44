/- Bytes filled up, in law 6's package. -/
import Derived.Test.YtcfbmbhkdicpfaaFill
namespace Go.Proofs.Ytcfbmbhkdicpfaa
open Go.RowKit

set_option maxHeartbeats 1000000 in
theorem filled6_any (w : World) (s : List UInt8) (k : Nat) (hk : k ≤ 1000) (hs : s.length ≤ 1407374883512320) :
    Calls Try.prog 47 #[.string (bstr s), .int .i64 (k : Int)] w fun e w' => e = .returned (.string (bstr (filledV s k))) ∧ Pure w w' := by
  have hmk := make_u8S w k (by omega)
  have zs := bstr_size s
  go_enter Try.func47, Try.ntmps47
  go_wp2
  clear hmk
  go_loopw [6] (fun i wr => ∃ j : Nat, j ≤ k ∧ j ≤ s.length ∧ i = .int .i64 (j : Int) ∧ wr = w.alloc (.cells (u8s (fillCur s k j)).toArray 5)) (fun i _ => k - (intOf i).toNat)
  case atStart => exact ⟨0, by omega, by omega, rfl, by rw [fillCur_zero]⟩
  case round =>
    obtain ⟨j, hj, hjs, rfl, rfl⟩ := hrel
    by_cases hlt : j < k ∧ j < s.length
    · obtain ⟨h1, h2⟩ := hlt
      have q1 : (j : Int) < k := by omega
      have q2 : (j : Int) < s.length := by omega
      have q0 : (0 : Int) ≤ j := by omega
      have ix := fun W => index_bstr W s (j : Int) j rfl h2
      have i1 : IntKind.i64.wrap ((j : Int) + 1) = ((j + 1 : Nat) : Int) := by rw [IntWalk.i64_in _ (by omega)]; omega
      have hc : (w.alloc (.cells (u8s (fillCur s k j)).toArray 5)).cell? ⟨w.heap.size, j, none⟩ = some (u8 ((fillCur s k j).getD j 0)) := by
        rw [World.cell?_alloc_new]; simp [u8s, List.getD, fillCur_length s k j hj hjs, h1]
      go_wp2
      exact ⟨⟨j + 1, by omega, by omega, by first | rfl | trivial | go_num, by rw [← fillCur_set s k j h1 h2, List.getD_eq_getElem?_getD, List.getElem?_eq_getElem h2]; rfl⟩, by simp [intOf]; omega⟩
    · have hcv := conv_block (P := Try.prog) (w.alloc (.cells (u8s (filledV s k)).toArray 5)) 65 5 9 5 (0, 0) Try.underlying65 Try.underlying5 Try.underlying9 w.heap.size k (filledV s k) k (filledV_length _ _) (heap_alloc_new _ _)
      rw [fillCur_full s k j hj hjs hlt]
      by_cases h1 : j < k
      · have q1 : (j : Int) < k := by omega
        have q2 : ¬ ((j : Int) < s.length) := by omega
        go_wp2
        go_ret
        exact ⟨rfl, (Turn.refl _ _).alloc _⟩
      · have q1 : ¬ ((j : Int) < k) := by omega
        go_wp2
        go_ret
        exact ⟨rfl, (Turn.refl _ _).alloc _⟩
end Go.Proofs.Ytcfbmbhkdicpfaa
