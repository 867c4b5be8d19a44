/- Chapter 4: the kind that a signature that was made says. -/
import Derived.Test.YtmifchdmlbcclaaOtsO
namespace Go.Proofs.Ytmifchdmlbcclaa
open Go.RowKit

theorem kindSV_sign3 (rest : List UInt8) (h : rest.length = 2176) : kindSV (beB 3 4 ++ rest) = (3, true) := by
  have e : beB 3 4 = [0, 0, 0, 3] := by decide
  have hk : k4V ([0, 0, 0, 3] ++ rest) = 3 := by
    show bits .or .i64 (bits .or .i64 (bits .or .i64 ((0 : Int) * 16777216) ((0 : Int) * 65536)) ((0 : Int) * 256)) (3 : Int) = 3
    decide
  rw [e, kindSV, if_neg (by simp), hk]
  simp [kindB, parV, h]
theorem kindSV_sign4 (rest : List UInt8) (h : rest.length = 1120) : kindSV (beB 4 4 ++ rest) = (4, true) := by
  have e : beB 4 4 = [0, 0, 0, 4] := by decide
  have hk : k4V ([0, 0, 0, 4] ++ rest) = 4 := by
    show bits .or .i64 (bits .or .i64 (bits .or .i64 ((0 : Int) * 16777216) ((0 : Int) * 65536)) ((0 : Int) * 256)) (4 : Int) = 4
    decide
  rw [e, kindSV, if_neg (by simp), hk]
  simp [kindB, parV, h]
theorem otsSignV_kind3 (head seed msg : List UInt8) : kindSV (otsSignV 3 4 67 4 head seed msg) = (3, true) ∧ (otsSignV 3 4 67 4 head seed msg).length = 2180 := by
  have hc : (otsCV head seed).length = 32 := shaV_length _
  rw [otsSignV, List.append_assoc]
  have hl := chainsV_length head (fun _ => 0) (fun i => (digitsV 4 67 4 (otsQV head (otsCV head seed) msg)).getD i 0) (fun i => startV head i seed) 67 (fun i _ => startV_length _ _ _)
  generalize chainsV head (fun _ => 0) (fun i => (digitsV 4 67 4 (otsQV head (otsCV head seed) msg)).getD i 0) (fun i => startV head i seed) 67 = c at hl ⊢
  have hr : (otsCV head seed ++ c).length = 2176 := by rw [List.length_append, hc, hl]
  exact ⟨kindSV_sign3 _ hr, by rw [List.length_append, hr, beB_length]⟩
end Go.Proofs.Ytmifchdmlbcclaa
