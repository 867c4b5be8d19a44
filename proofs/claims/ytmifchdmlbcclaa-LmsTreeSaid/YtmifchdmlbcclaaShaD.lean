/- The digest of a text, in plain lists. -/
import Derived.Test.YtmifchdmlbcclaaSha0
namespace Go.Proofs.Ytmifchdmlbcclaa
open Go.RowKit

def blockAt (s : List UInt8) (n : Nat) : List UInt8 := (s.drop (64 * n)).take 64
theorem blockAt_length {s : List UInt8} {n : Nat} (h : 64 * n + 64 ≤ s.length) : (blockAt s n).length = 64 := by simp [blockAt]; omega
/-- So many blocks of a text worked in. -/
def blocksV (h : V8) (s : List UInt8) : Nat → V8
  | 0 => h
  | n + 1 => blockV (blocksV h s n) (blockAt s n)
def shaH0 : V8 := ⟨0x6a09e667, 0xbb67ae85, 0x3c6ef372, 0xa54ff53a, 0x510e527f, 0x9b05688c, 0x1f83d9ab, 0x5be0cd19⟩
def zerosOf (n : Nat) : Nat := (119 - n % 64) % 64
def padOf (n : Nat) : List UInt8 := 128 :: (List.replicate (zerosOf n) 0 ++ beB (8 * n) 8)
theorem padOf_length (n : Nat) : (padOf n).length = 9 + zerosOf n := by simp [padOf, beB_length]; omega
def outAt (v : V8) (i : Nat) : UInt8 := UInt8.ofNat ((v.list.getD (i / 4) 0).toNat / 2 ^ (24 - 8 * (i % 4)))
def outV (v : V8) : List UInt8 := (List.range 32).map (outAt v)
theorem outV_length (v : V8) : (outV v).length = 32 := by simp [outV]
def restOf (s : List UInt8) : List UInt8 := s.drop (64 * (s.length / 64))
theorem restOf_length (s : List UInt8) : (restOf s).length = s.length % 64 := by simp [restOf]; omega
def lastOf (s : List UInt8) : List UInt8 := restOf s ++ padOf s.length
theorem lastOf_length (s : List UInt8) : (lastOf s).length = s.length % 64 + 9 + zerosOf s.length := by simp [lastOf, padOf_length, restOf_length]; omega
theorem lastOf_whole (s : List UInt8) : (lastOf s).length = 64 * ((lastOf s).length / 64) := by rw [lastOf_length]; simp only [zerosOf]; omega
/-- The digest of a text. -/
def shaV (s : List UInt8) : List UInt8 := outV (blocksV (blocksV shaH0 s (s.length / 64)) (lastOf s) ((lastOf s).length / 64))
theorem shaV_length (s : List UInt8) : (shaV s).length = 32 := outV_length _

/-- The bytes that are written after k rounds. -/
def outCur (v : V8) (k : Nat) : List UInt8 := (outV v).take k ++ List.replicate (32 - k) 0
theorem outCur_zero (v : V8) : outCur v 0 = List.replicate 32 0 := by simp [outCur]
theorem outCur_full (v : V8) : outCur v 32 = outV v := by
  rw [outCur, List.take_of_length_le (by rw [outV_length]; exact Nat.le_refl _)]
  simp
theorem outCur_length (v : V8) (k : Nat) (h : k ≤ 32) : (outCur v k).length = 32 := by simp [outCur, outV_length]; omega
theorem outAt_cell (v : V8) (k : Nat) : Value.int .u8 (((v.list.getD (k / 4) 0).toNat : Int) / 2 ^ (24 - 8 * (k % 4)) % 256) = u8 (outAt v k) := by
  rw [u8, outAt, UInt8.toNat_ofNat']
  simp
theorem outCur_set (v : V8) (k : Nat) (h : k < 32) : (u8s (outCur v k)).toArray.setIfInBounds k (u8 (outAt v k)) = (u8s (outCur v (k + 1))).toArray := by
  apply Array.toList_inj.1
  have hl : ((outV v).take k).length = k := by simp [outV_length]; omega
  have e : (outV v).take (k + 1) = (outV v).take k ++ [outAt v k] := by
    rw [List.take_add_one]
    simp [outV, h]
  have r : List.replicate (32 - k) (0 : UInt8) = 0 :: List.replicate (32 - (k + 1)) 0 := by
    rw [show 32 - k = (32 - (k + 1)) + 1 from by omega, List.replicate_succ]
  simp only [Array.toList_setIfInBounds, u8s, outCur, e, r, List.map_append, List.map_cons, List.append_assoc, List.cons_append, List.nil_append]
  rw [List.set_append_right _ _ (by rw [List.length_map, hl]; exact Nat.le_refl _), List.length_map, hl]
  simp
end Go.Proofs.Ytmifchdmlbcclaa
