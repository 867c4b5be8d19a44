/- The reference's bytes of a number (for seats without package wire). -/
import Derived.Test.YtmifchdmlbcclaaBase
import Derived.Test.YtmifchdmlbcclaaRows
namespace Go.Proofs.Ytmifchdmlbcclaa
open Go.RowKit

theorem Try.infoU8S : (Try.prog.info? 5).map (fun i => (i.zero, i.size, i.bytes)) = some (some (.int .u8 0), 1, 1) := by kernel_rfl

theorem made_u8S (n : Nat) : madeCells #[Value.int .u8 0] n = (u8s (List.replicate n 0)).toArray := by
  apply Array.toList_inj.1
  simp only [madeCells, u8s, u8, Array.toList_map, List.map_replicate]
  apply List.ext_getElem
  · simp
  · intro i h1 h2
    simp [Nat.mod_one]

theorem make_u8S (w : World) (n : Nat) (hn : n ≤ 1099511627776) :
    (Instr.makeSlice 61 (.int .i64 n) (.int .i64 n)).run Try.prog w = .ok (.slice (some ⟨w.heap.size, 0, none⟩) n n) (w.alloc (.cells (u8s (List.replicate n 0)).toArray 5)) := by
  obtain ⟨i, hi, h1, h2, h3⟩ := info_parts Try.infoU8S
  have := run_make (P := Try.prog) w 61 5 i (.int .u8 0) Try.underlying61 hi h1 .i64 .i64 n n (by omega) (by omega) (by rw [h3]; omega) (by omega)
  rw [this, h2]
  simp [Value.cells, made_u8S]

theorem beB_getS (x n k : Nat) (h : k < n) : (beB x n)[k]? = some (UInt8.ofNat (x >>> (8 * (n - 1 - k)))) := by
  induction n generalizing k with
  | zero => omega
  | succ n ih =>
    cases k with
    | zero => simp [beB]
    | succ k =>
      rw [beB, List.getElem?_cons_succ, ih k (by omega)]
      rw [show n - 1 - k = n + 1 - 1 - (k + 1) from by omega]
/-- The bytes of a number of which the last k are written. -/
def beTailS (x n k : Nat) : List UInt8 := List.replicate (n - k) 0 ++ (beB x n).drop (n - k)
theorem beTail_zeroS (x n : Nat) : beTailS x n 0 = List.replicate n 0 := by simp [beTailS, beB_length, List.drop_of_length_le]
theorem beTail_fullS (x n : Nat) : beTailS x n n = beB x n := by simp [beTailS]
theorem beTail_lengthS (x n k : Nat) (h : k ≤ n) : (beTailS x n k).length = n := by
  simp only [beTailS, List.length_append, List.length_replicate, List.length_drop, beB_length]; omega
theorem beTail_setS (x n k : Nat) (h : k < n) : ((u8s (beTailS x n k)).set (n - 1 - k) (Value.int .u8 (((x >>> (8 * k)) % 256 : Nat) : Int))).toArray = (u8s (beTailS x n (k + 1))).toArray := by
  congr 1
  have hb : Value.int .u8 (((x >>> (8 * k)) % 256 : Nat) : Int) = u8 (UInt8.ofNat (x >>> (8 * k))) := by rw [u8, UInt8.toNat_ofNat']
  rw [hb]
  have hg := beB_getS x n (n - 1 - k) (by omega)
  rw [show n - 1 - (n - 1 - k) = k from by omega] at hg
  have e : (beB x n).drop (n - (k + 1)) = UInt8.ofNat (x >>> (8 * k)) :: (beB x n).drop (n - k) := by
    rw [show n - (k + 1) = n - 1 - k from by omega, List.drop_eq_getElem_cons (by rw [beB_length]; omega), show n - 1 - k + 1 = n - k from by omega]
    rw [List.getElem?_eq_getElem (by rw [beB_length]; omega)] at hg
    rw [Option.some.inj hg]
  have r : List.replicate (n - k) (0 : UInt8) = List.replicate (n - (k + 1)) 0 ++ [0] := by
    rw [show n - k = n - (k + 1) + 1 from by omega, List.replicate_succ']
  simp only [u8s, beTailS, e, r, List.map_append, List.map_cons, List.append_assoc, List.cons_append, List.nil_append]
  rw [List.set_append_right _ _ (by simp; omega)]
  simp [show n - 1 - k - (n - (k + 1)) = 0 from by omega]

theorem and255S (x : Nat) (h : x < 9223372036854775808) : bits .and .i64 (x : Int) 255 = ((x % 256 : Nat) : Int) := by
  have := bits_mask .i64 63 (by decide) (fun n a c => by rw [IntKind.wrap_i64]; omega) 8 (by decide) (x : Int) (by omega) (by omega)
  simpa using this

set_option maxHeartbeats 400000 in
theorem Be_anyS (x n : Nat) (w : World) (hn : n ≤ 1000) (hx : x < 9223372036854775808) :
    Calls Try.prog 30 #[.int .i64 x, .int .i64 n] w fun e w' => e = .returned (.string (bstr (beB x n))) ∧ Pure w w' := by
  have hmk := make_u8S w n (by omega)
  go_enter Try.func30, Try.ntmps30
  go_wp2
  clear hmk
  go_loopw [0, 6] (fun y i wr => ∃ k : Nat, k ≤ n ∧ y = .int .i64 ((x >>> (8 * k) : Nat) : Int) ∧ i = .int .i64 ((n : Int) - 1 - k) ∧ wr = w.alloc (.cells (u8s (beTailS x n k)).toArray 5)) (fun _ i _ => (intOf i + 1).toNat)
  case atStart => exact ⟨0, by omega, by simp, by simp, by rw [beTail_zeroS]⟩
  case round =>
    obtain ⟨k, hk, rfl, rfl, rfl⟩ := hrel
    have hsx : x >>> (8 * k) < 9223372036854775808 := Nat.lt_of_le_of_lt (Nat.shiftRight_le _ _) hx
    have hdiv : x >>> (8 * (k + 1)) = (x >>> (8 * k)) / 256 := by rw [show 8 * (k + 1) = 8 * k + 8 from by omega, Nat.shiftRight_add, Nat.shiftRight_eq_div_pow _ 8]
    have HD := Lib.hid hdiv; clear hdiv
    by_cases hlt : k < n
    · obtain ⟨j, hj⟩ : ∃ j : Nat, n = j + 1 + k := ⟨n - 1 - k, by omega⟩
      have ej : ((n : Int) - 1 - k) = (j : Int) := by omega
      rw [ej]
      have hand := and255S _ hsx
      generalize hy : x >>> (8 * k) = y at hsx hand HD
      have HY := Lib.hid hy; clear hy
      have hc : (w.alloc (.cells (u8s (beTailS x n k)).toArray 5)).cell? ⟨w.heap.size, j, none⟩ = some (u8 ((beTailS x n k).getD j 0)) := by
        rw [World.cell?_alloc_new]; simp [u8s, List.getD, beTail_lengthS x n k hk, show j < n by omega]
      have hjn : j < n := by omega
      have HJ := Lib.hid hj; clear hj
      clear ej
      go_wp2
      refine ⟨⟨k + 1, by omega, by rw [HD.out]; go_num, by have := HJ.out; go_num, ?_⟩, by simp [intOf]⟩
      have e := beTail_setS x n k hlt
      rw [show n - 1 - k = j from by have := HJ.out; omega, HY.out] at e
      rw [← e]
      rfl
    · obtain rfl : k = n := by omega
      have ek : ((k : Int) - 1 - k) = -1 := by omega
      rw [ek, beTail_fullS]
      have hcv := conv_block (P := Try.prog) (w.alloc (.cells (u8s (beB x k)).toArray 5)) 61 5 9 5 (0, 0) Try.underlying61 Try.underlying5 Try.underlying9 w.heap.size k (beB x k) k (beB_length _ _) (heap_alloc_new _ _)
      go_wp2
      go_ret
      exact ⟨rfl, (Turn.refl _ _).alloc _⟩

end Go.Proofs.Ytmifchdmlbcclaa
