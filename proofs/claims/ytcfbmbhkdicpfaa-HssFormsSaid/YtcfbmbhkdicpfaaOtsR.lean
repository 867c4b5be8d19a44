/- Chapter 4, the reference: parts of one-time signatures. -/
import Derived.Test.YtcfbmbhkdicpfaaShaQ
import Derived.Test.YtcfbmbhkdicpfaaOtsP
namespace Go.Proofs.Ytcfbmbhkdicpfaa
open Go.RowKit

set_option maxHeartbeats 400000 in
theorem H_any (w : World) (s : List UInt8) (hs : s.length ≤ 281474976710656) :
    Calls Try.prog 94 #[.string (bstr s)] w fun e w' => e = .returned (.string (bstr (shaV s))) ∧ Pure w w' := by
  go_enter Try.func94, Try.ntmps94
  go_wp2_with fail
  refine (Sha_any _ s hs).mono ?_
  rintro e w1 ⟨rfl, t1⟩
  go_wp2_with fail
  refine (T_any _ (shaV s) (shaV_length s)).mono ?_
  rintro e w2 ⟨rfl, t2⟩
  go_wp2
  go_ret
  exact ⟨rfl, t1.pure t2⟩

set_option maxHeartbeats 400000 in
theorem private_any (w : World) (head seed : List UInt8) (i : Nat) (hh : head.length ≤ 1000) (hs : seed.length ≤ 1000) (hi : i ≤ 1000) :
    Calls Try.prog 138 #[.string (bstr head), .int .i64 (i : Int), .string (bstr seed)] w fun e w' => e = .returned (.string (bstr (startV head i seed))) ∧ Pure w w' := by
  have hb2 : (beB i 2).length = 2 := beB_length _ _
  obtain ⟨A, hA⟩ : ∃ A, A = head ++ beB i 2 := ⟨_, rfl⟩
  obtain ⟨B, hB⟩ : ∃ B, B = A ++ [255] := ⟨_, rfl⟩
  obtain ⟨C, hC⟩ : ∃ C, C = B ++ seed := ⟨_, rfl⟩
  have hAl : A.length = head.length + 2 := by rw [hA, List.length_append, hb2]
  have hBl : B.length = head.length + 3 := by rw [hB, List.length_append, hAl]; rfl
  have hCl : C.length = head.length + 3 + seed.length := by rw [hC, List.length_append, hBl]
  have a1 : bstr head ++ bstr (beB i 2) = bstr A := by rw [hA]; exact bstr_app _ _
  have a2 : bstr A ++ (⟨#[255]⟩ : ByteArray) = bstr B := by rw [hB]; exact bstr_app A [255]
  have a3 : bstr B ++ bstr seed = bstr C := by rw [hC]; exact bstr_app _ _
  have hV : startV head i seed = shaV C := by rw [startV, hC, hB, hA]; simp
  rw [hV]
  have z1 := bstr_size head
  have z2 : (bstr (beB i 2)).size = 2 := by rw [bstr_size, hb2]
  have z3 : (bstr A).size = head.length + 2 := by rw [bstr_size, hAl]
  have z4 : (bstr B).size = head.length + 3 := by rw [bstr_size, hBl]
  have z5 := bstr_size seed
  have n1 : ¬ (9223372036854775807 < head.length + 2) := by omega
  have n2 : ¬ (9223372036854775807 < head.length + 2 + 1) := by omega
  have n3 : ¬ (9223372036854775807 < head.length + 3 + seed.length) := by omega
  have hlen : C.length ≤ 281474976710656 := by omega
  clear hA hB hC hV hAl hBl hCl
  go_enter Try.func138, Try.ntmps138
  go_wp2_with fail
  refine (Be_anyS i 2 _ (by omega) (by omega)).mono ?_
  rintro e w1 ⟨rfl, t1⟩
  go_wp2_with fail
  refine (H_any _ _ hlen).mono ?_
  rintro e w2 ⟨rfl, t2⟩
  go_wp2
  go_ret
  exact ⟨rfl, t1.pure t2⟩

set_option maxHeartbeats 1000000 in
theorem steps_any (w : World) (head : List UInt8) (i f n : Nat) (x : List UInt8) (hh : head.length ≤ 1000) (hi : i ≤ 1000) (hfn : f + n ≤ 1000) (hx : x.length = 32) :
    Calls Try.prog 137 #[.string (bstr head), .int .i64 (i : Int), .int .i64 (f : Int), .int .i64 ((f + n : Nat) : Int), .string (bstr x)] w fun e w' => e = .returned (.string (bstr (stepsV head i f n x))) ∧ Pure w w' := by
  have hb2 : (beB i 2).length = 2 := beB_length _ _
  have z1 := bstr_size head
  have z2 : (bstr (beB i 2)).size = 2 := by rw [bstr_size, hb2]
  have n1 : ¬ (9223372036854775807 < head.length + 2) := by omega
  have n2 : ¬ (9223372036854775807 < head.length + 2 + 1) := by omega
  have n3 : ¬ (9223372036854775807 < head.length + 3 + 32) := by omega
  obtain ⟨t, ht⟩ : ∃ t, t = f + n := ⟨_, rfl⟩
  rw [← ht]
  have HT := Lib.hid ht
  have ht1 : t ≤ 1000 := by omega
  clear ht
  go_enter Try.func137, Try.ntmps137
  go_wp2
  go_loopw [4, 11] (fun s j wr => ∃ k : Nat, k ≤ n ∧ s = .string (bstr (stepsV head i f k x)) ∧ j = .int .i64 ((f + k : Nat) : Int) ∧ Hid (Pure w wr)) (fun _ j _ => t - (intOf j).toNat)
  case atStart => exact ⟨0, by omega, rfl, rfl, Lib.hid (Turn.refl _ _)⟩
  case round =>
    obtain ⟨k, hk, rfl, rfl, HP⟩ := hrel
    by_cases hlt : k < n
    · obtain ⟨j, hj⟩ : ∃ j, j = f + k := ⟨_, rfl⟩
      rw [← hj]
      have q1 : (j : Int) < t := by have := HT.out; omega
      have i1 : IntKind.i64.wrap ((j : Int) + 1) = ((j + 1 : Nat) : Int) := by rw [IntWalk.i64_in _ (by omega)]; omega
      have hy : (stepsV head i f k x).length = 32 := stepsV_length _ _ _ _ _ hx
      have hst := stepsV_last head i f k x
      rw [← hj] at hst
      have HST := Lib.hid hst
      have HJ := Lib.hid hj
      clear hst hj
      generalize stepsV head i f k x = y at hy HST
      have hb1 : beB j 1 = [UInt8.ofNat j] := rfl
      obtain ⟨A, hA⟩ : ∃ A, A = head ++ beB i 2 := ⟨_, rfl⟩
      obtain ⟨B, hB⟩ : ∃ B, B = A ++ beB j 1 := ⟨_, rfl⟩
      obtain ⟨C, hC⟩ : ∃ C, C = B ++ y := ⟨_, rfl⟩
      have hAl : A.length = head.length + 2 := by rw [hA, List.length_append, hb2]
      have hBl : B.length = head.length + 3 := by rw [hB, List.length_append, hAl, hb1]; rfl
      have hCl : C.length = head.length + 3 + 32 := by rw [hC, List.length_append, hBl, hy]
      have a1 : bstr head ++ bstr (beB i 2) = bstr A := by rw [hA]; exact bstr_app _ _
      have a2 : bstr A ++ bstr (beB j 1) = bstr B := by rw [hB]; exact bstr_app _ _
      have a3 : bstr B ++ bstr y = bstr C := by rw [hC]; exact bstr_app _ _
      have hV : shaV (head ++ beB i 2 ++ UInt8.ofNat j :: y) = shaV C := by rw [hC, hB, hA, hb1]; simp
      rw [hV] at HST
      have z3 : (bstr A).size = head.length + 2 := by rw [bstr_size, hAl]
      have z4 : (bstr (beB j 1)).size = 1 := by rw [bstr_size, hb1]; rfl
      have z5 : (bstr B).size = head.length + 3 := by rw [bstr_size, hBl]
      have z6 : (bstr y).size = 32 := by rw [bstr_size, hy]
      have hlen : C.length ≤ 281474976710656 := by omega
      clear hb1 hA hB hC hV hAl hBl hCl
      go_wp2_with fail
      refine (Be_anyS i 2 _ (by omega) (by omega)).mono ?_
      rintro e w1 ⟨rfl, t1⟩
      go_wp2_with fail
      refine (Be_anyS j 1 _ (by omega) (by omega)).mono ?_
      rintro e w2 ⟨rfl, t2⟩
      go_wp2_with fail
      refine (H_any _ _ hlen).mono ?_
      rintro e w3 ⟨rfl, t3⟩
      have HP3 := Lib.hid (((HP.out.pure t1).pure t2).pure t3)
      clear t1 t2 t3
      go_wp2
      exact ⟨⟨k + 1, by omega, by rw [HST.out], by have := HJ.out; rw [this]; rfl, HP3⟩, by have := HT.out; have := HJ.out; simp [intOf]; omega⟩
    · obtain rfl : k = n := by omega
      have q1 : ¬ (((f + k : Nat) : Int) < t) := by have := HT.out; omega
      go_wp2
      go_ret
      exact ⟨rfl, HP.out⟩
end Go.Proofs.Ytcfbmbhkdicpfaa
