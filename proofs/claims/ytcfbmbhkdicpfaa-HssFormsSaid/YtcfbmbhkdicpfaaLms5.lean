/- Chapter 5: the height of a type; sizes. -/
import Derived.Test.YtcfbmbhkdicpfaaOtsW
import Derived.Test.YtcfbmbhkdicpfaaLms2
import Derived.Test.YtcfbmbhkdicpfaaGrow
namespace Go.Proofs.Ytcfbmbhkdicpfaa
open Go.RowKit

/-- A type's height; 0: there is none. -/
def hgtV (t : Int) : Nat := if t = 4026531841 then 1 else if t = 4026531842 then 2 else if t = 4026531843 then 3 else if t = 4026531844 then 4 else if t = 5 then 5 else 0
theorem hgtV_le (t : Int) : hgtV t ≤ 5 := by unfold hgtV; repeat' split
                                             all_goals omega
theorem hgtV_typeV (k : Nat) (h1 : 1 ≤ k) (h5 : k ≤ 5) : hgtV (typeV k) = k := by
  rcases (by omega : k = 1 ∨ k = 2 ∨ k = 3 ∨ k = 4 ∨ k = 5) with rfl | rfl | rfl | rfl | rfl <;> rfl
theorem typeV_hgtV (t : Int) (h : hgtV t ≠ 0) : typeV (hgtV t) = t := by
  unfold hgtV at h ⊢
  repeat' split
  all_goals first | (subst_vars; rfl) | (exfalso; simp_all)

set_option maxHeartbeats 1000000 in
theorem heightOf_any (w : World) (t : Int) : Calls Try.prog 95 #[.int .i64 t] w fun e w' => e = .returned (.tuple #[.int .i64 (hgtV t : Int), .bool (decide (hgtV t ≠ 0))]) ∧ w' = w := by
  have HT := Lib.hid (hgtV_typeV)
  have HU := Lib.hid (typeV_hgtV t)
  have HL := hgtV_le t
  obtain ⟨H, hH0⟩ : ∃ H, H = hgtV t := ⟨_, rfl⟩
  rw [← hH0] at HU HL ⊢
  have hHd := Lib.hid hH0; clear hH0
  go_enter Try.func95, Try.ntmps95
  go_wp2
  go_loopw [4] (fun i wr => ∃ k : Nat, k ≤ 6 ∧ 1 ≤ k ∧ i = .int .i64 (k : Int) ∧ (H = 0 ∨ k ≤ H) ∧ wr = w) (fun i _ => 6 - (intOf i).toNat)
  case atStart => exact ⟨1, by omega, by omega, rfl, by omega, rfl⟩
  case round =>
    obtain ⟨k, hk, hk1, rfl, hH, rfl⟩ := hrel
    by_cases hlt : k ≤ 5
    · have d1 : decide ((k : Int) ≤ 5) = true := by simp; omega
      go_wp2_with fail
      refine (typeOf_any _ _ (by omega) (by omega)).mono ?_
      rintro e w2 ⟨rfl, rfl⟩
      have HS : Hid (hgtV (typeV k) = k) := Lib.hid (HT.out k hk1 hlt)
      by_cases he : typeV k = t
      · have d2 : (typeV k == t) = true := by simp [he]
        have hk2 : H = k := by rw [hHd.out, ← he]; exact HS.out
        subst hk2
        go_wp2
        go_ret2
        exact ⟨by simp; omega, rfl⟩
      · have d2 : (typeV k == t) = false := by simp [he]
        have hne : H ≠ k := fun e => he (by rw [← e]; exact HU.out (by omega))
        go_wp2
        exact ⟨⟨k + 1, by omega, by omega, by go_num, by omega, by trivial⟩, by simp [intOf]; omega⟩
    · obtain rfl : k = 6 := by omega
      obtain rfl : H = 0 := by omega
      go_wp2
      go_ret2
      exact ⟨rfl, rfl⟩

set_option maxHeartbeats 1000000 in
theorem heightOfR_any (w : World) (t : Int) : Calls Try.prog 92 #[.int .i64 t] w fun e w' => e = .returned (.int .i64 (hgtV t : Int)) ∧ w' = w := by
  have HT := Lib.hid (hgtV_typeV)
  have HU := Lib.hid (typeV_hgtV t)
  have HL := hgtV_le t
  obtain ⟨H, hH0⟩ : ∃ H, H = hgtV t := ⟨_, rfl⟩
  rw [← hH0] at HU HL ⊢
  have hHd := Lib.hid hH0; clear hH0
  go_enter Try.func92, Try.ntmps92
  go_wp2
  go_loopw [3] (fun i wr => ∃ k : Nat, k ≤ 6 ∧ 1 ≤ k ∧ i = .int .i64 (k : Int) ∧ (H = 0 ∨ k ≤ H) ∧ wr = w) (fun i _ => 6 - (intOf i).toNat)
  case atStart => exact ⟨1, by omega, by omega, rfl, by omega, rfl⟩
  case round =>
    obtain ⟨k, hk, hk1, rfl, hH, rfl⟩ := hrel
    by_cases hlt : k ≤ 5
    · have d1 : decide ((k : Int) ≤ 5) = true := by simp; omega
      go_wp2_with fail
      refine (kindOfR_any _ _ (by omega) (by omega)).mono ?_
      rintro e w2 ⟨rfl, rfl⟩
      have HS : Hid (hgtV (typeV k) = k) := Lib.hid (HT.out k hk1 hlt)
      by_cases he : typeV k = t
      · have d2 : (typeV k == t) = true := by simp [he]
        have hk2 : H = k := by rw [hHd.out, ← he]; exact HS.out
        subst hk2
        go_wp2
        go_ret
        exact ⟨rfl, rfl⟩
      · have d2 : (typeV k == t) = false := by simp [he]
        have hne : H ≠ k := fun e => he (by rw [← e]; exact HU.out (by omega))
        go_wp2
        exact ⟨⟨k + 1, by omega, by omega, by go_num, by omega, by trivial⟩, by simp [intOf]; omega⟩
    · obtain rfl : k = 6 := by omega
      obtain rfl : H = 0 := by omega
      go_wp2
      go_ret
      exact ⟨rfl, rfl⟩

/-- A public key taken apart. -/
structure PKey where
  height : Nat
  ots : Int
  id : List UInt8
  root : List UInt8
def pkC (k : PKey) : List Value := [.int .i64 (k.height : Int), .int .i64 k.ots, .string (bstr k.id), .string (bstr k.root)]
theorem pk_cells {k : PKey} {W : World} {g : Nat} (hg : W.heap[g]? = some (.cells (pkC k).toArray 88 (0, 0))) : W.cell? ⟨g, 0, none⟩ = some (.int .i64 (k.height : Int)) ∧ W.cell? ⟨g, 1, none⟩ = some (.int .i64 k.ots) ∧ W.cell? ⟨g, 2, none⟩ = some (.string (bstr k.id)) ∧ W.cell? ⟨g, 3, none⟩ = some (.string (bstr k.root)) := by
  rw [cell_of_row W g 0 _ _ _ hg, cell_of_row W g 1 _ _ _ hg, cell_of_row W g 2 _ _ _ hg, cell_of_row W g 3 _ _ _ hg]
  exact ⟨rfl, rfl, rfl, rfl⟩
/-- How long a signature by a public key is. -/
def pkSize (k : PKey) : Nat := 8 + (36 + 32 * (parV k.ots).2.1) + 32 * k.height

set_option maxHeartbeats 1000000 in
theorem KeySize_any (w : World) (k : PKey) (hk : k.height ≤ 5) : Calls Try.prog 90 #[.agg (pkC k).toArray] w fun e w' => e = .returned (.int .i64 (pkSize k : Int)) ∧ Pure w w' := by
  have HC := Lib.hid (fun W g => @pk_cells k W g)
  obtain ⟨C, hC⟩ : ∃ C, C = pkC k := ⟨_, rfl⟩
  rw [← hC] at HC ⊢
  clear hC
  have hp := fun W => Size_any W k.ots
  have hs : pkSize k = 8 + (36 + 32 * (parV k.ots).2.1) + 32 * k.height := rfl
  have hq := parV_le k.ots
  generalize (parV k.ots).2.1 = P at hp hs hq
  generalize pkSize k = Z at hs ⊢
  obtain ⟨h, o, id, root⟩ := k
  simp only at HC hp hs hk
  obtain ⟨S, hS⟩ : ∃ S, S = 36 + 32 * P := ⟨_, rfl⟩
  rw [← hS] at hp hs
  have hS2 : S ≤ 3000 := by omega
  clear hS hq
  have n1 : wrap64 (8 + (S : Int)) = ((8 + S : Nat) : Int) := by unfold wrap64; omega
  have n2 : wrap64 (32 * (h : Int)) = ((32 * h : Nat) : Int) := by unfold wrap64; omega
  have n3 : wrap64 (((8 + S : Nat) : Int) + ((32 * h : Nat) : Int)) = (Z : Int) := by unfold wrap64; omega
  have HPP := Lib.hid hp; clear hp
  have HZ := Lib.hid hs; clear hs
  go_enter Try.func90, Try.ntmps90
  go_wp2_with (refine wpList_boxV rfl 88 _ rfl C rfl ?_)
  intro g1 w1 e1 c1 t1 s1
  clear e1 s1
  have PT := Lib.hid t1
  obtain ⟨k0, k1, k2, k3⟩ := HC.out _ _ c1
  go_wp2_with fail
  refine (HPP.out _).mono ?_
  rintro e w2 ⟨rfl, t2⟩
  have D1 := t2.obj c1 (fun e => e); have PT := Lib.hid (PT.out.pure t2)
  clear k0 k1 k2 k3 c1 t1 t2
  obtain ⟨k0, k1, k2, k3⟩ := HC.out _ _ D1
  clear D1
  go_wp2
  go_ret
  exact ⟨by rw [show (Z : Int) = 8 + (S : Int) + 32 * (h : Int) by have := HZ.out; omega]; rfl, PT.out⟩

/-- How long a signature is (reference). -/
def lsizeV (t o : Int) : Nat := if (parV o).2.1 = 0 ∨ hgtV t = 0 then 0 else 44 + 32 * (parV o).2.1 + 32 * hgtV t

set_option maxHeartbeats 1000000 in
theorem lmsSize_any (w : World) (t o : Int) : Calls Try.prog 45 #[.int .i64 t, .int .i64 o] w fun e w' => e = .returned (.int .i64 (lsizeV t o : Int)) ∧ w' = w := by
  have hp := fun W => Params_any W o
  have hh := fun W => heightOfR_any W t
  have hq := parV_le o
  have hl := hgtV_le t
  have hs : lsizeV t o = if (parV o).2.1 = 0 ∨ hgtV t = 0 then 0 else 44 + 32 * (parV o).2.1 + 32 * hgtV t := rfl
  generalize (parV o).1 = W1 at hp
  generalize (parV o).2.1 = P at hp hs hq
  generalize (parV o).2.2 = W3 at hp
  generalize hgtV t = H at hh hs hl
  generalize lsizeV t o = Z at hs ⊢
  have HPP := Lib.hid hp; clear hp
  have HHH := Lib.hid hh; clear hh
  go_enter Try.func45, Try.ntmps45
  go_wp2_with fail
  refine (HPP.out _).mono ?_
  rintro e w1 ⟨rfl, rfl⟩
  go_wp2_with fail
  refine (HHH.out _).mono ?_
  rintro e w2 ⟨rfl, rfl⟩
  by_cases p0 : P = 0
  · subst p0
    rw [if_pos (Or.inl rfl)] at hs
    subst hs
    go_wp2
    go_ret
    exact ⟨rfl, rfl⟩
  · have d1 : ((P : Int) == 0) = false := by simp; omega
    have d1n : (P == 0) = false := by simp; omega
    by_cases p1 : H = 0
    · subst p1
      rw [if_pos (Or.inr rfl)] at hs
      subst hs
      go_wp2
      go_ret
      exact ⟨rfl, rfl⟩
    · have d2 : ((H : Int) == 0) = false := by simp; omega
      have d2n : (H == 0) = false := by simp; omega
      rw [if_neg (by omega)] at hs
      have n1 : wrap64 (32 * (P : Int)) = ((32 * P : Nat) : Int) := by unfold wrap64; omega
      have n2 : wrap64 (40 + ((32 * P : Nat) : Int)) = ((40 + 32 * P : Nat) : Int) := by unfold wrap64; omega
      have n3 : wrap64 (((40 + 32 * P : Nat) : Int) + 4) = ((44 + 32 * P : Nat) : Int) := by unfold wrap64; omega
      have n4 : wrap64 (32 * (H : Int)) = ((32 * H : Nat) : Int) := by unfold wrap64; omega
      have n5 : wrap64 (((44 + 32 * P : Nat) : Int) + ((32 * H : Nat) : Int)) = (Z : Int) := by unfold wrap64; omega
      have HZ := Lib.hid hs
      clear hs p0 p1
      go_wp2
      go_ret
      exact ⟨by rw [show (Z : Int) = 40 + 32 * (P : Int) + 4 + 32 * (H : Int) by have := HZ.out; omega]; rfl, rfl⟩
end Go.Proofs.Ytcfbmbhkdicpfaa
