/- Chapter 5: trees over one-time keys: the plain law; numbers, types, nodes. -/
import Derived.Test.YtmifchdmlbcclaaOtsF
import Derived.Test.YtmifchdmlbcclaaOwn
namespace Go.Proofs.Ytmifchdmlbcclaa
open Go.RowKit

/-- A height's type. -/
def typeV (h : Int) : Int := if h = 5 then 5 else 4026531840 + h
/-- A node over a one-time key. -/
def tipV (id : List UInt8) (r : Nat) (p : List UInt8) : List UInt8 := shaV (id ++ beB r 4 ++ [130, 130] ++ p)
/-- A node over two. -/
def nodV (id : List UInt8) (r : Nat) (a b : List UInt8) : List UInt8 := shaV (id ++ beB r 4 ++ [131, 131] ++ a ++ b)
/-- The nodes of a tree: with d levels beneath; leaves begin at m. -/
def treeV (id : List UInt8) (pub : Nat → List UInt8) (m : Nat) : Nat → Nat → List UInt8
  | 0, r => tipV id r (pub (r - m))
  | d + 1, r => nodV id r (treeV id pub m d (2 * r)) (treeV id pub m d (2 * r + 1))
theorem treeV_length (id : List UInt8) (pub : Nat → List UInt8) (m d r : Nat) : (treeV id pub m d r).length = 32 := by
  cases d with
  | zero => exact shaV_length _
  | succ d => exact shaV_length _
theorem wrNum_fit {bs : List UInt8} {x n : Nat} (hn : n = 1 ∨ n = 2 ∨ n = 4) (hx : x < 256 ^ n) (hl : bs.length ≤ 60000) : wrNum bs (x : Int) (n : Int) = (0, bs ++ beB x n) := by
  have hf : fitsB (x : Int) (n : Int) = true := by
    simp only [fitsB, Bool.and_eq_true, decide_eq_true_eq, Int.toNat_natCast]
    refine ⟨⟨by rcases hn with rfl | rfl | rfl <;> rfl, by omega⟩, ?_⟩
    have : ((256 ^ n : Nat) : Int) = (256 : Int) ^ n := by rw [Int.natCast_pow]; rfl
    rw [← this]; omega
  rw [wrNum, if_pos hf, Int.toNat_natCast, Int.toNat_natCast, wrPut, if_pos (by rw [beB_length]; omega)]

set_option maxRecDepth 100000 in
set_option maxHeartbeats 1000000 in
theorem lnum_any (w : World) (x n : Nat) (hn : n = 1 ∨ n = 2 ∨ n = 4) (hx : x < 256 ^ n) : Calls Try.prog 51 #[.int .i64 (x : Int), .int .i64 (n : Int)] w fun e w' => e = .returned (.string (bstr (beB x n))) ∧ Pure w w' := by
  have hw := wrNum_fit (bs := []) hn hx (by simp)
  rw [List.nil_append] at hw
  have HW := Lib.hid hw
  clear hw
  go_enter Try.func51, Try.ntmps51
  go_wp2_with fail
  refine (New_own (Turn.refl (fun _ => False) w)).mono ?_
  rintro e w1 ⟨rfl, o1⟩
  generalize w.heap.size = g at *
  go_wp2_with fail
  refine (WNum_own (x : Int) (n : Int) o1).mono ?_
  rintro e w2 ⟨rfl, o2⟩
  rw [HW.out] at o2 ⊢
  have HO := Lib.hid o2
  clear o1 o2
  go_wp2_with fail
  refine (WAll_own HO.out).mono ?_
  rintro e w3 ⟨rfl, rfl⟩
  have HP := Lib.hid HO.out.pure
  go_wp2
  go_ret
  exact ⟨rfl, HP.out⟩

set_option maxHeartbeats 1000000 in
theorem typeOf_any (w : World) (h : Int) (h1 : -4294967296 ≤ h) (h2 : h ≤ 4294967296) : Calls Try.prog 52 #[.int .i64 h] w fun e w' => e = .returned (.int .i64 (typeV h)) ∧ w' = w := by
  by_cases h5 : h = 5
  · subst h5
    go_enter Try.func52, Try.ntmps52
    go_wp2
    go_ret
    exact ⟨rfl, rfl⟩
  · have q : (h == 5) = false := beq_eq_false_iff_ne.2 h5
    have i1 : IntKind.i64.wrap (4026531840 + h) = 4026531840 + h := IntWalk.i64_in _ (by omega)
    have e : typeV h = 4026531840 + h := by rw [typeV, if_neg h5]
    rw [e]
    clear e h5
    go_enter Try.func52, Try.ntmps52
    go_wp2
    go_ret
    exact ⟨rfl, rfl⟩
set_option maxHeartbeats 1000000 in
theorem kindOfR_any (w : World) (h : Int) (h1 : -4294967296 ≤ h) (h2 : h ≤ 4294967296) : Calls Try.prog 54 #[.int .i64 h] w fun e w' => e = .returned (.int .i64 (typeV h)) ∧ w' = w := by
  by_cases h5 : h = 5
  · subst h5
    go_enter Try.func54, Try.ntmps54
    go_wp2
    go_ret
    exact ⟨rfl, rfl⟩
  · have q : (h == 5) = false := beq_eq_false_iff_ne.2 h5
    have i1 : IntKind.i64.wrap (4026531840 + h) = 4026531840 + h := IntWalk.i64_in _ (by omega)
    have e : typeV h = 4026531840 + h := by rw [typeV, if_neg h5]
    rw [e]
    clear e h5
    go_enter Try.func54, Try.ntmps54
    go_wp2
    go_ret
    exact ⟨rfl, rfl⟩
end Go.Proofs.Ytmifchdmlbcclaa
