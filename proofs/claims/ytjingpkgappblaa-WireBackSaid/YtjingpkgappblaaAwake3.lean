/- The law's own test of package wire. -/
import Derived.Test.YtjingpkgappblaaOwn
namespace Go.Proofs.Ytjingpkgappblaa
open Go.RowKit

set_option maxHeartbeats 1000000 in
theorem awake3_any (w : World) : Calls Try.prog 25 #[] w fun e w' => e = .returned (.bool true) ∧ Pure w w' := by
  have C1 := Lib.hid (by decide : wrNum [] 258 2 = (0, [1, 2]))
  have C2 := Lib.hid (by decide : wrText [1, 2] [97, 98] 1 = (0, [1, 2, 2, 97, 98]))
  have C3 := Lib.hid (by decide : wrNum [1, 2, 2, 97, 98] 256 1 = (301, [1, 2, 2, 97, 98]))
  have C4 := Lib.hid (by decide : rdNum [1, 2, 2, 97, 98] 2 = (258, 0, [2, 97, 98]))
  have C5 := Lib.hid (by decide : rdText [2, 97, 98] 1 = ([97, 98], 0, []))
  have C6 := Lib.hid (by decide : rdNum [] 4 = (0, 300, []))
  go_enter Try.func25, Try.ntmps25
  go_wp2_with fail
  refine (New_own (Turn.refl _ w)).mono ?_
  rintro e w1 ⟨rfl, h1⟩
  generalize w.heap.size = g at *
  go_wp2_with fail
  refine (WNum_own _ _ h1).mono ?_
  rintro e w2 ⟨rfl, h2⟩
  rw [C1.out] at h2 ⊢
  go_wp2_with fail
  refine (WText_own [97, 98] _ h2 (by simp)).mono ?_
  rintro e w3 ⟨rfl, h3⟩
  rw [C2.out] at h3 ⊢
  go_wp2_with fail
  refine (WNum_own _ _ h3).mono ?_
  rintro e w4 ⟨rfl, h4⟩
  rw [C3.out] at h4 ⊢
  go_wp2_with fail
  refine (WAll_own h4).mono ?_
  rintro e w5 ⟨rfl, rfl⟩
  go_wp2_with fail
  refine (Open_own [1, 2, 2, 97, 98] h4.pure (by simp)).mono ?_
  rintro e w5 ⟨rfl, h5⟩
  generalize w4.heap.size = g2 at *
  clear h1 h2 h3 h4
  go_wp2_with fail
  refine (RNum_own _ h5).mono ?_
  rintro e w6 ⟨rfl, h6⟩
  rw [C4.out] at h6 ⊢
  go_wp2_with fail
  refine (RText_own _ h6).mono ?_
  rintro e w7 ⟨rfl, h7⟩
  rw [C5.out] at h7 ⊢
  go_wp2_with fail
  refine (RNum_own _ h7).mono ?_
  rintro e w8 ⟨rfl, h8⟩
  rw [C6.out] at h8 ⊢
  go_wp2_with (first | (go_at_call 19; refine (Num_any _ _).mono ?_; rintro e w9 ⟨rfl, rfl⟩) | (go_at_call 42; refine (RLeft_own h8).mono ?_; rintro e w9 ⟨rfl, rfl⟩))
  go_ret
  exact ⟨rfl, h8.pure⟩
end Go.Proofs.Ytjingpkgappblaa
