/- The law Vecs, walked. -/
import Derived.Test.YtjingpkgappblaaAwake18
namespace Go.Proofs.Ytjingpkgappblaa
open Go.RowKit

theorem open_ints {H : Type} {enc : TypeId × Value → H} {w : World} {v : Value} (h : Fit enc Try.prog w 22 v.cells.toList) (hv : ∃ ao n c, v = .slice ao n c) : ∃ xs, Ints w v xs ∧ xs.length ≤ 17592186043904 := by
  obtain ⟨i, hi, h1, h2, h3⟩ := info_parts Try.infoInt
  have hsz : Try.prog.cellsOf 3 = 1 := by kernel_rfl
  have hby : Try.prog.bytesOf 3 = 8 := by kernel_rfl
  obtain ⟨xs, ⟨ao, cap, e1, e2, e3, e4⟩, hb⟩ := h.row (α := Int) (size := 1) (cells := fun x => [.int .i64 x]) (ok := fun x => -9223372036854775808 ≤ x ∧ x ≤ 9223372036854775807) Try.underlying22 hsz (by decide)
    (fun cs hcs => by
      obtain ⟨n, hn, hwf⟩ := hcs.int Try.underlying3
      exact ⟨n, hn, bounds_i64 hwf⟩) hv
  rw [hby] at hb
  refine ⟨xs, ⟨ao, cap, e1, e2, by omega, e3, fun j x hx => ?_⟩, by omega⟩
  obtain ⟨q1, b, o, q2, q3⟩ := e4 j x hx
  refine ⟨q1.1, q1.2, b, o, q2, ?_⟩
  have := q3 0 (.int .i64 x) rfl
  rw [Nat.mul_one, Nat.add_zero] at this
  exact this

theorem same_self (l : List Int) : decide (l = l) = true := decide_eq_true rfl

set_option maxRecDepth 100000 in
set_option maxHeartbeats 2000000 in
theorem Vecs_true (w : World) (v u : Value) (l m : List Int) (h : Ints w v l) (k : Ints w u m) (hl : l.length ≤ 17592186043904) (hm : m.length ≤ 17592186043904) :
    Calls Try.prog 3 #[v, u] w fun e w' => e = .returned (.bool true) ∧ Pure w w' := by
  go_enter Try.func3, Try.ntmps3
  go_wp2_with fail
  refine (LendInts_any _ _ _ h hl).mono ?_
  rintro e w1 ⟨x, rfl, hx, h1⟩
  go_wp2_with fail
  refine (LendInts_any _ _ _ (k.pure h1) hm).mono ?_
  rintro e w2 ⟨y, rfl, hy, h2⟩
  have hx := hx.pure h2
  have ht : Pure w w2 := h1.pure h2
  clear h1 h2
  go_wp2_with fail
  refine (Below_any _ _ _ _ _ hx.ints hy.ints).mono ?_
  rintro e w3 ⟨rfl, h3⟩
  have hx := hx.pure h3
  have hy := hy.pure h3
  have ht := ht.pure h3
  clear h3
  go_wp2_with fail
  refine (RBelow_any _ _ _ _ _ (h.pure ht) (k.pure ht)).mono ?_
  rintro e w4 ⟨rfl, h3⟩
  have hx := hx.pure h3
  have hy := hy.pure h3
  have ht := ht.pure h3
  clear h3
  go_wp2_with fail
  refine (Join_any _ _ _ _ _ hx.ints hy.ints).mono ?_
  rintro e w5 ⟨⟨r, rfl, hr⟩, h3⟩
  have hx := hx.pure h3
  have hy := hy.pure h3
  have ht := ht.pure h3
  clear h3
  go_wp2_with fail
  refine (RJoin_any _ _ _ _ _ (h.pure ht) (k.pure ht)).mono ?_
  rintro e w6 ⟨⟨s, rfl, hs⟩, h3⟩
  have hr := hr.pure h3
  have hx := hx.pure h3
  have hy := hy.pure h3
  have ht := ht.pure h3
  clear h3
  go_wp2_with fail
  refine (Apart_any _ _ _ _ _ hx.ints hy.ints).mono ?_
  rintro e w7 ⟨rfl, h3⟩
  have hr := hr.pure h3
  have hs := hs.pure h3
  have hx := hx.pure h3
  have hy := hy.pure h3
  have ht := ht.pure h3
  clear h3
  go_wp2_with fail
  refine (RApart_any _ _ _ _ _ (h.pure ht) (k.pure ht)).mono ?_
  rintro e w8 ⟨rfl, h3⟩
  have hr := hr.pure h3
  have hs := hs.pure h3
  have hx := hx.pure h3
  have hy := hy.pure h3
  have ht := ht.pure h3
  clear h3
  generalize belowV l m = B
  generalize apartV l m = C
  generalize joinV l m = D at hr hs
  go_wp2_with (go_at_call 19; refine (Num_any _ _).mono ?_; rintro e w9 ⟨rfl, rfl⟩)
  refine (Same_any _ _ _ _ _ hr hs).mono ?_
  rintro e w9 ⟨rfl, h3⟩
  rw [same_self]
  have hx := hx.pure h3
  have hy := hy.pure h3
  have ht := ht.pure h3
  clear h3 hr hs
  go_wp2_with (go_at_call 19; refine (Num_any _ _).mono ?_; rintro e w9 ⟨rfl, rfl⟩)
  refine (May_any _ _ _ hx.ints).mono ?_
  rintro e w10 ⟨rfl, rfl⟩
  go_wp2_with fail
  refine (RMay_any _ _ _ (h.pure ht)).mono ?_
  rintro e w10 ⟨rfl, rfl⟩
  generalize mayB l = M
  go_wp2_with fail
  refine (KeptInts_any _ _ _ _ hx (h.pure ht)).mono ?_
  rintro e w11 ⟨rfl, h3⟩
  have hy := hy.pure h3
  have ht := ht.pure h3
  clear h3 hx
  go_wp2_with fail
  refine (KeptInts_any _ _ _ _ hy (k.pure ht)).mono ?_
  rintro e w12 ⟨rfl, h3⟩
  have ht := ht.pure h3
  clear h3 hy
  go_wp2_with fail
  refine (awake18_any _).mono ?_
  rintro e w13 ⟨rfl, h3⟩
  have ht := ht.pure h3
  go_wp2_with fail
  go_ret
  exact ⟨rfl, ht⟩
end Go.Proofs.Ytjingpkgappblaa
