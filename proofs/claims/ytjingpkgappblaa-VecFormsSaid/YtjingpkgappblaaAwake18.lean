/- The law's own test of package vec. -/
import Derived.Test.YtjingpkgappblaaVec2
import Derived.Test.YtjingpkgappblaaOwn
namespace Go.Proofs.Ytjingpkgappblaa
open Go.RowKit

theorem ints_at {w : World} {g : Nat} {T : TypeId} {fr : Nat × Nat} {l : List Int} {n : Nat} (h : w.heap[g]? = some (.cells (ints l).toArray T fr)) (hn : n = l.length) (h1 : ∀ x ∈ l, -9223372036854775808 ≤ x ∧ x ≤ 9223372036854775807) (h2 : l.length ≤ 17592186044416) : Ints w (.slice (some ⟨g, 0, none⟩) n n) l := by
  subst hn
  exact ints_block h (Nat.le_refl _) (fun i x hx => h1 x (List.mem_of_getElem? hx)) h2

set_option maxHeartbeats 2000000 in
theorem awake18_any (w : World) : Calls Try.prog 24 #[] w fun e w' => e = .returned (.bool true) ∧ Pure w w' := by
  have C1 := Lib.hid (by decide : belowV [1, 2] [1, 3] = (true, 0))
  have C2 := Lib.hid (by decide : apartV [1, 2] [2, 1] = (true, 0))
  have C3 := Lib.hid (by decide : joinV [1, 2] [2, 1] = ([2, 2], 0))
  have C4 := Lib.hid (by decide : belowV [1, 2] [1] = (false, 1800))
  have C5 := Lib.hid (by decide : mayB [1, 2] = true)
  have C6 := Lib.hid (by decide : mayB [] = false)
  let A := (w.alloc (.cells (ints [1, 2]).toArray 3)).alloc (.cells (ints [2, 1]).toArray 3)
  have hA : Pure w A := ((Turn.refl _ w).alloc _).alloc _
  have hAB : Pure A (A.alloc (.cells (ints [1, 3]).toArray 3)) := (Turn.refl _ _).alloc _
  have ha : Ints A (.slice (some ⟨w.heap.size, 0, none⟩) 2 2) [1, 2] := ints_at (T := 3) (fr := (0, 0)) (by show ((w.alloc _).alloc _).heap[w.heap.size]? = _; exact ((Turn.refl (fun _ => False) _).alloc _).obj (heap_alloc_new _ _) (fun e => e)) rfl (by decide) (by decide)
  have hb : Ints A (.slice (some ⟨w.heap.size + 1, 0, none⟩) 2 2) [2, 1] := ints_at (T := 3) (fr := (0, 0)) (by have := heap_alloc_new (w.alloc (.cells (ints [1, 2]).toArray 3)) (.cells (ints [2, 1]).toArray 3); have e : ∀ o, (w.alloc o).heap.size = w.heap.size + 1 := (by intro o; simp); rw [e] at this; exact this) rfl (by decide) (by decide)
  have hd : Ints (A.alloc (.cells (ints [1, 3]).toArray 3)) (.slice (some ⟨w.heap.size + 1 + 1, 0, none⟩) 2 2) [1, 3] := ints_at (T := 3) (fr := (0, 0)) (by have := heap_alloc_new A (.cells (ints [1, 3]).toArray 3); simpa [A] using this) rfl (by decide) (by decide)
  have HA := Lib.hid hA; clear hA
  have HAB := Lib.hid hAB; clear hAB
  have Ha := Lib.hid ha; clear ha
  have Hb := Lib.hid hb; clear hb
  have Hd := Lib.hid hd; clear hd
  go_enter Try.func24, Try.ntmps24
  go_wp2_with fail
  refine (Below_any _ _ _ _ _ (Ha.out.pure HAB.out) Hd.out).mono ?_
  rintro e w1 ⟨rfl, h1⟩
  rw [C1.out]
  have ha := (Ha.out.pure HAB.out).pure h1
  have hb := (Hb.out.pure HAB.out).pure h1
  have hp := (HA.out.pure HAB.out).pure h1
  clear h1 HA HAB Ha Hb Hd C1
  clear_value A
  generalize w.heap.size = g at *
  go_wp2_with fail
  refine (Apart_any _ _ _ _ _ ha hb).mono ?_
  rintro e w2 ⟨rfl, h2⟩
  rw [C2.out]
  have ha := ha.pure h2
  have hb := hb.pure h2
  have hp := hp.pure h2
  clear h2
  go_wp2_with fail
  refine (Join_any _ _ _ _ _ ha hb).mono ?_
  rintro e w3 ⟨⟨j, rfl, hj⟩, h3⟩
  rw [C3.out] at hj ⊢
  have ha := ha.pure h3
  have hp := hp.pure h3
  clear hb h3
  have hq : Pure w3 (w3.alloc (.cells (ints [1]).toArray 3)) := (Turn.refl _ _).alloc _
  have hd : Ints (w3.alloc (.cells (ints [1]).toArray 3)) (.slice (some ⟨w3.heap.size, 0, none⟩) 1 1) [1] := ints_at (T := 3) (fr := (0, 0)) (heap_alloc_new _ _) rfl (by decide) (by decide)
  have HQ := Lib.hid hq; clear hq
  have Hd := Lib.hid hd; clear hd
  go_wp2_with fail
  refine (Below_any _ _ _ _ _ (ha.pure HQ.out) Hd.out).mono ?_
  rintro e w4 ⟨rfl, h4⟩
  rw [C4.out]
  have ha := (ha.pure HQ.out).pure h4
  have hj := (hj.pure HQ.out).pure h4
  have hp := (hp.pure HQ.out).pure h4
  clear h4 HQ Hd
  have hq : Pure w4 (w4.alloc (.cells (ints [2, 2]).toArray 3)) := (Turn.refl _ _).alloc _
  have hd : Ints (w4.alloc (.cells (ints [2, 2]).toArray 3)) (.slice (some ⟨w4.heap.size, 0, none⟩) 2 2) [2, 2] := ints_at (T := 3) (fr := (0, 0)) (heap_alloc_new _ _) rfl (by decide) (by decide)
  have HQ := Lib.hid hq; clear hq
  have Hd := Lib.hid hd; clear hd
  go_wp2_with (go_at_call 19; refine (Num_any _ _).mono ?_; rintro e w9 ⟨rfl, rfl⟩)
  refine (Same_any _ _ _ _ _ (hj.pure HQ.out) Hd.out).mono ?_
  rintro e w5 ⟨rfl, h5⟩
  rw [decide_eq_true rfl]
  have ha := (ha.pure HQ.out).pure h5
  have hp := (hp.pure HQ.out).pure h5
  clear h5 HQ Hd hj
  go_wp2_with (go_at_call 19; refine (Num_any _ _).mono ?_; rintro e w9 ⟨rfl, rfl⟩)
  refine (May_any _ _ _ ha).mono ?_
  rintro e w6 ⟨rfl, rfl⟩
  rw [C5.out]
  go_wp2_with fail
  refine (May_any _ _ _ (Ints.nil _)).mono ?_
  rintro e w7 ⟨rfl, rfl⟩
  rw [C6.out]
  go_wp2_with fail
  go_ret
  exact ⟨rfl, hp⟩
end Go.Proofs.Ytjingpkgappblaa
