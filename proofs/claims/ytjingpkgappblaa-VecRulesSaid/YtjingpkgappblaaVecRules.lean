/- The law VecRules, walked. -/
import Derived.Test.YtjingpkgappblaaVecs
namespace Go.Proofs.Ytjingpkgappblaa
open Go.RowKit

/-! Order, in plain lists. -/
theorem lowB_iff {l m : List Int} (_h : l.length = m.length) : lowB l m = true ↔ ∀ (i : Nat) (x y : Int), l[i]? = some x → m[i]? = some y → x ≤ y := by
  rw [lowB, List.all_eq_true]
  constructor
  · intro H i x y hx hy
    have := H (x, y) (List.mem_of_getElem? (i := i) (by rw [List.getElem?_zip_eq_some]; exact ⟨hx, hy⟩))
    simpa using this
  · intro H p hp
    obtain ⟨i, hi⟩ := List.getElem?_of_mem hp
    rw [List.getElem?_zip_eq_some] at hi
    simpa using H i _ _ hi.1 hi.2
theorem get_some {l : List Int} {n i : Nat} (h : l.length = n) (hi : i < n) : ∃ x, l[i]? = some x := ⟨l[i]'(by rw [h]; exact hi), by simp⟩
theorem joinL_get? {l m : List Int} {i : Nat} {x y : Int} (hx : l[i]? = some x) (hy : m[i]? = some y) : (joinL l m)[i]? = some (maxI x y) := by
  simp [joinL, List.getElem?_zipWith, hx, hy]
theorem maxI_le (x y z : Int) : maxI x y ≤ z ↔ x ≤ z ∧ y ≤ z := by unfold maxI; split <;> omega
theorem low_join_left {l m : List Int} (h : l.length = m.length) : lowB l (joinL l m) = true := by
  rw [lowB_iff (by rw [joinL_length h])]
  intro i x y hx hy
  obtain ⟨z, hz⟩ := get_some (i := i) h.symm (List.getElem?_eq_some_iff.1 hx).1
  rw [joinL_get? hx hz] at hy
  have := (maxI_le x z y).1 (by simp at hy; omega)
  exact this.1
theorem low_join_right {l m : List Int} (h : l.length = m.length) : lowB m (joinL l m) = true := by
  rw [lowB_iff (by rw [joinL_length h]; exact h.symm)]
  intro i x y hx hy
  obtain ⟨z, hz⟩ := get_some (i := i) h (List.getElem?_eq_some_iff.1 hx).1
  rw [joinL_get? hz hx] at hy
  have := (maxI_le z x y).1 (by simp at hy; omega)
  exact this.2
theorem low_of_join {l m c : List Int} (h : l.length = m.length) (hc : c.length = l.length) : lowB (joinL l m) c = (lowB l c && lowB m c) := by
  rw [Bool.eq_iff_iff, Bool.and_eq_true, lowB_iff (by rw [joinL_length h]; exact hc.symm), lowB_iff hc.symm, lowB_iff (by omega)]
  constructor
  · intro H
    refine ⟨fun i x z hx hz => ?_, fun i y z hy hz => ?_⟩
    · obtain ⟨y, hy⟩ := get_some (i := i) h.symm (List.getElem?_eq_some_iff.1 hx).1
      exact ((maxI_le x y z).1 (H i _ z (joinL_get? hx hy) hz)).1
    · obtain ⟨x, hx⟩ := get_some (i := i) h (List.getElem?_eq_some_iff.1 hy).1
      exact ((maxI_le x y z).1 (H i _ z (joinL_get? hx hy) hz)).2
  · rintro ⟨H1, H2⟩ i v z hv hz
    have hi : i < (joinL l m).length := (List.getElem?_eq_some_iff.1 hv).1
    rw [joinL_length h] at hi
    obtain ⟨x, hx⟩ := get_some (i := i) rfl hi
    obtain ⟨y, hy⟩ := get_some (i := i) h.symm hi
    rw [joinL_get? hx hy] at hv
    have := (maxI_le x y z).2 ⟨H1 i x z hx hz, H2 i y z hy hz⟩
    simp at hv
    omega
theorem low_both {l m : List Int} (h : l.length = m.length) : (lowB l m && lowB m l) = decide (l = m) := by
  rw [Bool.eq_iff_iff, Bool.and_eq_true, lowB_iff h, lowB_iff h.symm, decide_eq_true_iff]
  constructor
  · rintro ⟨H1, H2⟩
    apply List.ext_getElem h
    intro i h1 h2
    have a := H1 i l[i] m[i] (by simp) (by simp)
    have b := H2 i m[i] l[i] (by simp) (by simp)
    omega
  · rintro rfl
    exact ⟨fun i x y hx hy => by rw [hx] at hy; simp at hy; omega, fun i x y hx hy => by rw [hx] at hy; simp at hy; omega⟩
theorem low_trans {l m c : List Int} (h : l.length = m.length) (hc : c.length = l.length) (h1 : lowB l m = true) (h2 : lowB m c = true) : lowB l c = true := by
  rw [lowB_iff (by omega)] at *
  intro i x z hx hz
  obtain ⟨y, hy⟩ := get_some (i := i) h.symm (List.getElem?_eq_some_iff.1 hx).1
  have a := h1 i x y hx hy
  have b := h2 i y z hy hz
  omega
theorem may_join {l m : List Int} (h : fitB l m = true) : mayB (joinL l m) = true := by
  obtain ⟨hl, h1, h16⟩ := fitB_len h
  simp only [fitB, mayB, Bool.and_eq_true, decide_eq_true_eq] at h
  simp only [mayB, Bool.and_eq_true, decide_eq_true_eq, joinL_length hl]
  refine ⟨List.all_eq_true.2 fun v hv => ?_, h1, h16⟩
  obtain ⟨i, hi⟩ := List.getElem?_of_mem hv
  have hi' : i < (joinL l m).length := (List.getElem?_eq_some_iff.1 hi).1
  rw [joinL_length hl] at hi'
  obtain ⟨x, hx⟩ := get_some (i := i) rfl hi'
  obtain ⟨y, hy⟩ := get_some (i := i) hl.symm hi'
  rw [joinL_get? hx hy] at hi
  have a := List.all_eq_true.1 h.1.1.1 x (List.mem_of_getElem? hx)
  have b := List.all_eq_true.1 h.1.2.1 y (List.mem_of_getElem? hy)
  simp only [inB, Bool.and_eq_true, decide_eq_true_eq] at a b ⊢
  simp only [Option.some.injEq] at hi
  subst hi
  unfold maxI
  split <;> omega

theorem below_fit {l m : List Int} (h : fitB l m = true) : belowV l m = (lowB l m, 0) := by rw [belowV, if_pos h]
theorem fit_intro {l m : List Int} (h1 : mayB l = true) (h2 : mayB m = true) (h : l.length = m.length) : fitB l m = true := by simp [fitB, h1, h2, h]

set_option maxRecDepth 100000 in
set_option maxHeartbeats 4000000 in
theorem VecRules_true (w : World) (v u z : Value) (l m c : List Int) (h : Ints w v l) (k : Ints w u m) (n : Ints w z c) :
    Calls Try.prog 4 #[v, u, z] w fun e w' => e = .returned (.bool true) ∧ Pure w w' := by
  by_cases hf : fitB l m = true
  · have e1 : joinV l m = (joinL l m, 0) := by rw [joinV, if_pos hf]
    have E1 := Lib.hid e1; clear e1
    obtain ⟨hl, hl1, hl16⟩ := fitB_len hf
    by_cases hcl : c.length = l.length
    · by_cases hmc : mayB c = true
      · have hml : mayB l = true := by simp [fitB] at hf; exact hf.1.1
        have hmm : mayB m = true := by simp [fitB] at hf; exact hf.1.2
        have hmj := may_join hf
        have hjl := joinL_length hl
        have B1 := Lib.hid (below_fit (fit_intro hml hmj hjl.symm)); rw [low_join_left hl] at B1
        have B2 := Lib.hid (below_fit (fit_intro hmm hmj (by omega))); rw [low_join_right hl] at B2
        have B3 := Lib.hid (below_fit (fit_intro hml hmc hcl.symm))
        have B4 := Lib.hid (below_fit (fit_intro hmm hmc (by omega)))
        have B5 := Lib.hid (below_fit (fit_intro hmj hmc (by omega))); rw [low_of_join hl hcl] at B5
        have B6 := Lib.hid (below_fit hf)
        have B7 := Lib.hid (below_fit (fit_intro hmm hml hl.symm))
        have B8 : apartV l m = (!lowB l m && !lowB m l, 0) := by rw [apartV, if_pos hf]
        have B8 := Lib.hid B8
        have S1 := Lib.hid (low_both hl)
        have T1 : lowB l m = true → lowB m c = true → lowB l c = true := low_trans hl hcl
        have hd : ((c.length : Int) != (l.length : Int)) = false := by simp; omega
        have HM := Lib.hid hmc
        generalize lowB l m = U at B6 B8 S1 T1
        generalize lowB m l = V at B7 B8 S1
        generalize lowB l c = R at B3 B5 T1
        generalize lowB m c = S at B4 B5 T1
        have HT := Lib.hid T1
        clear T1 hmc hml hmm hmj hjl hf hl hl1 hl16 hcl
        have hh := h
        have nn := n
        obtain ⟨ao, cap, rfl, _, hb1, _, _⟩ := hh
        obtain ⟨ao3, cap3, rfl, _, hb3, _, _⟩ := nn
        go_enter Try.func4, Try.ntmps4
        go_wp2_with fail
        refine (awake18_any _).mono ?_
        rintro e w1 ⟨rfl, ht⟩
        go_wp2_with fail
        refine (Join_any _ _ _ _ _ (h.pure ht) (k.pure ht)).mono ?_
        rintro e w2 ⟨⟨j, rfl, hj⟩, h2⟩
        rw [E1.out] at hj ⊢
        have ht := ht.pure h2
        clear h2
        go_wp2_with (go_at_call 19; refine (Num_any _ _).mono ?_; rintro e w9 ⟨rfl, rfl⟩)
        refine (May_any _ _ _ (n.pure ht)).mono ?_
        rintro e w3 ⟨rfl, rfl⟩
        rw [HM.out]
        go_wp2_with fail
        refine (Below_any _ _ _ _ _ (h.pure ht) hj).mono ?_
        rintro e w4 ⟨rfl, h2⟩
        rw [B1.out]
        have hj := hj.pure h2
        have ht := ht.pure h2
        clear h2
        go_wp2_with fail
        refine (Below_any _ _ _ _ _ (k.pure ht) hj).mono ?_
        rintro e w5 ⟨rfl, h2⟩
        rw [B2.out]
        have hj := hj.pure h2
        have ht := ht.pure h2
        clear h2
        go_wp2_with fail
        refine (Below_any _ _ _ _ _ (h.pure ht) (n.pure ht)).mono ?_
        rintro e w6 ⟨rfl, h2⟩
        rw [B3.out]
        have hj := hj.pure h2
        have ht := ht.pure h2
        clear h2
        go_wp2_with fail
        refine (Below_any _ _ _ _ _ (k.pure ht) (n.pure ht)).mono ?_
        rintro e w7 ⟨rfl, h2⟩
        rw [B4.out]
        have hj := hj.pure h2
        have ht := ht.pure h2
        clear h2
        go_wp2_with fail
        refine (Below_any _ _ _ _ _ hj (n.pure ht)).mono ?_
        rintro e w8 ⟨rfl, h2⟩
        rw [B5.out]
        have ht := ht.pure h2
        clear h2 hj
        go_wp2_with fail
        refine (Below_any _ _ _ _ _ (h.pure ht) (k.pure ht)).mono ?_
        rintro e w9 ⟨rfl, h2⟩
        rw [B6.out]
        have ht := ht.pure h2
        clear h2
        go_wp2_with fail
        refine (Below_any _ _ _ _ _ (k.pure ht) (h.pure ht)).mono ?_
        rintro e w10 ⟨rfl, h2⟩
        rw [B7.out]
        have ht := ht.pure h2
        clear h2
        go_wp2_with fail
        refine (Apart_any _ _ _ _ _ (h.pure ht) (k.pure ht)).mono ?_
        rintro e w11 ⟨rfl, h2⟩
        rw [B8.out]
        have ht := ht.pure h2
        clear h2 B1 B2 B3 B4 B5 B6 B7 B8 E1 HM
        have hk := Same_any _ _ _ _ _ (h.pure ht) (k.pure ht)
        rw [← S1.out] at hk
        clear S1 h k n
        have HK := Lib.hid hk
        clear hk
        have HT2 := Lib.hid ht
        clear ht
        have key : R = true ∨ ¬ (U = true ∧ S = true) := by
          by_cases hu : U = true ∧ S = true
          · exact .inl (HT.out hu.1 hu.2)
          · exact .inr hu
        have KEY := Lib.hid key
        clear HT key
        cases U <;> cases V <;> cases R <;> cases S
        all_goals
          first
          | (exfalso; have := KEY.out; simp at this; done)
          | (clear KEY
             go_wp2_with fail
             refine HK.out.mono ?_
             rintro e w12 ⟨rfl, h2⟩
             have ht := HT2.out.pure h2
             clear HK h2 HT2
             go_wp2_with fail
             go_ret
             exact ⟨rfl, ht⟩)
      · have hmc' : mayB c = false := by simpa using hmc
        have HM := Lib.hid hmc'
        have hd : ((c.length : Int) != (l.length : Int)) = false := by simp; omega
        clear hmc hmc' hf hl hl1 hl16 hcl
        have hh := h
        obtain ⟨ao, cap, rfl, _, hb1, _, _⟩ := hh
        have nn := n
        obtain ⟨ao3, cap3, rfl, _, hb3, _, _⟩ := nn
        go_enter Try.func4, Try.ntmps4
        go_wp2_with fail
        refine (awake18_any _).mono ?_
        rintro e w1 ⟨rfl, ht⟩
        go_wp2_with fail
        refine (Join_any _ _ _ _ _ (h.pure ht) (k.pure ht)).mono ?_
        rintro e w2 ⟨⟨j, rfl, hj⟩, h2⟩
        rw [E1.out]
        have ht := ht.pure h2
        clear h2 hj
        go_wp2_with (go_at_call 19; refine (Num_any _ _).mono ?_; rintro e w9 ⟨rfl, rfl⟩)
        refine (May_any _ _ _ (n.pure ht)).mono ?_
        rintro e w3 ⟨rfl, rfl⟩
        rw [HM.out]
        go_wp2_with fail
        go_ret
        exact ⟨rfl, ht⟩
    · have hd : ((c.length : Int) != (l.length : Int)) = true := by simp; omega
      clear hf hl hl1 hl16 hcl
      have hh := h
      obtain ⟨ao, cap, rfl, _, hb1, _, _⟩ := hh
      have nn := n
      obtain ⟨ao3, cap3, rfl, _, hb3, _, _⟩ := nn
      go_enter Try.func4, Try.ntmps4
      go_wp2_with fail
      refine (awake18_any _).mono ?_
      rintro e w1 ⟨rfl, ht⟩
      go_wp2_with fail
      refine (Join_any _ _ _ _ _ (h.pure ht) (k.pure ht)).mono ?_
      rintro e w2 ⟨⟨j, rfl, hj⟩, h2⟩
      rw [E1.out]
      have ht := ht.pure h2
      clear h2 hj
      go_wp2_with (go_at_call 19; refine (Num_any _ _).mono ?_; rintro e w9 ⟨rfl, rfl⟩)
      go_ret
      exact ⟨rfl, ht⟩
  · have e1 : joinV l m = ([], 1800) := by rw [joinV, if_neg hf]
    have E1 := Lib.hid e1
    clear e1 hf
    have hh := h
    obtain ⟨ao, cap, rfl, _, hb1, _, _⟩ := hh
    have nn := n
    obtain ⟨ao3, cap3, rfl, _, hb3, _, _⟩ := nn
    go_enter Try.func4, Try.ntmps4
    go_wp2_with fail
    refine (awake18_any _).mono ?_
    rintro e w1 ⟨rfl, ht⟩
    go_wp2_with fail
    refine (Join_any _ _ _ _ _ (h.pure ht) (k.pure ht)).mono ?_
    rintro e w2 ⟨⟨j, rfl, hj⟩, h2⟩
    rw [E1.out]
    have ht := ht.pure h2
    clear h2 hj
    go_wp2_with (go_at_call 19; refine (Num_any _ _).mono ?_; rintro e w9 ⟨rfl, rfl⟩)
    go_ret
    exact ⟨rfl, ht⟩
end Go.Proofs.Ytjingpkgappblaa
