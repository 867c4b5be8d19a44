/- Package vec and its reference: rows of numbers, read. -/
import Derived.Test.YtjingpkgappblaaBase
import Derived.Test.YtjingpkgappblaaFit
import Derived.IntWalk
import Derived.Test.YtjingpkgappblaaRows
namespace Go.Proofs.Ytjingpkgappblaa
open Go.RowKit

/-- A row of numbers that can be read. -/
def Ints (w : World) (v : Value) (l : List Int) : Prop :=
  ∃ ao cap, v = .slice ao l.length cap ∧ l.length ≤ cap ∧ l.length ≤ 17592186044416 ∧ (ao = none → cap = 0) ∧ ∀ (i : Nat) (x : Int), l[i]? = some x → -9223372036854775808 ≤ x ∧ x ≤ 9223372036854775807 ∧ ∃ b o, ao = some ⟨b, o, none⟩ ∧ w.cell? ⟨b, o + i, none⟩ = some (.int .i64 x)
theorem Ints.pure {w w' : World} {v : Value} {l : List Int} (h : Ints w v l) (ht : Pure w w') : Ints w' v l := by
  obtain ⟨ao, cap, h1, h2, h3, h4, h5⟩ := h
  refine ⟨ao, cap, h1, h2, h3, h4, fun i x hx => ?_⟩
  obtain ⟨a1, a2, b, o, a3, a4⟩ := h5 i x hx
  exact ⟨a1, a2, b, o, a3, ht.cell a4 (fun e => e)⟩
theorem Ints.drewN {w : World} {v : Value} {l : List Int} (h : Ints w v l) (n : Nat) : Ints (w.drewN n) v l := h.pure ((Turn.refl _ _).drewN n)
theorem Ints.drawn {w : World} {v : Value} {l : List Int} {n : Nat} (h : Ints (w.drewN n) v l) : Ints w v l := by
  obtain ⟨ao, cap, h1, h2, h3, h4, h5⟩ := h
  exact ⟨ao, cap, h1, h2, h3, h4, fun i x hx => h5 i x hx⟩
theorem Ints.len {w : World} {v : Value} {l : List Int} (h : Ints w v l) : l.length ≤ 17592186044416 := by obtain ⟨_, _, _, _, h, _⟩ := h; exact h
theorem Ints.nil (w : World) : Ints w (.slice none 0 0) [] := ⟨none, 0, rfl, Nat.le_refl _, by simp, fun _ => rfl, fun i x hx => by simp at hx⟩
theorem Ints.at {w : World} {ao : Option Addr} {n cap : Nat} {l : List Int} (h : Ints w (.slice ao n cap) l) : l.length = n := by
  obtain ⟨_, _, h, _⟩ := h
  simp at h
  omega

/-- What May answers. -/
def inB (x : Int) : Bool := decide (0 ≤ x) && decide (x ≤ 256)
def mayB (l : List Int) : Bool := l.all inB && (decide (1 ≤ l.length) && decide (l.length ≤ 16))
def fitB (l m : List Int) : Bool := mayB l && mayB m && decide (l.length = m.length)
def lowB (l m : List Int) : Bool := (l.zip m).all fun p => decide (p.1 ≤ p.2)
def belowV (l m : List Int) : Bool × Int := if fitB l m then (lowB l m, 0) else (false, 1800)
def apartV (l m : List Int) : Bool × Int := if fitB l m then (!lowB l m && !lowB m l, 0) else (false, 1800)

theorem fitB_len {l m : List Int} (h : fitB l m = true) : l.length = m.length ∧ 1 ≤ l.length ∧ l.length ≤ 16 := by
  simp [fitB, mayB] at h
  omega
theorem all_take_succ {l : List Int} {k : Nat} {x : Int} {p : Int → Bool} (h : (l.take k).all p = true) (hx : l[k]? = some x) (hp : p x = true) : (l.take (k + 1)).all p = true := by
  rw [List.take_add_one, hx]
  simp at h ⊢
  exact ⟨h, hp⟩
theorem all_bad {l : List Int} {k : Nat} {x : Int} {p : Int → Bool} (hx : l[k]? = some x) (hp : p x = false) : l.all p = false := by
  rw [Bool.eq_false_iff]
  intro h
  have := List.all_eq_true.1 h x (List.mem_of_getElem? hx)
  simp [hp] at this

set_option maxHeartbeats 1000000 in
theorem May_any (w : World) (v : Value) (l : List Int) (h : Ints w v l) :
    Calls Try.prog 21 #[v] w fun e w' => e = .returned (.bool (mayB l)) ∧ w' = w := by
  obtain ⟨ao, cap, rfl, hcap, hlen, hnil, hel⟩ := h
  have HEL := Lib.hid hel; clear hel hnil
  go_enter Try.func21, Try.ntmps21
  go_wp2
  go_loop [7] (fun i => ∃ k : Nat, k ≤ l.length ∧ i = .int .i64 k ∧ Hid ((l.take k).all inB = true)) (fun i => l.length - (intOf i).toNat)
  case atStart => exact ⟨0, by omega, rfl, Lib.hid (by simp)⟩
  case round =>
    obtain ⟨k, hk, rfl, HA⟩ := hrel
    by_cases hlk : k < l.length
    · obtain ⟨x1, x2, b, o, rfl, hc⟩ := HEL.out k l[k] (by simp [hlk])
      have hx : Hid (l[k]? = some l[k]) := Lib.hid (by simp [hlk])
      generalize l[k] = x at x1 x2 hc hx
      by_cases hp : x < 0
      · have hd : decide (x < 0) = true := by simpa using hp
        go_wp2
        go_ret
        have := all_bad (p := inB) hx.out (by simp [inB]; omega)
        simp [mayB, this]
      · have hd : decide (x < 0) = false := by simpa using hp
        by_cases hq : 256 < x
        · go_wp2
          go_ret
          have := all_bad (p := inB) hx.out (by simp [inB]; omega)
          simp [mayB, this]
        · go_wp2
          refine ⟨⟨k + 1, by omega, by go_num, Lib.hid (all_take_succ HA.out hx.out (by simp [inB]; omega))⟩, by simp [intOf]; omega⟩
    · obtain rfl : k = l.length := by omega
      have hall := HA.out
      rw [List.take_length] at hall
      by_cases h1 : 1 ≤ l.length
      · go_wp2
        go_ret
        simp [mayB, hall, h1]
        omega
      · go_wp2
        go_ret
        simp [mayB, hall, h1]

set_option maxHeartbeats 1000000 in
theorem RMay_any (w : World) (v : Value) (l : List Int) (h : Ints w v l) :
    Calls Try.prog 22 #[v] w fun e w' => e = .returned (.bool (mayB l)) ∧ w' = w := by
  obtain ⟨ao, cap, rfl, hcap, hlen, hnil, hel⟩ := h
  have HEL := Lib.hid hel; clear hel hnil
  go_enter Try.func22, Try.ntmps22
  go_wp2
  go_loop [3] (fun i => ∃ k : Nat, k ≤ l.length ∧ i = .int .i64 k ∧ Hid ((l.take k).all inB = true)) (fun i => l.length - (intOf i).toNat)
  case atStart => exact ⟨0, by omega, rfl, Lib.hid (by simp)⟩
  case round =>
    obtain ⟨k, hk, rfl, HA⟩ := hrel
    by_cases hlk : k < l.length
    · obtain ⟨x1, x2, b, o, rfl, hc⟩ := HEL.out k l[k] (by simp [hlk])
      have hx : Hid (l[k]? = some l[k]) := Lib.hid (by simp [hlk])
      generalize l[k] = x at x1 x2 hc hx
      by_cases hp : x < 0
      · have hd : decide (x < 0) = true := by simpa using hp
        go_wp2
        go_ret
        have := all_bad (p := inB) hx.out (by simp [inB]; omega)
        simp [mayB, this]
      · have hd : decide (x < 0) = false := by simpa using hp
        by_cases hq : 256 < x
        · go_wp2
          go_ret
          have := all_bad (p := inB) hx.out (by simp [inB]; omega)
          simp [mayB, this]
        · go_wp2
          refine ⟨⟨k + 1, by omega, by go_num, Lib.hid (all_take_succ HA.out hx.out (by simp [inB]; omega))⟩, by simp [intOf]; omega⟩
    · obtain rfl : k = l.length := by omega
      have hall := HA.out
      rw [List.take_length] at hall
      by_cases h1 : 1 ≤ l.length
      · go_wp2
        go_ret
        simp [mayB, hall, h1]
        omega
      · go_wp2
        go_ret
        simp [mayB, hall, h1]

set_option maxHeartbeats 1000000 in
theorem fit_any (w : World) (v u : Value) (l m : List Int) (h : Ints w v l) (k : Ints w u m) :
    Calls Try.prog 46 #[v, u] w fun e w' => e = .returned (.bool (fitB l m)) ∧ w' = w := by
  by_cases h1 : mayB l = true
  · by_cases h2 : mayB m = true
    · have hh := h
      have kk := k
      obtain ⟨ao, cap, rfl, hcap, hlen, hnil, hel⟩ := hh
      obtain ⟨ao2, cap2, rfl, hcap2, hlen2, hnil2, hel2⟩ := kk
      clear hel hel2 hnil hnil2
      have C1 := Lib.hid h1
      have C2 := Lib.hid h2
      have e : fitB l m = decide (l.length = m.length) := by simp [fitB, h1, h2]
      rw [e]
      clear h1 h2 e
      go_enter Try.func46, Try.ntmps46
      go_wp2_with fail
      refine (May_any _ _ _ h).mono ?_
      rintro e w1 ⟨rfl, rfl⟩
      rw [C1.out]
      go_wp2_with fail
      refine (May_any _ _ _ k).mono ?_
      rintro e w1 ⟨rfl, rfl⟩
      rw [C2.out]
      go_wp2_with fail
      go_ret
      simp
      rw [Bool.eq_iff_iff]
      simp
      omega
    · have C1 := Lib.hid h1
      have h2' : mayB m = false := by simpa using h2
      have C2 := Lib.hid h2'
      have e : fitB l m = false := by simp [fitB, h2']
      rw [e]
      clear h1 h2 h2' e
      go_enter Try.func46, Try.ntmps46
      go_wp2_with fail
      refine (May_any _ _ _ h).mono ?_
      rintro e w1 ⟨rfl, rfl⟩
      rw [C1.out]
      go_wp2_with fail
      refine (May_any _ _ _ k).mono ?_
      rintro e w1 ⟨rfl, rfl⟩
      rw [C2.out]
      go_wp2_with fail
      go_ret
      simp
  · have h1' : mayB l = false := by simpa using h1
    have C1 := Lib.hid h1'
    have e : fitB l m = false := by simp [fitB, h1']
    rw [e]
    clear h1 h1' e
    go_enter Try.func46, Try.ntmps46
    go_wp2_with fail
    refine (May_any _ _ _ h).mono ?_
    rintro e w1 ⟨rfl, rfl⟩
    rw [C1.out]
    go_wp2_with fail
    go_ret
    simp

set_option maxHeartbeats 1000000 in
theorem like_any (w : World) (v u : Value) (l m : List Int) (h : Ints w v l) (k : Ints w u m) :
    Calls Try.prog 48 #[v, u] w fun e w' => e = .returned (.bool (fitB l m)) ∧ w' = w := by
  by_cases h1 : mayB l = true
  · by_cases h2 : mayB m = true
    · have hh := h
      have kk := k
      obtain ⟨ao, cap, rfl, hcap, hlen, hnil, hel⟩ := hh
      obtain ⟨ao2, cap2, rfl, hcap2, hlen2, hnil2, hel2⟩ := kk
      clear hel hel2 hnil hnil2
      have C1 := Lib.hid h1
      have C2 := Lib.hid h2
      have e : fitB l m = decide (l.length = m.length) := by simp [fitB, h1, h2]
      rw [e]
      clear h1 h2 e
      go_enter Try.func48, Try.ntmps48
      go_wp2_with fail
      refine (RMay_any _ _ _ h).mono ?_
      rintro e w1 ⟨rfl, rfl⟩
      rw [C1.out]
      go_wp2_with fail
      refine (RMay_any _ _ _ k).mono ?_
      rintro e w1 ⟨rfl, rfl⟩
      rw [C2.out]
      go_wp2_with fail
      go_ret
      simp
      rw [Bool.eq_iff_iff]
      simp
      omega
    · have C1 := Lib.hid h1
      have h2' : mayB m = false := by simpa using h2
      have C2 := Lib.hid h2'
      have e : fitB l m = false := by simp [fitB, h2']
      rw [e]
      clear h1 h2 h2' e
      go_enter Try.func48, Try.ntmps48
      go_wp2_with fail
      refine (RMay_any _ _ _ h).mono ?_
      rintro e w1 ⟨rfl, rfl⟩
      rw [C1.out]
      go_wp2_with fail
      refine (RMay_any _ _ _ k).mono ?_
      rintro e w1 ⟨rfl, rfl⟩
      rw [C2.out]
      go_wp2_with fail
      go_ret
      simp
  · have h1' : mayB l = false := by simpa using h1
    have C1 := Lib.hid h1'
    have e : fitB l m = false := by simp [fitB, h1']
    rw [e]
    clear h1 h1' e
    go_enter Try.func48, Try.ntmps48
    go_wp2_with fail
    refine (RMay_any _ _ _ h).mono ?_
    rintro e w1 ⟨rfl, rfl⟩
    rw [C1.out]
    go_wp2_with fail
    go_ret
    simp


/-- The pairs. -/
theorem zip_get {l m : List Int} {k : Nat} (h1 : k < l.length) (h2 : k < m.length) : (l.zip m)[k]? = some (l[k], m[k]) := by
  simp [List.getElem?_zip_eq_some, h1, h2]
def le2 (p : Int × Int) : Bool := decide (p.1 ≤ p.2)
theorem low_def (l m : List Int) : lowB l m = (l.zip m).all le2 := rfl
theorem all2_succ {l : List (Int × Int)} {k : Nat} {x : Int × Int} (h : (l.take k).all le2 = true) (hx : l[k]? = some x) (hp : x.1 ≤ x.2) : (l.take (k + 1)).all le2 = true := by
  rw [List.take_add_one, hx]
  simp [-List.all_eq_true] at h ⊢
  exact ⟨h, by simpa [le2] using hp⟩
theorem all2_bad {l : List (Int × Int)} {k : Nat} {x : Int × Int} (hx : l[k]? = some x) (hp : x.2 < x.1) : l.all le2 = false := by
  rw [Bool.eq_false_iff]
  intro h
  have := List.all_eq_true.1 h x (List.mem_of_getElem? hx)
  simp [le2] at this
  omega

set_option maxHeartbeats 1000000 in
theorem low_any (w : World) (v u : Value) (l m : List Int) (h : Ints w v l) (k : Ints w u m) (hl : l.length = m.length) :
    Calls Try.prog 47 #[v, u] w fun e w' => e = .returned (.bool (lowB l m)) ∧ Pure w w' := by
  obtain ⟨ao, cap, rfl, hcap, hlen, hnil, hel⟩ := h
  obtain ⟨ao2, cap2, rfl, hcap2, hlen2, hnil2, hel2⟩ := k
  rw [← hl] at hcap2
  have HL := Lib.hid hl; clear hl
  rw [← HL.out]
  have HEL := Lib.hid hel; clear hel hnil
  have HEL2 := Lib.hid hel2; clear hel2 hnil2 hlen2
  go_enter Try.func47, Try.ntmps47
  go_wp2
  go_loopw [5, 8] (fun _ i wr => ∃ k : Nat, k ≤ l.length ∧ i = .int .i64 k ∧ Hid (((l.zip m).take k).all le2 = true) ∧ ∃ q, wr = w.drewN q) (fun _ i _ => l.length - (intOf i).toNat)
  case atStart => exact ⟨0, by omega, rfl, Lib.hid (by simp), 0, rfl⟩
  case round =>
    obtain ⟨k, hk, rfl, HA, q, rfl⟩ := hrel
    by_cases hlk : k < l.length
    · have hlk2 : k < m.length := by rw [← HL.out]; exact hlk
      obtain ⟨x1, x2, b, o, rfl, hc⟩ := HEL.out k l[k] (by simp [hlk])
      obtain ⟨y1, y2, b2, o2, rfl, hc2⟩ := HEL2.out k m[k] (by simp [hlk2])
      have hx := Lib.hid (zip_get hlk hlk2)
      generalize l[k] = x at x1 x2 hc hx
      generalize m[k] = y at y1 y2 hc2 hx
      clear hlk2
      by_cases hp : y < x
      · have hd : decide (y < x) = true := by simpa using hp
        go_wp2_with fail
        go_quiet (fail)
        go_wp2
        go_ret
        refine ⟨?_, ((Turn.refl _ _).drewN q).drewN nq⟩
        rw [low_def, all2_bad hx.out hp]
        rfl
      · go_wp2_with fail
        go_quiet (fail)
        go_wp2
        exact ⟨⟨k + 1, by omega, by go_num, Lib.hid (all2_succ HA.out hx.out (by simpa using hp)), _, rfl⟩, by simp [intOf]; omega⟩
    · obtain rfl : k = l.length := by omega
      have hall := HA.out
      rw [List.take_of_length_le (by rw [List.length_zip]; omega), ← low_def] at hall
      go_wp2
      go_ret
      exact ⟨by rw [hall]; rfl, (Turn.refl _ _).drewN q⟩

set_option maxHeartbeats 1000000 in
theorem Below_any (w : World) (v u : Value) (l m : List Int) (h : Ints w v l) (k : Ints w u m) :
    Calls Try.prog 13 #[v, u] w fun e w' => e = .returned (.tuple #[.bool (belowV l m).1, .int .i64 (belowV l m).2]) ∧ Pure w w' := by
  by_cases hf : fitB l m = true
  · have e : belowV l m = (lowB l m, 0) := by rw [belowV, if_pos hf]
    have hl := (fitB_len hf).1
    rw [e]
    have HF := Lib.hid hf
    clear e hf
    go_enter Try.func13, Try.ntmps13
    go_wp2_with fail
    refine (fit_any _ _ _ _ _ h k).mono ?_
    rintro e w1 ⟨rfl, rfl⟩
    rw [HF.out]
    go_wp2_with fail
    refine (low_any _ _ _ _ _ h k hl).mono ?_
    rintro e w2 ⟨rfl, ht⟩
    go_wp2_with fail
    go_ret2
    exact ⟨rfl, ht⟩
  · have hf' : fitB l m = false := by simpa using hf
    have e : belowV l m = (false, 1800) := by rw [belowV, if_neg hf]
    rw [e]
    have HF := Lib.hid hf'
    clear e hf hf'
    go_enter Try.func13, Try.ntmps13
    go_wp2_with fail
    refine (fit_any _ _ _ _ _ h k).mono ?_
    rintro e w1 ⟨rfl, rfl⟩
    rw [HF.out]
    go_wp2_with fail
    go_ret2
    exact ⟨rfl, Turn.refl _ _⟩

set_option maxHeartbeats 1000000 in
theorem Apart_any (w : World) (v u : Value) (l m : List Int) (h : Ints w v l) (k : Ints w u m) :
    Calls Try.prog 17 #[v, u] w fun e w' => e = .returned (.tuple #[.bool (apartV l m).1, .int .i64 (apartV l m).2]) ∧ Pure w w' := by
  by_cases hf : fitB l m = true
  · have e : apartV l m = (!lowB l m && !lowB m l, 0) := by rw [apartV, if_pos hf]
    have hl := (fitB_len hf).1
    rw [e]
    have HF := Lib.hid hf
    clear e hf
    cases hA : lowB l m
    · have HA := Lib.hid hA; clear hA
      go_enter Try.func17, Try.ntmps17
      go_wp2_with fail
      refine (fit_any _ _ _ _ _ h k).mono ?_
      rintro e w1 ⟨rfl, rfl⟩
      rw [HF.out]
      go_wp2_with fail
      refine (low_any _ _ _ _ _ h k hl).mono ?_
      rintro e w2 ⟨rfl, ht⟩
      rw [HA.out]
      go_wp2_with fail
      refine (low_any _ _ _ _ _ (k.pure ht) (h.pure ht) hl.symm).mono ?_
      rintro e w3 ⟨rfl, ht2⟩
      go_wp2_with fail
      go_ret2
      exact ⟨by simp, ht.pure ht2⟩
    · have HA := Lib.hid hA; clear hA
      go_enter Try.func17, Try.ntmps17
      go_wp2_with fail
      refine (fit_any _ _ _ _ _ h k).mono ?_
      rintro e w1 ⟨rfl, rfl⟩
      rw [HF.out]
      go_wp2_with fail
      refine (low_any _ _ _ _ _ h k hl).mono ?_
      rintro e w2 ⟨rfl, ht⟩
      rw [HA.out]
      go_wp2_with fail
      go_ret2
      exact ⟨rfl, ht⟩
  · have hf' : fitB l m = false := by simpa using hf
    have e : apartV l m = (false, 1800) := by rw [apartV, if_neg hf]
    rw [e]
    have HF := Lib.hid hf'
    clear e hf hf'
    go_enter Try.func17, Try.ntmps17
    go_wp2_with fail
    refine (fit_any _ _ _ _ _ h k).mono ?_
    rintro e w1 ⟨rfl, rfl⟩
    rw [HF.out]
    go_wp2_with fail
    go_ret2
    exact ⟨rfl, Turn.refl _ _⟩

set_option maxHeartbeats 1000000 in
theorem RBelow_any (w : World) (v u : Value) (l m : List Int) (h : Ints w v l) (k : Ints w u m) :
    Calls Try.prog 14 #[v, u] w fun e w' => e = .returned (.tuple #[.bool (belowV l m).1, .int .i64 (belowV l m).2]) ∧ Pure w w' := by
  by_cases hf : fitB l m = true
  · have e : belowV l m = (lowB l m, 0) := by rw [belowV, if_pos hf]
    have hl := (fitB_len hf).1
    rw [e]
    have HF := Lib.hid hf
    clear e hf
    go_enter Try.func14, Try.ntmps14
    go_wp2_with fail
    refine (like_any _ _ _ _ _ h k).mono ?_
    rintro e w1 ⟨rfl, rfl⟩
    rw [HF.out]
    obtain ⟨ao, cap, rfl, hcap, hlen, hnil, hel⟩ := h
    obtain ⟨ao2, cap2, rfl, hcap2, hlen2, hnil2, hel2⟩ := k
    rw [← hl] at hcap2
    have HL := Lib.hid hl; clear hl
    rw [← HL.out]
    have HEL := Lib.hid hel; clear hel hnil
    have HEL2 := Lib.hid hel2; clear hel2 hnil2 hlen2
    go_wp2
    go_loopw [6] (fun i wr => ∃ k : Nat, k ≤ l.length ∧ i = .int .i64 k ∧ Hid (((l.zip m).take k).all le2 = true) ∧ ∃ q, wr = w1.drewN q) (fun i _ => l.length - (intOf i).toNat)
    case atStart => exact ⟨0, by omega, rfl, Lib.hid (by simp), 0, rfl⟩
    case round =>
      obtain ⟨k, hk, rfl, HA, q, rfl⟩ := hrel
      by_cases hlk : k < l.length
      · have hlk2 : k < m.length := by rw [← HL.out]; exact hlk
        obtain ⟨x1, x2, b, o, rfl, hc⟩ := HEL.out k l[k] (by simp [hlk])
        obtain ⟨y1, y2, b2, o2, rfl, hc2⟩ := HEL2.out k m[k] (by simp [hlk2])
        have hx := Lib.hid (zip_get hlk hlk2)
        generalize l[k] = x at x1 x2 hc hx
        generalize m[k] = y at y1 y2 hc2 hx
        clear hlk2
        by_cases hp : y < x
        · have hd : decide (y < x) = true := by simpa using hp
          go_wp2_with fail
          go_quiet (fail)
          go_wp2
          go_ret2
          refine ⟨?_, ((Turn.refl _ _).drewN q).drewN nq⟩
          rw [low_def, all2_bad hx.out hp]
          rfl
        · go_wp2_with fail
          go_quiet (fail)
          go_wp2
          exact ⟨⟨k + 1, by omega, by go_num, Lib.hid (all2_succ HA.out hx.out (by simpa using hp)), _, rfl⟩, by simp [intOf]; omega⟩
      · obtain rfl : k = l.length := by omega
        have hall := HA.out
        rw [List.take_of_length_le (by rw [List.length_zip]; omega), ← low_def] at hall
        go_wp2
        go_ret2
        exact ⟨by rw [hall]; rfl, (Turn.refl _ _).drewN q⟩
  · have hf' : fitB l m = false := by simpa using hf
    have e : belowV l m = (false, 1800) := by rw [belowV, if_neg hf]
    rw [e]
    have HF := Lib.hid hf'
    clear e hf hf'
    go_enter Try.func14, Try.ntmps14
    go_wp2_with fail
    refine (like_any _ _ _ _ _ h k).mono ?_
    rintro e w1 ⟨rfl, rfl⟩
    rw [HF.out]
    go_wp2_with fail
    go_ret2
    exact ⟨rfl, Turn.refl _ _⟩

theorem fitB_comm (l m : List Int) : fitB m l = fitB l m := by
  rw [Bool.eq_iff_iff]
  simp [fitB]
  constructor <;> (rintro ⟨⟨h1, h2⟩, h3⟩; exact ⟨⟨h2, h1⟩, h3.symm⟩)
set_option maxHeartbeats 1000000 in
theorem RApart_any (w : World) (v u : Value) (l m : List Int) (h : Ints w v l) (k : Ints w u m) :
    Calls Try.prog 18 #[v, u] w fun e w' => e = .returned (.tuple #[.bool (apartV l m).1, .int .i64 (apartV l m).2]) ∧ Pure w w' := by
  by_cases hf : fitB l m = true
  · have e : apartV l m = (!lowB l m && !lowB m l, 0) := by rw [apartV, if_pos hf]
    have e1 : belowV l m = (lowB l m, 0) := by rw [belowV, if_pos hf]
    have e2 : belowV m l = (lowB m l, 0) := by rw [belowV, if_pos (by rw [fitB_comm]; exact hf)]
    rw [e]
    clear e hf
    cases hA : lowB l m <;> cases hB : lowB m l
    all_goals
      rw [hA] at e1
      rw [hB] at e2
      have E1 := Lib.hid e1
      have E2 := Lib.hid e2
      clear e1 e2 hA hB
      go_enter Try.func18, Try.ntmps18
      go_wp2_with fail
      refine (RBelow_any _ _ _ _ _ h k).mono ?_
      rintro e w1 ⟨rfl, h1⟩
      rw [E1.out]
      go_wp2_with fail
      refine (RBelow_any _ _ _ _ _ (k.pure h1) (h.pure h1)).mono ?_
      rintro e w2 ⟨rfl, h2⟩
      rw [E2.out]
      have hT := h1.pure h2
      go_wp2_with fail
      go_ret2
      exact ⟨rfl, hT⟩
  · have e : apartV l m = (false, 1800) := by rw [apartV, if_neg hf]
    have e1 : belowV l m = (false, 1800) := by rw [belowV, if_neg hf]
    have e2 : belowV m l = (false, 1800) := by rw [belowV, if_neg (by rw [fitB_comm]; exact hf)]
    rw [e]
    have E1 := Lib.hid e1
    have E2 := Lib.hid e2
    clear e e1 e2 hf
    go_enter Try.func18, Try.ntmps18
    go_wp2_with fail
    refine (RBelow_any _ _ _ _ _ h k).mono ?_
    rintro e w1 ⟨rfl, h1⟩
    rw [E1.out]
    go_wp2_with fail
    refine (RBelow_any _ _ _ _ _ (k.pure h1) (h.pure h1)).mono ?_
    rintro e w2 ⟨rfl, h2⟩
    rw [E2.out]
    have hT := h1.pure h2
    go_wp2_with fail
    go_ret2
    exact ⟨rfl, hT⟩
end Go.Proofs.Ytjingpkgappblaa
