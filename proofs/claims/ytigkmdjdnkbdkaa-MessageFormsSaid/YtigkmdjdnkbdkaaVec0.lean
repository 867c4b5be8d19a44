/- Package vec and its reference: rows of numbers; what May answers. -/
import Derived.Test.YtigkmdjdnkbdkaaBase
import Derived.Test.YtigkmdjdnkbdkaaFit
import Derived.IntWalk
import Derived.Test.YtigkmdjdnkbdkaaRows
namespace Go.Proofs.Ytigkmdjdnkbdkaa
open Go.RowKit

/-- A row of numbers that can be read. -/
def Ints (w : World) (v : Value) (l : List Int) : Prop :=
  ∃ ao cap, v = .slice ao l.length cap ∧ l.length ≤ cap ∧ l.length ≤ 17592186044416 ∧ (ao = none → cap = 0) ∧ ∀ (i : Nat) (x : Int), l[i]? = some x → -9223372036854775808 ≤ x ∧ x ≤ 9223372036854775807 ∧ ∃ b o, ao = some ⟨b, o, none⟩ ∧ w.cell? ⟨b, o + i, none⟩ = some (.int .i64 x)
theorem Ints.pure {w w' : World} {v : Value} {l : List Int} (h : Ints w v l) (ht : Pure w w') : Ints w' v l := by
  obtain ⟨ao, cap, h1, h2, h3, h4, h5⟩ := h
  refine ⟨ao, cap, h1, h2, h3, h4, fun i x hx => ?_⟩
  obtain ⟨a1, a2, b, o, a3, a4⟩ := h5 i x hx
  exact ⟨a1, a2, b, o, a3, ht.cell a4 (fun e => e)⟩
theorem Ints.drewN {w : World} {v : Value} {l : List Int} (h : Ints w v l) (n : Nat) : Ints (w.drewN n) v l := h.pure ((Turn.refl _ _).drewN n)
theorem Ints.drawn {w : World} {v : Value} {l : List Int} {n : Nat} (h : Ints (w.drewN n) v l) : Ints w v l := by
  obtain ⟨ao, cap, h1, h2, h3, h4, h5⟩ := h
  exact ⟨ao, cap, h1, h2, h3, h4, fun i x hx => h5 i x hx⟩
theorem Ints.len {w : World} {v : Value} {l : List Int} (h : Ints w v l) : l.length ≤ 17592186044416 := by obtain ⟨_, _, _, _, h, _⟩ := h; exact h
theorem Ints.nil (w : World) : Ints w (.slice none 0 0) [] := ⟨none, 0, rfl, Nat.le_refl _, by simp, fun _ => rfl, fun i x hx => by simp at hx⟩
theorem Ints.at {w : World} {ao : Option Addr} {n cap : Nat} {l : List Int} (h : Ints w (.slice ao n cap) l) : l.length = n := by
  obtain ⟨_, _, h, _⟩ := h
  simp at h
  omega

/-- What May answers. -/
def inB (x : Int) : Bool := decide (0 ≤ x) && decide (x ≤ 256)
def mayB (l : List Int) : Bool := l.all inB && (decide (1 ≤ l.length) && decide (l.length ≤ 16))
def fitB (l m : List Int) : Bool := mayB l && mayB m && decide (l.length = m.length)
def lowB (l m : List Int) : Bool := (l.zip m).all fun p => decide (p.1 ≤ p.2)
def belowV (l m : List Int) : Bool × Int := if fitB l m then (lowB l m, 0) else (false, 1800)
def vapartV (l m : List Int) : Bool × Int := if fitB l m then (!lowB l m && !lowB m l, 0) else (false, 1800)

theorem fitB_len {l m : List Int} (h : fitB l m = true) : l.length = m.length ∧ 1 ≤ l.length ∧ l.length ≤ 16 := by
  simp [fitB, mayB] at h
  omega
theorem all_take_succ {l : List Int} {k : Nat} {x : Int} {p : Int → Bool} (h : (l.take k).all p = true) (hx : l[k]? = some x) (hp : p x = true) : (l.take (k + 1)).all p = true := by
  rw [List.take_add_one, hx]
  simp at h ⊢
  exact ⟨h, hp⟩
theorem all_bad {l : List Int} {k : Nat} {x : Int} {p : Int → Bool} (hx : l[k]? = some x) (hp : p x = false) : l.all p = false := by
  rw [Bool.eq_false_iff]
  intro h
  have := List.all_eq_true.1 h x (List.mem_of_getElem? hx)
  simp [hp] at this

set_option maxHeartbeats 1000000 in
theorem May_any (w : World) (v : Value) (l : List Int) (h : Ints w v l) :
    Calls Try.prog 68 #[v] w fun e w' => e = .returned (.bool (mayB l)) ∧ w' = w := by
  obtain ⟨ao, cap, rfl, hcap, hlen, hnil, hel⟩ := h
  have HEL := Lib.hid hel; clear hel hnil
  go_enter Try.func68, Try.ntmps68
  go_wp2
  go_loop [7] (fun i => ∃ k : Nat, k ≤ l.length ∧ i = .int .i64 k ∧ Hid ((l.take k).all inB = true)) (fun i => l.length - (intOf i).toNat)
  case atStart => exact ⟨0, by omega, rfl, Lib.hid (by simp)⟩
  case round =>
    obtain ⟨k, hk, rfl, HA⟩ := hrel
    by_cases hlk : k < l.length
    · obtain ⟨x1, x2, b, o, rfl, hc⟩ := HEL.out k l[k] (by simp [hlk])
      have hx : Hid (l[k]? = some l[k]) := Lib.hid (by simp [hlk])
      generalize l[k] = x at x1 x2 hc hx
      by_cases hp : x < 0
      · have hd : decide (x < 0) = true := by simpa using hp
        go_wp2
        go_ret
        have := all_bad (p := inB) hx.out (by simp [inB]; omega)
        simp [mayB, this]
      · have hd : decide (x < 0) = false := by simpa using hp
        by_cases hq : 256 < x
        · go_wp2
          go_ret
          have := all_bad (p := inB) hx.out (by simp [inB]; omega)
          simp [mayB, this]
        · go_wp2
          refine ⟨⟨k + 1, by omega, by go_num, Lib.hid (all_take_succ HA.out hx.out (by simp [inB]; omega))⟩, by simp [intOf]; omega⟩
    · obtain rfl : k = l.length := by omega
      have hall := HA.out
      rw [List.take_length] at hall
      by_cases h1 : 1 ≤ l.length
      · go_wp2
        go_ret
        simp [mayB, hall, h1]
        omega
      · go_wp2
        go_ret
        simp [mayB, hall, h1]

set_option maxHeartbeats 1000000 in
theorem RMay_any (w : World) (v : Value) (l : List Int) (h : Ints w v l) :
    Calls Try.prog 66 #[v] w fun e w' => e = .returned (.bool (mayB l)) ∧ w' = w := by
  obtain ⟨ao, cap, rfl, hcap, hlen, hnil, hel⟩ := h
  have HEL := Lib.hid hel; clear hel hnil
  go_enter Try.func66, Try.ntmps66
  go_wp2
  go_loop [3] (fun i => ∃ k : Nat, k ≤ l.length ∧ i = .int .i64 k ∧ Hid ((l.take k).all inB = true)) (fun i => l.length - (intOf i).toNat)
  case atStart => exact ⟨0, by omega, rfl, Lib.hid (by simp)⟩
  case round =>
    obtain ⟨k, hk, rfl, HA⟩ := hrel
    by_cases hlk : k < l.length
    · obtain ⟨x1, x2, b, o, rfl, hc⟩ := HEL.out k l[k] (by simp [hlk])
      have hx : Hid (l[k]? = some l[k]) := Lib.hid (by simp [hlk])
      generalize l[k] = x at x1 x2 hc hx
      by_cases hp : x < 0
      · have hd : decide (x < 0) = true := by simpa using hp
        go_wp2
        go_ret
        have := all_bad (p := inB) hx.out (by simp [inB]; omega)
        simp [mayB, this]
      · have hd : decide (x < 0) = false := by simpa using hp
        by_cases hq : 256 < x
        · go_wp2
          go_ret
          have := all_bad (p := inB) hx.out (by simp [inB]; omega)
          simp [mayB, this]
        · go_wp2
          refine ⟨⟨k + 1, by omega, by go_num, Lib.hid (all_take_succ HA.out hx.out (by simp [inB]; omega))⟩, by simp [intOf]; omega⟩
    · obtain rfl : k = l.length := by omega
      have hall := HA.out
      rw [List.take_length] at hall
      by_cases h1 : 1 ≤ l.length
      · go_wp2
        go_ret
        simp [mayB, hall, h1]
        omega
      · go_wp2
        go_ret
        simp [mayB, hall, h1]

end Go.Proofs.Ytigkmdjdnkbdkaa
