/- Chapter 10: proofs that a leaf is in. -/
import Derived.Test.YtjbigghjbcjelaaPath
namespace Go.Proofs.Ytjbigghjbcjelaa
open Go.RowKit

def inclV (ls : List (List UInt8)) (i : Int) : List (List UInt8) := if 0 ≤ i ∧ i < (ls.length : Int) ∧ ls.length ≤ 256 then pathV ls i.toNat else []
def inclE (ls : List (List UInt8)) (i : Int) : Int := if 0 ≤ i ∧ i < (ls.length : Int) ∧ ls.length ≤ 256 then 0 else 1000

set_option maxHeartbeats 1000000 in
theorem Inclusion_any (w : World) (v : Value) (ls : List (List UInt8)) (i : Int) (h : Texts w v ls) (hf : Fits ls) (hl : ls.length ≤ 8796093021952) (hi : -9223372036854775808 ≤ i ∧ i ≤ 9223372036854775807) :
    Calls Try.prog 27 #[v, .int .i64 i] w fun e w' => ∃ r, e = .returned (.tuple #[r, .int .i64 (inclE ls i)]) ∧ w'.ownsRow 0 28 32 r (inclV ls i).length (hrow (inclV ls i)) ∧ (∀ q, r.ownBlock = some q → w.heap.size ≤ q) ∧ Pure w w' := by
  obtain ⟨ao, c, rfl, hlc, ha⟩ := h
  obtain ⟨n, hn⟩ : ∃ n, n = ls.length := ⟨_, rfl⟩
  have HA := Lib.hid ha; clear ha
  rw [← hn] at hlc hl ⊢
  have HN := Lib.hid hn
  by_cases h0 : i < 0
  · have hv : inclV ls i = [] := by rw [inclV, if_neg (by omega)]
    have he : inclE ls i = 1000 := by rw [inclE, if_neg (by omega)]
    rw [hv, he]
    have b1 : decide (i < 0) = true := decide_eq_true h0
    clear hn hv he
    go_enter Try.func27, Try.ntmps27
    go_wp2
    go_ret2
    exact ⟨_, rfl, World.ownsRow_nil _ _ _ _, fun q hq => by simp [Value.ownBlock] at hq, Turn.refl _ _⟩
  · have b1 : decide (i < 0) = false := decide_eq_false h0
    by_cases h1 : (n : Int) ≤ i
    · have hv : inclV ls i = [] := by rw [inclV, if_neg (by omega)]
      have he : inclE ls i = 1000 := by rw [inclE, if_neg (by omega)]
      rw [hv, he]
      have b2 : decide ((n : Int) ≤ i) = true := decide_eq_true h1
      clear hn hv he
      go_enter Try.func27, Try.ntmps27
      go_wp2
      go_ret2
      exact ⟨_, rfl, World.ownsRow_nil _ _ _ _, fun q hq => by simp [Value.ownBlock] at hq, Turn.refl _ _⟩
    · have b2 : decide ((n : Int) ≤ i) = false := decide_eq_false h1
      by_cases h2 : 256 < n
      · have hv : inclV ls i = [] := by rw [inclV, if_neg (by omega)]
        have he : inclE ls i = 1000 := by rw [inclE, if_neg (by omega)]
        rw [hv, he]
        have b3 : decide ((256 : Int) < (n : Int)) = true := decide_eq_true (by omega)
        have b4 : decide (256 < n) = true := decide_eq_true h2
        clear hn hv he
        go_enter Try.func27, Try.ntmps27
        go_wp2
        go_ret2
        exact ⟨_, rfl, World.ownsRow_nil _ _ _ _, fun q hq => by simp [Value.ownBlock] at hq, Turn.refl _ _⟩
      · have hv : inclV ls i = pathV ls i.toNat := by rw [inclV, if_pos (by omega)]
        have he : inclE ls i = 0 := by rw [inclE, if_pos (by omega)]
        rw [hv, he]
        have b3 : decide ((256 : Int) < (n : Int)) = false := decide_eq_false (by omega)
        have b4 : decide (256 < n) = false := decide_eq_false h2
        obtain ⟨k, hk⟩ : ∃ k : Nat, i = (k : Int) := ⟨i.toNat, by omega⟩
        subst hk
        have hne : ls ≠ [] := fun e => by rw [e] at hn; simp at hn; omega
        obtain ⟨b, o, rfl, hr⟩ := HA.out hne
        have HC := Lib.hid (path_at n ls hn.symm (by omega) w b o c k hlc (by omega) (by omega) hf hr)
        rw [show ((k : Int)).toNat = k from by omega]
        clear hn hv he hr hi
        go_enter Try.func27, Try.ntmps27
        go_wp2_with fail
        refine HC.out.mono ?_
        rintro e w1 ⟨r, rfl, hown, hlow, t1⟩
        have HF := Lib.hid (And.intro hown (And.intro hlow t1))
        clear hown hlow t1
        go_wp2
        go_ret2
        exact ⟨_, rfl, HF.out⟩

set_option maxHeartbeats 1000000 in
theorem RInclusion_any (w : World) (v : Value) (ls : List (List UInt8)) (i : Int) (h : Texts w v ls) (hf : Fits ls) (hl : ls.length ≤ 8796093021952) (hi : -9223372036854775808 ≤ i ∧ i ≤ 9223372036854775807) :
    Calls Try.prog 28 #[v, .int .i64 i] w fun e w' => ∃ r, e = .returned (.tuple #[r, .int .i64 (inclE ls i)]) ∧ w'.ownsRow 0 28 32 r (inclV ls i).length (hrow (inclV ls i)) ∧ (∀ q, r.ownBlock = some q → w.heap.size ≤ q) ∧ Pure w w' := by
  obtain ⟨ao, c, rfl, hlc, ha⟩ := h
  obtain ⟨n, hn⟩ : ∃ n, n = ls.length := ⟨_, rfl⟩
  have HA := Lib.hid ha; clear ha
  rw [← hn] at hlc hl ⊢
  have HN := Lib.hid hn
  by_cases h0 : i < 0
  · have hv : inclV ls i = [] := by rw [inclV, if_neg (by omega)]
    have he : inclE ls i = 1000 := by rw [inclE, if_neg (by omega)]
    rw [hv, he]
    have b1 : decide (i < 0) = true := decide_eq_true h0
    clear hn hv he
    go_enter Try.func28, Try.ntmps28
    go_wp2
    go_ret2
    exact ⟨_, rfl, World.ownsRow_nil _ _ _ _, fun q hq => by simp [Value.ownBlock] at hq, Turn.refl _ _⟩
  · have b1 : decide (i < 0) = false := decide_eq_false h0
    by_cases h1 : (n : Int) ≤ i
    · have hv : inclV ls i = [] := by rw [inclV, if_neg (by omega)]
      have he : inclE ls i = 1000 := by rw [inclE, if_neg (by omega)]
      rw [hv, he]
      have b2 : decide ((n : Int) ≤ i) = true := decide_eq_true h1
      clear hn hv he
      go_enter Try.func28, Try.ntmps28
      go_wp2
      go_ret2
      exact ⟨_, rfl, World.ownsRow_nil _ _ _ _, fun q hq => by simp [Value.ownBlock] at hq, Turn.refl _ _⟩
    · have b2 : decide ((n : Int) ≤ i) = false := decide_eq_false h1
      by_cases h2 : 256 < n
      · have hv : inclV ls i = [] := by rw [inclV, if_neg (by omega)]
        have he : inclE ls i = 1000 := by rw [inclE, if_neg (by omega)]
        rw [hv, he]
        have b3 : decide ((256 : Int) < (n : Int)) = true := decide_eq_true (by omega)
        have b4 : decide (256 < n) = true := decide_eq_true h2
        clear hn hv he
        go_enter Try.func28, Try.ntmps28
        go_wp2
        go_ret2
        exact ⟨_, rfl, World.ownsRow_nil _ _ _ _, fun q hq => by simp [Value.ownBlock] at hq, Turn.refl _ _⟩
      · have hv : inclV ls i = pathV ls i.toNat := by rw [inclV, if_pos (by omega)]
        have he : inclE ls i = 0 := by rw [inclE, if_pos (by omega)]
        rw [hv, he]
        have b3 : decide ((256 : Int) < (n : Int)) = false := decide_eq_false (by omega)
        have b4 : decide (256 < n) = false := decide_eq_false h2
        obtain ⟨k, hk⟩ : ∃ k : Nat, i = (k : Int) := ⟨i.toNat, by omega⟩
        subst hk
        have hne : ls ≠ [] := fun e => by rw [e] at hn; simp at hn; omega
        obtain ⟨b, o, rfl, hr⟩ := HA.out hne
        have HC := Lib.hid (rpath_at n ls hn.symm (by omega) w b o c k hlc (by omega) (by omega) hf hr)
        rw [show ((k : Int)).toNat = k from by omega]
        clear hn hv he hr hi
        go_enter Try.func28, Try.ntmps28
        go_wp2_with fail
        refine HC.out.mono ?_
        rintro e w1 ⟨r, rfl, hown, hlow, t1⟩
        have HF := Lib.hid (And.intro hown (And.intro hlow t1))
        clear hown hlow t1
        go_wp2
        go_ret2
        exact ⟨_, rfl, HF.out⟩
end Go.Proofs.Ytjbigghjbcjelaa
