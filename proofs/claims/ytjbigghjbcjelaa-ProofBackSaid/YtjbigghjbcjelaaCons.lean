/- Chapter 10: proofs that a smaller log is the beginning. -/
import Derived.Test.YtjbigghjbcjelaaSub
namespace Go.Proofs.Ytjbigghjbcjelaa
open Go.RowKit

def consV (ls : List (List UInt8)) (m : Int) : List (List UInt8) := if 1 ≤ m ∧ m ≤ (ls.length : Int) ∧ ls.length ≤ 256 then subV ls m.toNat true else []
def consE (ls : List (List UInt8)) (m : Int) : Int := if 1 ≤ m ∧ m ≤ (ls.length : Int) ∧ ls.length ≤ 256 then 0 else 1000

set_option maxHeartbeats 1000000 in
theorem Consistency_any (w : World) (v : Value) (ls : List (List UInt8)) (i : Int) (h : Texts w v ls) (hf : Fits ls) (hl : ls.length ≤ 8796093021952) (hi : -9223372036854775808 ≤ i ∧ i ≤ 9223372036854775807) :
    Calls Try.prog 34 #[v, .int .i64 i] w fun e w' => ∃ r, e = .returned (.tuple #[r, .int .i64 (consE ls i)]) ∧ w'.ownsRow 0 28 32 r (consV ls i).length (hrow (consV ls i)) ∧ (∀ q, r.ownBlock = some q → w.heap.size ≤ q) ∧ Pure w w' := by
  obtain ⟨ao, c, rfl, hlc, ha⟩ := h
  obtain ⟨n, hn⟩ : ∃ n, n = ls.length := ⟨_, rfl⟩
  have HA := Lib.hid ha; clear ha
  rw [← hn] at hlc hl ⊢
  have HN := Lib.hid hn
  by_cases h0 : i < 1
  · have hv : consV ls i = [] := by rw [consV, if_neg (by omega)]
    have he : consE ls i = 1000 := by rw [consE, if_neg (by omega)]
    rw [hv, he]
    have b1 : decide (i < 1) = true := decide_eq_true h0
    clear hn hv he
    go_enter Try.func34, Try.ntmps34
    go_wp2
    go_ret2
    exact ⟨_, rfl, World.ownsRow_nil _ _ _ _, fun q hq => by simp [Value.ownBlock] at hq, Turn.refl _ _⟩
  · have b1 : decide (i < 1) = false := decide_eq_false h0
    by_cases h1 : (n : Int) < i
    · have hv : consV ls i = [] := by rw [consV, if_neg (by omega)]
      have he : consE ls i = 1000 := by rw [consE, if_neg (by omega)]
      rw [hv, he]
      have b2 : decide ((n : Int) < i) = true := decide_eq_true h1
      clear hn hv he
      go_enter Try.func34, Try.ntmps34
      go_wp2
      go_ret2
      exact ⟨_, rfl, World.ownsRow_nil _ _ _ _, fun q hq => by simp [Value.ownBlock] at hq, Turn.refl _ _⟩
    · have b2 : decide ((n : Int) < i) = false := decide_eq_false h1
      by_cases h2 : 256 < n
      · have hv : consV ls i = [] := by rw [consV, if_neg (by omega)]
        have he : consE ls i = 1000 := by rw [consE, if_neg (by omega)]
        rw [hv, he]
        have b3 : decide ((256 : Int) < (n : Int)) = true := decide_eq_true (by omega)
        have b4 : decide (256 < n) = true := decide_eq_true h2
        clear hn hv he
        go_enter Try.func34, Try.ntmps34
        go_wp2
        go_ret2
        exact ⟨_, rfl, World.ownsRow_nil _ _ _ _, fun q hq => by simp [Value.ownBlock] at hq, Turn.refl _ _⟩
      · have hv : consV ls i = subV ls i.toNat true := by rw [consV, if_pos (by omega)]
        have he : consE ls i = 0 := by rw [consE, if_pos (by omega)]
        rw [hv, he]
        have b3 : decide ((256 : Int) < (n : Int)) = false := decide_eq_false (by omega)
        have b4 : decide (256 < n) = false := decide_eq_false h2
        obtain ⟨k, hk⟩ : ∃ k : Nat, i = (k : Int) := ⟨i.toNat, by omega⟩
        subst hk
        have hne : ls ≠ [] := fun e => by rw [e] at hn; simp at hn; omega
        obtain ⟨b, o, rfl, hr⟩ := HA.out hne
        have HC := Lib.hid (sub_at n ls hn.symm w b o c k true (by omega) (by omega) hlc (by omega) hf hr)
        rw [show ((k : Int)).toNat = k from by omega]
        clear hn hv he hr hi
        go_enter Try.func34, Try.ntmps34
        go_wp2_with fail
        refine HC.out.mono ?_
        rintro e w1 ⟨r, rfl, hown, hlow, t1⟩
        have HF := Lib.hid (And.intro hown (And.intro hlow t1))
        clear hown hlow t1
        go_wp2
        go_ret2
        exact ⟨_, rfl, HF.out⟩

set_option maxHeartbeats 1000000 in
theorem RConsistency_any (w : World) (v : Value) (ls : List (List UInt8)) (i : Int) (h : Texts w v ls) (hf : Fits ls) (hl : ls.length ≤ 8796093021952) (hi : -9223372036854775808 ≤ i ∧ i ≤ 9223372036854775807) :
    Calls Try.prog 35 #[v, .int .i64 i] w fun e w' => ∃ r, e = .returned (.tuple #[r, .int .i64 (consE ls i)]) ∧ w'.ownsRow 0 28 32 r (consV ls i).length (hrow (consV ls i)) ∧ (∀ q, r.ownBlock = some q → w.heap.size ≤ q) ∧ Pure w w' := by
  obtain ⟨ao, c, rfl, hlc, ha⟩ := h
  obtain ⟨n, hn⟩ : ∃ n, n = ls.length := ⟨_, rfl⟩
  have HA := Lib.hid ha; clear ha
  rw [← hn] at hlc hl ⊢
  have HN := Lib.hid hn
  by_cases h0 : i < 1
  · have hv : consV ls i = [] := by rw [consV, if_neg (by omega)]
    have he : consE ls i = 1000 := by rw [consE, if_neg (by omega)]
    rw [hv, he]
    have b1 : decide (i < 1) = true := decide_eq_true h0
    clear hn hv he
    go_enter Try.func35, Try.ntmps35
    go_wp2
    go_ret2
    exact ⟨_, rfl, World.ownsRow_nil _ _ _ _, fun q hq => by simp [Value.ownBlock] at hq, Turn.refl _ _⟩
  · have b1 : decide (i < 1) = false := decide_eq_false h0
    by_cases h1 : (n : Int) < i
    · have hv : consV ls i = [] := by rw [consV, if_neg (by omega)]
      have he : consE ls i = 1000 := by rw [consE, if_neg (by omega)]
      rw [hv, he]
      have b2 : decide ((n : Int) < i) = true := decide_eq_true h1
      clear hn hv he
      go_enter Try.func35, Try.ntmps35
      go_wp2
      go_ret2
      exact ⟨_, rfl, World.ownsRow_nil _ _ _ _, fun q hq => by simp [Value.ownBlock] at hq, Turn.refl _ _⟩
    · have b2 : decide ((n : Int) < i) = false := decide_eq_false h1
      by_cases h2 : 256 < n
      · have hv : consV ls i = [] := by rw [consV, if_neg (by omega)]
        have he : consE ls i = 1000 := by rw [consE, if_neg (by omega)]
        rw [hv, he]
        have b3 : decide ((256 : Int) < (n : Int)) = true := decide_eq_true (by omega)
        have b4 : decide (256 < n) = true := decide_eq_true h2
        clear hn hv he
        go_enter Try.func35, Try.ntmps35
        go_wp2
        go_ret2
        exact ⟨_, rfl, World.ownsRow_nil _ _ _ _, fun q hq => by simp [Value.ownBlock] at hq, Turn.refl _ _⟩
      · have hv : consV ls i = subV ls i.toNat true := by rw [consV, if_pos (by omega)]
        have he : consE ls i = 0 := by rw [consE, if_pos (by omega)]
        rw [hv, he]
        have b3 : decide ((256 : Int) < (n : Int)) = false := decide_eq_false (by omega)
        have b4 : decide (256 < n) = false := decide_eq_false h2
        obtain ⟨k, hk⟩ : ∃ k : Nat, i = (k : Int) := ⟨i.toNat, by omega⟩
        subst hk
        have hne : ls ≠ [] := fun e => by rw [e] at hn; simp at hn; omega
        obtain ⟨b, o, rfl, hr⟩ := HA.out hne
        have HC := Lib.hid (rsub_at n ls hn.symm w b o c k true (by omega) (by omega) hlc (by omega) hf hr)
        rw [show ((k : Int)).toNat = k from by omega]
        clear hn hv he hr hi
        go_enter Try.func35, Try.ntmps35
        go_wp2_with fail
        refine HC.out.mono ?_
        rintro e w1 ⟨r, rfl, hown, hlow, t1⟩
        have HF := Lib.hid (And.intro hown (And.intro hlow t1))
        clear hown hlow t1
        go_wp2
        go_ret2
        exact ⟨_, rfl, HF.out⟩
end Go.Proofs.Ytjbigghjbcjelaa
