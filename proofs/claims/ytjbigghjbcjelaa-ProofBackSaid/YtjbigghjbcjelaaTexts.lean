/- Rows of texts that came in. -/
import Derived.Test.YtjbigghjbcjelaaMerkleTall
import Derived.Test.YtjbigghjbcjelaaFit
namespace Go.Proofs.Ytjbigghjbcjelaa
open Go.RowKit

/-- A row of texts. -/
def Texts (w : World) (v : Value) (ls : List (List UInt8)) : Prop :=
  ∃ ao cap, v = .slice ao ls.length cap ∧ ls.length ≤ cap ∧ (ls ≠ [] → ∃ b o, ao = some ⟨b, o, none⟩ ∧ w.rangeAt b o (strs ls))
theorem Texts.turn {S : Nat → Prop} {w w' : World} {v : Value} {ls : List (List UInt8)} (h : Texts w v ls) (t : Turn S w w') (hS : ∀ k, v.ownBlock = some k → ¬ S k) : Texts w' v ls := by
  obtain ⟨ao, cap, rfl, h2, h3⟩ := h
  refine ⟨ao, cap, rfl, h2, fun hne => ?_⟩
  obtain ⟨b, o, rfl, hr⟩ := h3 hne
  exact ⟨b, o, rfl, t.range hr (hS b rfl)⟩
theorem Texts.pure {w w' : World} {v : Value} {ls : List (List UInt8)} (h : Texts w v ls) (t : Pure w w') : Texts w' v ls := h.turn t fun _ _ e => e

theorem open_texts {H : Type} {enc : TypeId × Value → H} {w : World} {v : Value} (h : Fit enc Try.prog w 22 v.cells.toList) (hv : ∃ ao n c, v = .slice ao n c) : ∃ ls, Texts w v ls ∧ Fits ls ∧ ls.length ≤ 8796093021952 := by
  have hsz : Try.prog.cellsOf 9 = 1 := by kernel_rfl
  have hby : Try.prog.bytesOf 9 = 16 := by kernel_rfl
  obtain ⟨xs, ⟨ao, cap, e1, e2, e3, e4⟩, hb⟩ := h.row (α := List UInt8) (size := 1) (cells := fun l => [.string (bstr l)]) (ok := fun l => l.length ≤ 140737488351232) Try.underlying22 hsz (by decide)
    (fun cs hcs => by
      obtain ⟨l, hl, hlen⟩ := hcs.string Try.underlying9
      exact ⟨l, hl, hlen⟩) hv
  rw [hby] at hb
  refine ⟨xs, ⟨ao, cap, e1, e2, fun hne => ?_⟩, fun l hl => ?_, by omega⟩
  · have h0 : 0 < xs.length := List.length_pos_iff.2 hne
    obtain ⟨_, b, o, q2, _⟩ := e4 0 xs[0] (by simp)
    refine ⟨b, o, q2, fun j u hj => ?_⟩
    have hjl : j < xs.length := by have := (List.getElem?_eq_some_iff.1 hj).1; rwa [strs_length] at this
    obtain ⟨_, b', o', q3, q4⟩ := e4 j xs[j] (by simp [hjl])
    rw [q2] at q3
    obtain ⟨rfl, rfl⟩ : b = b' ∧ o = o' := by
      have := Option.some.inj q3
      simp only [Addr.mk.injEq] at this
      exact ⟨this.1, this.2.1⟩
    have := q4 0 (.string (bstr xs[j])) rfl
    rw [Nat.mul_one, Nat.add_zero] at this
    rw [this]
    simpa [strs, hjl] using hj
  · obtain ⟨i, hi, rfl⟩ := List.getElem_of_mem hl
    exact (e4 i xs[i] (by simp [hi])).1
/-- The root of leaves that came in. -/
theorem Root_texts (w : World) (v : Value) (ls : List (List UInt8)) (h : Texts w v ls) (hf : Fits ls) (hn : ls.length ≤ 8796093022208) :
    Calls Try.prog 18 #[v] w fun e w' => e = .returned (hv (rootV ls)) ∧ Pure w w' := by
  obtain ⟨ao, cap, rfl, h2, h3⟩ := h
  by_cases hne : ls = []
  · subst hne
    exact Root_nil w ao cap
  · obtain ⟨b, o, rfl, hr⟩ := h3 hne
    exact Root_at ls.length ls rfl w b o cap h2 (by omega) hf hr
theorem RRoot_texts (w : World) (v : Value) (ls : List (List UInt8)) (h : Texts w v ls) (hf : Fits ls) (hn : ls.length ≤ 8796093022208) :
    Calls Try.prog 16 #[v] w fun e w' => e = .returned (hv (rootV ls)) ∧ Pure w w' := by
  obtain ⟨ao, cap, rfl, h2, h3⟩ := h
  by_cases hne : ls = []
  · subst hne
    exact RRoot_nil w ao cap
  · obtain ⟨b, o, rfl, hr⟩ := h3 hne
    exact RRoot_at ls.length ls rfl w b o cap h2 (by omega) hf hr
theorem Texts.src {w : World} {v : Value} {ls : List (List UInt8)} (h : Texts w v ls) : Src Try.prog 1 22 v ls.length (strs ls) w := by
  obtain ⟨ao, cap, rfl, h2, h3⟩ := h
  by_cases hne : ls = []
  · subst hne
    cases ao with
    | none => exact Src.ofNil w Try.underlying22 cap
    | some a => exact Src.ofSlice w Try.underlying22 a 0 cap [] rfl (fun j u hu => by simp at hu) (by simp)
  · obtain ⟨b, o, rfl, hr⟩ := h3 hne
    refine Src.ofSlice w Try.underlying22 _ _ _ _ (by rw [strs_length]; omega) (fun j u hu => ?_) (strs_one ls)
    rw [Addr.add_mid]
    exact hr j u hu
theorem Texts.own {w : World} {base : Nat} {v : Value} {n : Nat} {ls : List (List UInt8)} (h : w.ownsRow base 9 1 v n (strs ls)) : Texts w v ls := by
  have hn : n = ls.length := by have := h.1; rw [strs_length] at this; omega
  subst hn
  rcases h.2 with ⟨rfl, h0⟩ | ⟨g, cap, cur, rfl, _, _, hc, _⟩
  · exact ⟨none, 0, by rw [h0], by omega, fun hne => absurd (List.eq_nil_of_length_eq_zero h0) hne⟩
  · refine ⟨_, cap, rfl, hc, fun _ => ⟨g, 0, rfl, fun j u hu => ?_⟩⟩
    have := h.cells (g := g) rfl j u hu
    rwa [Addr.add_mid] at this
/-- The first of the texts. -/
theorem strs_take {ls : List (List UInt8)} {w : World} {b o : Nat} (h : w.rangeAt b o (strs ls)) (k : Nat) : w.rangeAt b o (strs (ls.take k)) := fun j v hj => by
  refine h j v ?_
  rw [strs, List.map_take, List.getElem?_take] at hj
  split at hj
  · exact hj
  · cases hj
/-- The root of a power of two and as many more at most. -/
theorem rootV_parts (a b : List (List UInt8)) (j : Nat) (ha : a.length = 2 ^ j) (h1 : 1 ≤ b.length) (h2 : b.length ≤ 2 ^ j) : rootV (a ++ b) = joinV (rootV a) (rootV b) := by
  have hp : 0 < 2 ^ j := Nat.two_pow_pos j
  have hb : belowV (a ++ b).length = a.length := by
    rw [ha, List.length_append, ha]
    exact (belowV_unique (n := 2 ^ j + b.length) (j := j) (by omega) (by omega)).symm
  rw [rootV_more (by rw [List.length_append]; omega), hb, List.take_left, List.drop_left]
end Go.Proofs.Ytjbigghjbcjelaa
