/- Rows whose elements are of several cells each. -/
import Derived.Test.YtigkmdjdnkbdkaaFit
import Derived.Test.YtigkmdjdnkbdkaaSeq
namespace Go.Proofs.Ytigkmdjdnkbdkaa
open Go.RowKit

section
variable {α : Type} {cells : α → List Value} {size : Nat}
def rowOf (cells : α → List Value) (xs : List α) : List Value := xs.flatMap cells
theorem rowOf_app (a b : List α) : rowOf cells (a ++ b) = rowOf cells a ++ rowOf cells b := by simp [rowOf]
theorem rowOf_length : ∀ {xs : List α}, (∀ x ∈ xs, (cells x).length = size) → (rowOf cells xs).length = xs.length * size
  | [], _ => by simp [rowOf]
  | x :: t, h => by
    have h1 := h x (by simp)
    have h2 := rowOf_length (xs := t) fun y hy => h y (by simp [hy])
    simp only [rowOf, List.flatMap_cons, List.length_append, List.length_cons] at h2 ⊢
    rw [h1, h2, Nat.add_mul]
    omega
theorem rowOf_at {w : World} {b : Nat} : ∀ (xs : List α) (o j : Nat) (x : α), xs[j]? = some x → w.rangeAt b o (rowOf cells xs) → (∀ y ∈ xs, (cells y).length = size) → w.rangeAt b (o + j * size) (cells x)
  | y :: t, o, 0, x, hj, hr, h => fun k u hk => by
    simp at hj
    subst hj
    have := hr k u (by simp only [rowOf, List.flatMap_cons]; rw [List.getElem?_append_left (List.getElem?_eq_some_iff.1 hk).1]; exact hk)
    simpa using this
  | y :: t, o, j + 1, x, hj, hr, h => by
    have hy : (cells y).length = size := h y (by simp)
    have h1 : w.rangeAt b (o + size) (rowOf cells t) := fun k u hk => by
      rw [Nat.add_assoc]
      refine hr (size + k) u ?_
      simp only [rowOf, List.flatMap_cons]
      rw [List.getElem?_append_right (by rw [hy]; omega), hy, show size + k - size = k from by omega]
      exact hk
    have := rowOf_at t (o + size) j x (by simpa using hj) h1 fun z hz => h z (by simp [hz])
    rwa [show o + (j + 1) * size = o + size + j * size from by rw [Nat.add_mul]; omega]
theorem rowOf_left {w : World} {b o : Nat} {p q : List α} (h : w.rangeAt b o (rowOf cells (p ++ q))) : w.rangeAt b o (rowOf cells p) := fun j u hj =>
  h j u (by rw [rowOf_app, List.getElem?_append_left (List.getElem?_eq_some_iff.1 hj).1]; exact hj)
theorem rowOf_of {w : World} {b : Nat} : ∀ (xs : List α) (o : Nat), (∀ y ∈ xs, (cells y).length = size) → (∀ (i : Nat) x, xs[i]? = some x → w.rangeAt b (o + i * size) (cells x)) → w.rangeAt b o (rowOf cells xs)
  | [], o, _, _ => fun j u hj => by simp [rowOf] at hj
  | x :: t, o, h4, h => fun j u hj => by
    have hx : (cells x).length = size := h4 x (by simp)
    simp only [rowOf, List.flatMap_cons] at hj
    by_cases hlt : j < size
    · rw [List.getElem?_append_left (by rw [hx]; omega)] at hj
      have := h 0 x rfl j u hj
      simpa using this
    · rw [List.getElem?_append_right (by rw [hx]; omega), hx] at hj
      have := rowOf_of t (o + size) (fun y hy => h4 y (by simp [hy])) (fun i y hy => by
        have := h (i + 1) y (by simpa using hy)
        rwa [show o + (i + 1) * size = o + size + i * size from by rw [Nat.add_mul]; omega] at this) (j - size) u hj
      rwa [show o + size + (j - size) = o + j from by omega] at this
/-- A row in memory. -/
def Rows (cells : α → List Value) (size : Nat) (w : World) (v : Value) (xs : List α) : Prop :=
  ∃ ao cap, v = .slice ao xs.length cap ∧ xs.length ≤ cap ∧ (xs ≠ [] → ∃ b o, ao = some ⟨b, o, none⟩ ∧ w.rangeAt b o (rowOf cells xs)) ∧ ∀ x ∈ xs, (cells x).length = size
theorem Rows.turn {S : Nat → Prop} {w w' : World} {v : Value} {xs : List α} (h : Rows cells size w v xs) (t : Turn S w w') (hS : xs ≠ [] → ∀ k, v.ownBlock = some k → ¬ S k) : Rows cells size w' v xs := by
  obtain ⟨ao, cap, rfl, h2, h3, h4⟩ := h
  refine ⟨ao, cap, rfl, h2, fun hne => ?_, h4⟩
  obtain ⟨b, o, rfl, hr⟩ := h3 hne
  exact ⟨b, o, rfl, fun j u hj => t.cell (hr j u hj) (hS hne b rfl)⟩
theorem Rows.pure {w w' : World} {v : Value} {xs : List α} (h : Rows cells size w v xs) (t : Pure w w') : Rows cells size w' v xs := h.turn t fun _ _ _ e => e
theorem rows_nil (w : World) (ao : Option Addr) (cap : Nat) : Rows cells size w (.slice ao 0 cap) [] := ⟨ao, cap, rfl, Nat.zero_le _, fun e => absurd rfl e, fun _ h => by simp at h⟩
theorem Rows.len {w : World} {v : Value} {xs : List α} (h : Rows cells size w v xs) : ∀ x ∈ xs, (cells x).length = size := by obtain ⟨_, _, _, _, _, h⟩ := h; exact h
/-- A row that is owned. -/
theorem Rows.own {w : World} {base : Nat} {e : TypeId} {v : Value} {n : Nat} {xs : List α} (hs : 0 < size) (h : w.ownsRow base e size v n (rowOf cells xs)) (h4 : ∀ x ∈ xs, (cells x).length = size) : Rows cells size w v xs := by
  have hn : n = xs.length := by
    have := h.1
    rw [rowOf_length h4] at this
    exact (Nat.mul_right_cancel hs this).symm
  subst hn
  rcases h.2 with ⟨hv, h0⟩ | ⟨g, cap, cur, hv, _, _, hnc, _⟩
  · have : xs = [] := List.eq_nil_of_length_eq_zero h0
    subst this
    exact ⟨none, 0, by rw [hv]; rfl, Nat.le_refl _, fun e => absurd rfl e, h4⟩
  · refine ⟨_, cap, hv, hnc, fun _ => ⟨g, 0, rfl, fun j u hj => ?_⟩, h4⟩
    have := h.cells (g := g) (by rw [hv]; rfl) j u hj
    rwa [Addr.add_mid] at this
theorem Rows.src {P : Program} {t e : TypeId} {w : World} {v : Value} {xs : List α} (hu : P.underlying t = some (.slice e)) (h : Rows cells size w v xs) (h1 : ∀ x ∈ xs, ∀ u ∈ cells x, u.oneCell' = true) : Src P size t v xs.length (rowOf cells xs) w := by
  obtain ⟨ao, cap, rfl, h2, h3, h4⟩ := h
  by_cases hne : xs = []
  · subst hne
    cases ao with
    | none => exact Src.ofNil w hu cap
    | some a => exact Src.ofSlice w hu a 0 cap [] (by simp) (fun j u hu => by simp at hu) (by simp)
  · obtain ⟨b, o, rfl, hr⟩ := h3 hne
    refine Src.ofSlice w hu _ _ _ _ (rowOf_length h4) (fun j u hu => ?_) fun u hu => ?_
    · rw [Addr.add_mid]
      exact hr j u hu
    · obtain ⟨x, hx, hxu⟩ := List.mem_flatMap.1 hu
      exact h1 x hx u hxu
/-- A row that came in. -/
theorem Rows.ofIsRow {w : World} {ok : α → Prop} {v : Value} {xs : List α} (h : IsRow w size cells ok v xs) (hok : ∀ x, ok x → (cells x).length = size) : Rows cells size w v xs := by
  obtain ⟨ao, cap, e1, e2, e3, e4⟩ := h
  have h4 : ∀ y ∈ xs, (cells y).length = size := fun y hy => by
    obtain ⟨i, hi, rfl⟩ := List.getElem_of_mem hy
    exact hok _ (e4 i xs[i] (by simp [hi])).1
  refine ⟨ao, cap, e1, e2, fun hne => ?_, h4⟩
  have h0 : 0 < xs.length := List.length_pos_iff.2 hne
  obtain ⟨_, b, o, q2, _⟩ := e4 0 xs[0] (by simp)
  refine ⟨b, o, q2, rowOf_of xs o h4 fun i x hx => ?_⟩
  obtain ⟨_, b', o', q3, q4⟩ := e4 i x hx
  rw [q2] at q3
  obtain ⟨rfl, rfl⟩ : b = b' ∧ o = o' := by
    have := Option.some.inj q3
    simp only [Addr.mk.injEq] at this
    exact ⟨this.1, this.2.1⟩
  exact q4
end
end Go.Proofs.Ytigkmdjdnkbdkaa
