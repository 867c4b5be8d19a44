/- The plain law of trees: whole trees, the greater ones first, have the root of all leaves. -/
import Derived.Test.YtjbigghjbcjelaaTexts
namespace Go.Proofs.Ytjbigghjbcjelaa
open Go.RowKit

/-- These whole trees stand for these leaves. -/
def Dec : List (Nat × List UInt8) → List (List UInt8) → Prop
  | [], ls => ls = []
  | p :: t, ls => ∃ (j : Nat) (s u : List (List UInt8)), p.1 = 2 ^ j ∧ s.length = 2 ^ j ∧ ls = s ++ u ∧ p.2 = rootV s ∧ Dec t u ∧ u.length < 2 ^ j
theorem Dec.nil_of {rows : List (Nat × List UInt8)} (h : Dec rows []) : rows = [] := by
  cases rows with
  | nil => rfl
  | cons p t =>
    obtain ⟨j, s, u, _, hs, he, _⟩ := h
    have h1 := congrArg List.length he
    rw [List.length_append, hs, List.length_nil] at h1
    have := Nat.two_pow_pos j
    omega
theorem Dec.ne {rows : List (Nat × List UInt8)} {ls : List (List UInt8)} (h : Dec rows ls) (hr : rows ≠ []) : 1 ≤ ls.length := by
  cases rows with
  | nil => exact absurd rfl hr
  | cons p t =>
    obtain ⟨j, s, u, _, hs, rfl, _⟩ := h
    rw [List.length_append, hs]
    have := Nat.two_pow_pos j
    omega
theorem Dec.join : ∀ {rows : List (Nat × List UInt8)} {ls : List (List UInt8)}, Dec rows ls → rows ≠ [] → joinAll rows = rootV ls
  | [], _, _, hr => absurd rfl hr
  | [p], ls, h, _ => by
    obtain ⟨j, s, u, _, hs, rfl, hp, hu, _⟩ := h
    have hu : u = [] := hu
    rw [hu, List.append_nil]
    exact hp
  | p :: q :: t, ls, h, _ => by
    obtain ⟨j, s, u, _, hs, rfl, hp, hu, hl⟩ := h
    have h1 := hu.ne (by simp)
    rw [rootV_parts s u j hs h1 (by omega), ← hu.join (by simp), ← hp]
    rfl
theorem Dec.le : ∀ {rows : List (Nat × List UInt8)} {ls : List (List UInt8)}, Dec rows ls → (∀ p ∈ rows, p.1 ≤ ls.length) ∧ rows.length ≤ ls.length
  | [], _, _ => ⟨fun _ h => by simp at h, Nat.zero_le _⟩
  | p :: t, ls, h => by
    obtain ⟨j, s, u, hp1, hs, rfl, hp, hu, hl⟩ := h
    obtain ⟨i1, i2⟩ := hu.le
    have hpos := Nat.two_pow_pos j
    refine ⟨fun q hq => ?_, by rw [List.length_append, List.length_cons]; omega⟩
    rw [List.length_append]
    rcases List.mem_cons.1 hq with rfl | h2
    · omega
    · have := i1 q h2; omega
/-- Two greater ones of one size are one. -/
theorem pushR_snoc : ∀ (a : List (Nat × List UInt8)) (y x : Nat × List UInt8), (∃ x', pushR a x = [x'] ∧ pushR (a ++ [y]) x = if y.1 = x'.1 then [(2 * x'.1, joinV y.2 x'.2)] else [x', y]) ∨ (2 ≤ (pushR a x).length ∧ pushR (a ++ [y]) x = pushR a x ++ [y])
  | [], y, x => .inl ⟨x, rfl, by simp [pushR]⟩
  | b :: a, y, x => by
    by_cases hb : b.1 = x.1
    · have h1 : pushR (b :: a) x = pushR a (2 * x.1, joinV b.2 x.2) := by simp [pushR, hb]
      have h2 : pushR (b :: a ++ [y]) x = pushR (a ++ [y]) (2 * x.1, joinV b.2 x.2) := by simp [pushR, hb]
      rw [h1, h2]
      exact pushR_snoc a y _
    · have h1 : pushR (b :: a) x = x :: b :: a := by simp [pushR, hb]
      have h2 : pushR (b :: a ++ [y]) x = x :: b :: (a ++ [y]) := by simp [pushR, hb]
      rw [h1, h2]
      exact .inr ⟨by simp, by simp⟩
theorem pushV_cons (y x : Nat × List UInt8) (t : List (Nat × List UInt8)) : (∃ x', pushV t x = [x'] ∧ pushV (y :: t) x = if y.1 = x'.1 then [(2 * x'.1, joinV y.2 x'.2)] else [y, x']) ∨ (2 ≤ (pushV t x).length ∧ pushV (y :: t) x = y :: pushV t x) := by
  rcases pushR_snoc t.reverse y x with ⟨x', h1, h2⟩ | ⟨h1, h2⟩
  · refine .inl ⟨x', by rw [pushV, h1]; rfl, ?_⟩
    rw [pushV, List.reverse_cons, h2]
    split <;> rfl
  · refine .inr ⟨by rw [pushV, List.length_reverse]; exact h1, ?_⟩
    rw [pushV, List.reverse_cons, h2, List.reverse_append]
    rfl
theorem Dec.push : ∀ {rows : List (Nat × List UInt8)} {ls : List (List UInt8)} (l : List UInt8), Dec rows ls → Dec (pushV rows (1, leafV l)) (ls ++ [l])
  | [], ls, l, h => by
    have h : ls = [] := h
    subst h
    exact ⟨0, [l], [], rfl, rfl, rfl, (rootV_one l).symm, rfl, by decide⟩
  | p :: t, ls, l, h => by
    obtain ⟨j, s, u, hp1, hs, rfl, hp, hu, hl⟩ := h
    have ih := hu.push l
    have hul : (u ++ [l]).length = u.length + 1 := by simp
    have hparts : (u ++ [l]).length ≤ 2 ^ j → rootV (s ++ (u ++ [l])) = joinV (rootV s) (rootV (u ++ [l])) := fun hle => rootV_parts s (u ++ [l]) j hs (by omega) hle
    by_cases hlt : u.length + 1 < 2 ^ j
    · have hres : pushV (p :: t) (1, leafV l) = p :: pushV t (1, leafV l) := by
        rcases pushV_cons p (1, leafV l) t with ⟨x', h1, h2⟩ | ⟨_, h2⟩
        · rw [h1] at ih
          obtain ⟨a, s', u', hx1, hs', he, _, hu', _⟩ := ih
          have hu' : u' = [] := hu'
          subst hu'
          have := congrArg List.length he
          rw [hul, List.append_nil, hs'] at this
          rw [h2, if_neg (by omega), h1]
        · exact h2
      rw [hres]
      exact ⟨j, s, u ++ [l], hp1, hs, by rw [List.append_assoc], hp, ih, by omega⟩
    · have heq : u.length + 1 = 2 ^ j := by omega
      obtain ⟨x', hx, hx1, hx2⟩ : ∃ x', pushV t (1, leafV l) = [x'] ∧ x'.1 = 2 ^ j ∧ x'.2 = rootV (u ++ [l]) := by
        cases hR : pushV t (1, leafV l) with
        | nil =>
          rw [hR] at ih
          have : u ++ [l] = [] := ih
          simp at this
        | cons x' R =>
          rw [hR] at ih
          obtain ⟨a, s', u', hx1, hs', he, hx2, hu', hl'⟩ := ih
          have hlen := congrArg List.length he
          rw [hul, List.length_append, hs', heq] at hlen
          have haj : a = j := by
            rcases Nat.lt_trichotomy a j with h1 | h1 | h1
            · have : 2 ^ (a + 1) ≤ 2 ^ j := Nat.pow_le_pow_right (by decide) h1
              rw [Nat.pow_succ] at this
              omega
            · exact h1
            · have : 2 ^ (j + 1) ≤ 2 ^ a := Nat.pow_le_pow_right (by decide) h1
              rw [Nat.pow_succ] at this
              omega
          subst haj
          have hu0 : u' = [] := List.eq_nil_of_length_eq_zero (by omega)
          subst hu0
          rw [hu'.nil_of]
          rw [List.append_nil] at he
          exact ⟨x', rfl, hx1, by rw [hx2, he]⟩
      rcases pushV_cons p (1, leafV l) t with ⟨y', h1, h2⟩ | ⟨h1, _⟩
      · rw [hx] at h1
        obtain rfl : x' = y' := by simpa using h1
        rw [h2, if_pos (by omega)]
        refine ⟨j + 1, s ++ (u ++ [l]), [], ?_, ?_, by simp, ?_, rfl, Nat.two_pow_pos _⟩
        · show 2 * x'.1 = 2 ^ (j + 1)
          rw [Nat.pow_succ]; omega
        · rw [List.length_append, hs, hul, heq, Nat.pow_succ]; omega
        · show joinV p.2 x'.2 = _
          rw [hparts (by omega), hp, hx2]
      · rw [hx] at h1
        simp at h1
/-- The whole trees of leaves. -/
def rowsOf (ls : List (List UInt8)) : List (Nat × List UInt8) := ls.foldl (fun r l => pushV r (1, leafV l)) []
theorem rowsOf_snoc (ls : List (List UInt8)) (l : List UInt8) : rowsOf (ls ++ [l]) = pushV (rowsOf ls) (1, leafV l) := by simp [rowsOf]
theorem rowsOf_dec (ls : List (List UInt8)) : ∀ k, k ≤ ls.length → Dec (rowsOf (ls.take k)) (ls.take k) := by
  intro k
  induction k with
  | zero => intro _; rfl
  | succ k ih =>
    intro hk
    rw [List.take_succ_eq_append_getElem hk, rowsOf_snoc]
    exact (ih (by omega)).push _
theorem rowsOf_full (ls : List (List UInt8)) : Dec (rowsOf ls) ls := by
  have := rowsOf_dec ls ls.length (Nat.le_refl _)
  rwa [List.take_length] at this
theorem rowsOf_ne {ls : List (List UInt8)} (h : ls ≠ []) : rowsOf ls ≠ [] := fun e => by
  have := rowsOf_full ls
  rw [e] at this
  exact h this
/-- A tree's root, whatever it holds. -/
theorem TRoot_of (w : World) (g : Nat) (v : Value) (ls : List (List UInt8)) (n : Nat) (h : TreeAt w g v (rowsOf ls) n) :
    Calls Try.prog 15 #[.pointer (some ⟨g, 0, none⟩)] w fun e w' => e = .returned (hv (rootV ls)) ∧ Pure w w' := by
  by_cases hne : ls = []
  · subst hne
    exact TRoot_nil w g v n h
  · refine (TRoot_more w g v _ n (rowsOf_ne hne) h).mono fun e w' hh => ?_
    rw [(rowsOf_full ls).join (rowsOf_ne hne)] at hh
    exact hh
/-- A leaf behind the others. -/
theorem TAppend_of (w : World) (g : Nat) (v : Value) (ls : List (List UInt8)) (s : List UInt8) (h : TreeAt w g v (rowsOf ls) ls.length) (hs : s.length ≤ 140737488351232) (hl : ls.length ≤ 1000) :
    Calls Try.prog 17 #[.pointer (some ⟨g, 0, none⟩), .string (bstr s)] w fun e w' => e = .returned (.tuple #[]) ∧
      ∃ v', TreeAt w' g v' (rowsOf (ls ++ [s])) (ls ++ [s]).length ∧ (∀ k, v'.ownBlock = some k → w.heap.size ≤ k) ∧ Turn (fun k => k = g) w w' := by
  obtain ⟨h1, h2⟩ := (rowsOf_full ls).le
  refine (TAppend_any w g v _ _ s h hs (fun p hp => by have := h1 p hp; omega) (by omega) (by omega)).mono fun e w' hh => ?_
  rw [rowsOf_snoc, List.length_append]
  exact hh
end Go.Proofs.Ytjbigghjbcjelaa
