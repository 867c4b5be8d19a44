/- Chapter 14: i-tables, in plain Lean. -/
import Derived.Test.YthfekopimmgdmaaHashI
namespace Go.Proofs.Ythfekopimmgdmaa
open Go.RowKit

/-- An inode. -/
structure Ino where
  num : Int
  kind : Int
  mode : Int
  links : Int
  size : Int
  root : List UInt8
/-- Its cells. -/
def inoC (x : Ino) : List Value := [.int .i64 x.num, .int .i64 x.kind, .int .i64 x.mode, .int .i64 x.links, .int .i64 x.size] ++ u8s x.root
theorem inoC_length {x : Ino} (h : x.root.length = 32) : (inoC x).length = 37 := by simp [inoC, u8s_length, h]
theorem inoC_one (x : Ino) : ∀ u ∈ inoC x, u.oneCell' = true := by
  intro u hu
  rcases List.mem_append.1 hu with h | h
  · simp only [List.mem_cons, List.not_mem_nil, or_false] at h
    rcases h with rfl | rfl | rfl | rfl | rfl <;> rfl
  · exact u8s_one _ u h
def nodeB (n k m l : Int) : Bool := decide (1 ≤ n ∧ n ≤ 32 ∧ (k = 0 ∨ k = 1) ∧ (m = 0 ∨ m = 1) ∧ 1 ≤ l ∧ l ≤ 32)
def inoB (x : Ino) : Bool := nodeB x.num x.kind x.mode x.links && decide (0 ≤ x.size ∧ x.size ≤ if x.kind = 1 then 0 else 4096)
def risB : List Ino → Bool
  | [] => true
  | [_] => true
  | x :: y :: t => decide (x.num < y.num) && risB (y :: t)
def tabB (xs : List Ino) : Bool := xs.all inoB && risB xs
/-- An inode's bytes. -/
def inoE (x : Ino) : List UInt8 := beB x.num.toNat 1 ++ beB x.kind.toNat 1 ++ beB x.mode.toNat 1 ++ beB x.links.toNat 1 ++ beB x.size.toNat 2 ++ x.root
theorem inoE_length {x : Ino} (h : x.root.length = 32) : (inoE x).length = 38 := by simp [inoE, beB_length, h]
def tabE (xs : List Ino) : List UInt8 := [84] ++ beB xs.length 1 ++ xs.flatMap inoE
def putT (xs : List Ino) : List UInt8 × Int := if tabB xs = true then (tabE xs, 0) else ([], 1400)
theorem flat_length : ∀ {xs : List Ino}, (∀ x ∈ xs, x.root.length = 32) → (xs.flatMap inoE).length = 38 * xs.length
  | [], _ => rfl
  | x :: t, h => by
    have h1 := inoE_length (h x (by simp))
    have h2 := flat_length (xs := t) fun y hy => h y (by simp [hy])
    simp only [List.flatMap_cons, List.length_append, List.length_cons, h1, h2]
    omega
/-- A table that may be has 32 inodes at most. -/
theorem risB_le : ∀ (xs : List Ino) (m : Int), (∀ x ∈ xs, m < x.num ∧ x.num ≤ 32) → risB xs = true → (xs.length : Int) ≤ if xs = [] then 0 else 32 - m
  | [], m, _, _ => by simp
  | [x], m, h, _ => by
    have := h x (by simp)
    simp; omega
  | x :: y :: t, m, h, hr => by
    simp only [risB, Bool.and_eq_true, decide_eq_true_eq] at hr
    have hx := h x (by simp)
    have key : ∀ (l : List Ino) (z : Ino), risB (z :: l) = true → ∀ u ∈ l, z.num < u.num := by
      intro l
      induction l with
      | nil => intro z _ u hu; simp at hu
      | cons a l ih =>
        intro z hz u hu
        simp only [risB, Bool.and_eq_true, decide_eq_true_eq] at hz
        rcases List.mem_cons.1 hu with rfl | hu
        · exact hz.1
        · have := ih a hz.2 u hu; omega
    have h2 := risB_le (y :: t) x.num (fun u hu => by
      refine ⟨?_, (h u (by simp [List.mem_cons.1 hu])).2⟩
      rcases List.mem_cons.1 hu with rfl | hu
      · exact hr.1
      · have := key t y hr.2 u hu; omega) hr.2
    simp at h2 ⊢
    omega
theorem tabB_le {xs : List Ino} (h : tabB xs = true) : xs.length ≤ 32 := by
  simp only [tabB, Bool.and_eq_true, List.all_eq_true] at h
  have := risB_le xs 0 (fun x hx => by
    have hb := h.1 x hx
    simp only [inoB, nodeB, Bool.and_eq_true, decide_eq_true_eq] at hb
    omega) h.2
  split at this <;> omega
theorem inoB_parts {x : Ino} (h : inoB x = true) : ∃ n k m l s : Nat, x.num = n ∧ x.kind = k ∧ x.mode = m ∧ x.links = l ∧ x.size = s ∧ n < 256 ∧ k < 256 ∧ m < 256 ∧ l < 256 ∧ s < 65536 := by
  simp only [inoB, nodeB, Bool.and_eq_true, decide_eq_true_eq] at h
  obtain ⟨h1, h2, h3⟩ := h
  have : x.size ≤ 4096 := by split at h3 <;> omega
  exact ⟨x.num.toNat, x.kind.toNat, x.mode.toNat, x.links.toNat, x.size.toNat, by omega, by omega, by omega, by omega, by omega, by omega, by omega, by omega, by omega, by omega⟩
/-- An inode out of its bytes. -/
def inoD (s : List UInt8) : Ino := ⟨((s.getD 0 0).toNat : Int), ((s.getD 1 0).toNat : Int), ((s.getD 2 0).toNat : Int), ((s.getD 3 0).toNat : Int), (((s.getD 4 0).toNat * 256 + (s.getD 5 0).toNat : Nat) : Int), (s.drop 6).take 32⟩
def tabD (s : List UInt8) : Nat → List Ino
  | 0 => []
  | n + 1 => inoD s :: tabD (s.drop 38) n
/-- What bytes say. -/
def getT (s : List UInt8) : List Ino × Int :=
  if s.length < 2 ∨ s.getD 0 0 ≠ 84 ∨ s.length ≠ 2 + 38 * (s.getD 1 0).toNat then ([], 1400)
  else if tabB (tabD (s.drop 2) (s.getD 1 0).toNat) = true then (tabD (s.drop 2) (s.getD 1 0).toNat, 0) else ([], 1400)
theorem tabD_length (s : List UInt8) (n : Nat) : (tabD s n).length = n := by
  induction n generalizing s with
  | zero => rfl
  | succ n ih => simp [tabD, ih]
theorem tabD_root : ∀ (n : Nat) (s : List UInt8), 38 * n ≤ s.length → ∀ x ∈ tabD s n, x.root.length = 32
  | 0, _, _, x, hx => by simp [tabD] at hx
  | n + 1, s, h, x, hx => by
    rcases List.mem_cons.1 hx with rfl | hx
    · simp [inoD]; omega
    · exact tabD_root n (s.drop 38) (by rw [List.length_drop]; omega) x hx
theorem beB_one (b : UInt8) : beB b.toNat 1 = [b] := by simp [beB]
theorem beB_two (a b : UInt8) : beB (a.toNat * 256 + b.toNat) 2 = [a, b] := by
  have ha := a.toNat_lt; have hb := b.toNat_lt
  simp only [beB]
  congr 1
  · apply UInt8.toNat_inj.1
    rw [UInt8.toNat_ofNat', Nat.shiftRight_eq_div_pow]
    omega
  · congr 1
    apply UInt8.toNat_inj.1
    rw [UInt8.toNat_ofNat', Nat.shiftRight_eq_div_pow]
    omega
theorem inoE_inoD {s : List UInt8} (h : 38 ≤ s.length) : inoE (inoD s) = s.take 38 := by
  match s, h with
  | a :: b :: c :: d :: e :: f :: t, h =>
    simp only [inoE, inoD, List.getD_cons_zero, List.getD_cons_succ, Int.toNat_natCast, beB_one, beB_two]
    simp
theorem tabE_tabD : ∀ (n : Nat) (s : List UInt8), s.length = 38 * n → (tabD s n).flatMap inoE = s
  | 0, s, h => by
    have : s = [] := List.eq_nil_of_length_eq_zero (by omega)
    rw [this]; rfl
  | n + 1, s, h => by
    simp only [tabD, List.flatMap_cons]
    rw [inoE_inoD (by omega), tabE_tabD n (s.drop 38) (by rw [List.length_drop]; omega), List.take_append_drop]
theorem inoD_inoE {x : Ino} (hr : x.root.length = 32) (h : inoB x = true) (t : List UInt8) : inoD (inoE x ++ t) = x ∧ (inoE x ++ t).drop 38 = t := by
  refine ⟨?_, by rw [List.drop_append_of_le_length (by rw [inoE_length hr]; exact Nat.le_refl _), List.drop_of_length_le (by rw [inoE_length hr]; exact Nat.le_refl _)]; rfl⟩
  obtain ⟨n, k, m, l, s, h1, h2, h3, h4, h5, b1, b2, b3, b4, b5⟩ := inoB_parts h
  obtain ⟨num, kind, mode, links, size, root⟩ := x
  simp only at h1 h2 h3 h4 h5 hr
  subst h1 h2 h3 h4 h5
  have e1 : ∀ a : Nat, a < 256 → beB a 1 = [UInt8.ofNat a] := fun a _ => by simp [beB]
  have e2 : beB s 2 = [UInt8.ofNat (s / 256), UInt8.ofNat s] := by simp [beB, Nat.shiftRight_eq_div_pow]
  simp only [inoE, Int.toNat_natCast, e1 _ b1, e1 _ b2, e1 _ b3, e1 _ b4, e2, inoD]
  have u : ∀ a : Nat, a < 256 → (UInt8.ofNat a).toNat = a := fun a ha => by rw [UInt8.toNat_ofNat']; omega
  have hlo : (UInt8.ofNat s).toNat = s % 256 := by rw [UInt8.toNat_ofNat']
  simp only [List.cons_append, List.nil_append, List.getD_cons_zero, List.getD_cons_succ, u _ b1, u _ b2, u _ b3, u _ b4, u (s / 256) (by omega), hlo, List.drop_succ_cons, List.drop_zero]
  congr 1
  · congr 1; omega
  · rw [List.take_append_of_le_length (by omega), List.take_of_length_le (by omega)]
theorem tabD_flat : ∀ (xs : List Ino) (t : List UInt8), (∀ x ∈ xs, x.root.length = 32) → (∀ x ∈ xs, inoB x = true) → tabD (xs.flatMap inoE ++ t) xs.length = xs
  | [], _, _, _ => rfl
  | x :: ys, t, hr, hb => by
    have h := inoD_inoE (hr x (by simp)) (hb x (by simp)) (ys.flatMap inoE ++ t)
    simp only [List.flatMap_cons, List.length_cons, tabD, List.append_assoc]
    rw [h.1, h.2, tabD_flat ys t (fun y hy => hr y (by simp [hy])) fun y hy => hb y (by simp [hy])]
/-- What was written is read. -/
theorem getT_tabE {xs : List Ino} (hr : ∀ x ∈ xs, x.root.length = 32) (h : tabB xs = true) : getT (tabE xs) = (xs, 0) := by
  have hle := tabB_le h
  have hb : ∀ x ∈ xs, inoB x = true := by
    simp only [tabB, Bool.and_eq_true, List.all_eq_true] at h
    exact h.1
  have e1 : beB xs.length 1 = [UInt8.ofNat xs.length] := by simp [beB]
  have u : (UInt8.ofNat xs.length).toNat = xs.length := by rw [UInt8.toNat_ofNat']; omega
  have hl := flat_length hr
  rw [getT, tabE, e1]
  simp only [List.cons_append, List.nil_append, List.length_cons, List.getD_cons_zero, List.getD_cons_succ, u, hl, List.drop_succ_cons, List.drop_zero]
  rw [if_neg (by simp; omega)]
  have := tabD_flat xs [] hr hb
  rw [List.append_nil] at this
  rw [this, if_pos h]
/-- What was read is written. -/
theorem putT_getT {s : List UInt8} (h : (getT s).2 = 0) : putT (getT s).1 = (s, 0) ∧ ∀ x ∈ (getT s).1, x.root.length = 32 := by
  unfold getT at h ⊢
  split at h
  · simp at h
  · rename_i h1
    split at h
    · rename_i h2
      rw [if_neg h1, if_pos h2]
      have hl : s.length = 2 + 38 * (s.getD 1 0).toNat := by omega
      refine ⟨?_, tabD_root _ _ (by rw [List.length_drop]; omega)⟩
      rw [putT, if_pos h2, tabE, tabD_length, beB_one, tabE_tabD _ _ (by rw [List.length_drop]; omega)]
      match s, h1 with
      | a :: b :: t, h1 =>
        have : a = 84 := by simp at h1; exact h1.1
        rw [this]; rfl
      | [], h1 => simp at h1
      | [_], h1 => simp at h1
    · simp at h
end Go.Proofs.Ythfekopimmgdmaa
