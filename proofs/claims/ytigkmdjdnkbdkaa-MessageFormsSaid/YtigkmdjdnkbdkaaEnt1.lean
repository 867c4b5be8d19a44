/- Chapter 19: entries in memory; may an entry's body be? -/
import Derived.Test.YtigkmdjdnkbdkaaEntP
import Derived.Test.YtigkmdjdnkbdkaaRowOf
import Derived.Test.YtigkmdjdnkbdkaaRowN
namespace Go.Proofs.Ytigkmdjdnkbdkaa
open Go.RowKit
set_option maxRecDepth 100000

/-- An entry as it lies: its plain part, its two rows. -/
structure Ent where
  p : EntP
  vecV : Value
  tabV : Value
def entC (e : Ent) : List Value := [.int .i64 e.p.user, .int .i64 e.p.seq, e.vecV] ++ (u8s e.p.root ++ [e.tabV, .string (bstr e.p.sign)])
/-- Its rows can be read. -/
structure EntAt (w : World) (e : Ent) : Prop where
  vec : Ints w e.vecV e.p.vec
  tab : Rows u8s 32 w e.tabV e.p.tabs
  root : e.p.root.length = 32
theorem EntAt.pure {w w' : World} {e : Ent} (h : EntAt w e) (t : Pure w w') : EntAt w' e := ⟨h.vec.pure t, h.tab.pure t, h.root⟩
theorem EntAt.fit {w : World} {e : Ent} (h : EntAt w e) : e.p.fit := ⟨h.root, fun t ht => by have := h.tab.len t ht; rwa [u8s_length] at this⟩
theorem entC_length {e : Ent} (h : e.p.root.length = 32) : (entC e).length = 37 := by simp [entC, u8s_length, h]
theorem Ints.one {w : World} {v : Value} {l : List Int} (h : Ints w v l) : v.oneCell' = true := by obtain ⟨ao, c, rfl, _⟩ := h; rfl
theorem Rows.one {α : Type} {cells : α → List Value} {size : Nat} {w : World} {v : Value} {xs : List α} (h : Rows cells size w v xs) : v.oneCell' = true := by obtain ⟨ao, c, rfl, _⟩ := h; rfl
theorem entC_one {w : World} {e : Ent} (h : EntAt w e) : ∀ v ∈ entC e, v.oneCell' = true := by
  intro v hv
  simp only [entC, List.mem_append, List.mem_cons, List.mem_nil_iff, or_false] at hv
  rcases hv with (rfl | rfl | rfl) | hv | rfl | rfl
  · rfl
  · rfl
  · exact h.vec.one
  · exact u8s_one _ v hv
  · exact h.tab.one
  · rfl
theorem ent_at {e : Ent} (hr : e.p.root.length = 32) {W : World} {g : Nat} (hg : W.heap[g]? = some (.cells (entC e).toArray 47 (0, 0))) : W.cell? ⟨g, 0, none⟩ = some (.int .i64 e.p.user) ∧ W.cell? ⟨g, 1, none⟩ = some (.int .i64 e.p.seq) ∧ W.cell? ⟨g, 2, none⟩ = some e.vecV ∧ W.cell? ⟨g, 35, none⟩ = some e.tabV ∧ W.cell? ⟨g, 36, none⟩ = some (.string (bstr e.p.sign)) ∧ W.rangeAt g 3 (u8s e.p.root) := by
  have hl : (u8s e.p.root).length = 32 := by rw [u8s_length, hr]
  have h35 : ∀ j, (entC e)[35 + j]? = [e.tabV, .string (bstr e.p.sign)][j]? := fun j => by
    rw [entC, List.getElem?_append_right (by simp; omega), List.getElem?_append_right (by simp [hl]; omega)]
    simp only [List.length_cons, List.length_nil, hl]
    congr 1
    omega
  refine ⟨?_, ?_, ?_, ?_, ?_, fun j v hj => ?_⟩
  · rw [cell_of_row W g 0 _ _ _ hg]; rfl
  · rw [cell_of_row W g 1 _ _ _ hg]; rfl
  · rw [cell_of_row W g 2 _ _ _ hg]; rfl
  · rw [cell_of_row W g 35 _ _ _ hg, List.getElem?_toArray]; exact h35 0
  · rw [cell_of_row W g 36 _ _ _ hg, List.getElem?_toArray]; exact h35 1
  · have := range_of_row hg (3 + j) v (by
      have hlt := (List.getElem?_eq_some_iff.1 hj).1
      rw [entC, List.getElem?_append_right (by simp), List.getElem?_append_left (by simp only [List.length_cons, List.length_nil]; omega)]
      simpa using hj)
    simpa using this

set_option maxHeartbeats 4000000 in
theorem emay_any (w : World) (g : Nat) (e : Ent) (hg : w.heap[g]? = some (.cells (entC e).toArray 47 (0, 0))) (he : EntAt w e) : Calls Try.prog 61 #[.pointer (some ⟨g, 0, none⟩)] w fun x w' => x = .returned (.bool (mayE e.p)) ∧ w' = w := by
  obtain ⟨c0, c1, c2, c35, _, _⟩ := ent_at he.root hg
  have HV := Lib.hid (May_any w e.vecV e.p.vec he.vec)
  obtain ⟨ao, cap, htv, htc, _, _⟩ := he.tab
  have hm : mayE e.p = (decide (0 ≤ e.p.user) && decide (e.p.user < 16) && decide (1 ≤ e.p.seq) && decide (e.p.seq ≤ 256) && mayB e.p.vec && (decide (1 ≤ e.p.tabs.length) && decide (e.p.tabs.length ≤ 24))) := rfl
  rw [hm]
  obtain ⟨⟨user, seq, vec, root, tabs, sign⟩, vecV, tabV⟩ := e
  simp only at *
  subst htv
  generalize mayB vec = B at *
  generalize tabs.length = n at *
  clear hg he hm
  by_cases h1 : 0 ≤ user
  case neg =>
    have d1 : decide (0 ≤ user) = false := decide_eq_false h1
    rw [d1]
    simp only [Bool.false_and]
    clear h1
    go_enter Try.func61, Try.ntmps61
    go_wp2
    go_ret
    exact ⟨rfl, rfl⟩
  have d1 : decide (0 ≤ user) = true := decide_eq_true h1
  rw [d1]
  simp only [Bool.true_and]
  by_cases h2 : user < 16
  case neg =>
    have d2 : decide (user < 16) = false := decide_eq_false h2
    rw [d2]
    simp only [Bool.false_and]
    clear h2
    go_enter Try.func61, Try.ntmps61
    go_wp2
    go_ret
    exact ⟨rfl, rfl⟩
  have d2 : decide (user < 16) = true := decide_eq_true h2
  rw [d2]
  simp only [Bool.true_and]
  by_cases h3 : 1 ≤ seq
  case neg =>
    have d3 : decide (1 ≤ seq) = false := decide_eq_false h3
    rw [d3]
    simp only [Bool.false_and]
    clear h3
    go_enter Try.func61, Try.ntmps61
    go_wp2
    go_ret
    exact ⟨rfl, rfl⟩
  have d3 : decide (1 ≤ seq) = true := decide_eq_true h3
  rw [d3]
  simp only [Bool.true_and]
  by_cases h4 : seq ≤ 256
  case neg =>
    have d4 : decide (seq ≤ 256) = false := decide_eq_false h4
    rw [d4]
    simp only [Bool.false_and]
    clear h4
    go_enter Try.func61, Try.ntmps61
    go_wp2
    go_ret
    exact ⟨rfl, rfl⟩
  have d4 : decide (seq ≤ 256) = true := decide_eq_true h4
  rw [d4]
  simp only [Bool.true_and]
  cases B with
  | false =>
    simp only [Bool.false_and]
    go_enter Try.func61, Try.ntmps61
    go_wp2_with fail
    refine (HV.out).mono ?_
    rintro x w1 ⟨rfl, rfl⟩
    go_wp2
    go_ret
    exact ⟨rfl, rfl⟩
  | true =>
  simp only [Bool.true_and]
  by_cases h5 : 1 ≤ n
  case neg =>
    have d5 : decide (1 ≤ n) = false := decide_eq_false h5
    rw [d5]
    simp only [Bool.false_and]
    have q5 : decide ((1 : Int) ≤ (n : Int)) = false := decide_eq_false (by omega)
    clear h5
    go_enter Try.func61, Try.ntmps61
    go_wp2_with fail
    refine (HV.out).mono ?_
    rintro x w1 ⟨rfl, rfl⟩
    go_wp2
    go_ret
    exact ⟨rfl, rfl⟩
  have d5 : decide (1 ≤ n) = true := decide_eq_true h5
  have q5 : decide ((1 : Int) ≤ (n : Int)) = true := decide_eq_true (by omega)
  rw [d5]
  simp only [Bool.true_and]
  by_cases h6 : n ≤ 24
  · have d6 : decide (n ≤ 24) = true := decide_eq_true h6
    rw [d6]
    have q6 : decide ((n : Int) ≤ 24) = true := decide_eq_true (by omega)
    clear h6
    go_enter Try.func61, Try.ntmps61
    go_wp2_with fail
    refine (HV.out).mono ?_
    rintro x w1 ⟨rfl, rfl⟩
    go_wp2
    go_ret
    exact ⟨rfl, rfl⟩
  · have d6 : decide (n ≤ 24) = false := decide_eq_false h6
    rw [d6]
    have q6 : decide ((n : Int) ≤ 24) = false := decide_eq_false (by omega)
    clear h6
    go_enter Try.func61, Try.ntmps61
    go_wp2_with fail
    refine (HV.out).mono ?_
    rintro x w1 ⟨rfl, rfl⟩
    go_wp2
    go_ret
    exact ⟨rfl, rfl⟩
end Go.Proofs.Ytigkmdjdnkbdkaa
