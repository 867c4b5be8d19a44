/- Chapter 14: may a table be? -/
import Derived.Test.YthfekopimmgdmaaItab1
namespace Go.Proofs.Ythfekopimmgdmaa
open Go.RowKit

/-- The number at a place. -/
def nmV (xs : List Ino) (i : Nat) : Int := ((xs[i]?).map (·.num)).getD 0
theorem nmV_at {xs : List Ino} {i : Nat} (h : i < xs.length) : nmV xs i = (xs[i]).num := by simp [nmV, h]
theorem risB_iff : ∀ xs : List Ino, risB xs = true ↔ ∀ i, 1 ≤ i → i < xs.length → nmV xs (i - 1) < nmV xs i
  | [] => by simp [risB]
  | [x] => by
    simp only [risB, true_iff, List.length_cons, List.length_nil]
    intro i h1 h2; omega
  | x :: y :: t => by
    simp only [risB, Bool.and_eq_true, decide_eq_true_eq]
    rw [risB_iff (y :: t)]
    constructor
    · rintro ⟨h1, h2⟩ i hi hlt
      match i, hi with
      | 1, _ => simpa [nmV] using h1
      | k + 2, _ =>
        have := h2 (k + 1) (by omega) (by simp only [List.length_cons] at hlt ⊢; omega)
        simpa [nmV] using this
    · intro h
      refine ⟨by simpa [nmV] using h 1 (by omega) (by simp only [List.length_cons]; omega), fun i hi hlt => ?_⟩
      have := h (i + 1) (by omega) (by simp only [List.length_cons] at hlt ⊢; omega)
      match i, hi with
      | k + 1, _ => simpa [nmV] using this
theorem all_take_succ {xs : List Ino} {j : Nat} (h : j < xs.length) : (xs.take (j + 1)).all inoB = ((xs.take j).all inoB && inoB xs[j]) := by
  rw [List.take_add_one, List.getElem?_eq_getElem h, List.all_append]; simp
theorem all_of_not {xs : List Ino} {j : Nat} (h : j < xs.length) (hb : inoB xs[j] = false) : tabB xs = false := by
  have : xs.all inoB = false := by
    cases ha : xs.all inoB with
    | false => rfl
    | true => rw [List.all_eq_true] at ha; rw [ha _ (List.getElem_mem h)] at hb; cases hb
  rw [tabB, this]; rfl

set_option maxRecDepth 100000 in
set_option maxHeartbeats 1000000 in
theorem MayKey_any (w : World) (x : Ino) : Calls Try.prog 42 #[.agg (inoC x).toArray] w fun e w' => e = .returned (.int .i64 x.num) ∧ Pure w w' := by
  have hc : ∀ (W : World) g, W.heap[g]? = some (.cells (inoC x).toArray 41 (0, 0)) → W.cell? ⟨g, 0, none⟩ = some (.int .i64 x.num) := fun W g hg => by
    have := (ino_cell (range_of_row hg)).1
    simpa using this
  have HC := Lib.hid hc
  clear hc
  obtain ⟨C, hC⟩ : ∃ C, C = inoC x := ⟨_, rfl⟩
  rw [← hC] at HC ⊢
  clear hC
  go_enter Try.func42, Try.ntmps42
  go_wp2_with (refine wpList_boxV rfl 41 _ rfl C rfl ?_)
  intro g w1 e1 c1 t1 s1
  have c0 := HC.out _ _ c1
  have PT := Lib.hid t1
  clear t1 s1 e1 HC
  go_wp2
  go_ret
  exact ⟨rfl, PT.out⟩

set_option maxRecDepth 100000 in
set_option maxHeartbeats 4000000 in
theorem Rising_any (w : World) (V : Value) (xs : List Ino) (h : Rows inoC 37 w V xs) (hr : ∀ x ∈ xs, x.root.length = 32) (hlen : xs.length ≤ 4611686018427387904) :
    Calls Try.prog 41 #[V, .func (.func 42) #[] #[]] w fun e w' => e = .returned (.bool (risB xs)) ∧ Pure w w' := by
  obtain ⟨ao, cap, rfl, h2, h3, h4⟩ := h
  have H3 := Lib.hid h3; have H4 := Lib.hid h4; have HR := Lib.hid hr
  clear h3 h4 hr
  go_enter Try.func41, Try.ntmps41
  go_wp2
  go_loopw [5] (fun i wr => ∃ j : Nat, 1 ≤ j ∧ (j ≤ xs.length ∨ j = 1) ∧ i = .int .i64 (j : Int) ∧ Hid (∀ k, 1 ≤ k → k < j → k < xs.length → nmV xs (k - 1) < nmV xs k) ∧ Hid (Pure w wr)) (fun i _ => xs.length - (intOf i).toNat)
  case atStart => exact ⟨1, by omega, Or.inr rfl, rfl, Lib.hid (fun k h1 h2 _ => by omega), Lib.hid (Turn.refl _ _)⟩
  case round =>
    obtain ⟨j, hj1, hj, rfl, HK, HP⟩ := hrel
    by_cases hlt : j < xs.length
    · have hne : xs ≠ [] := fun e => by rw [e] at hlt; simp at hlt
      obtain ⟨b, o, rfl, hrg⟩ := H3.out hne
      obtain ⟨p, hp⟩ : ∃ p, p = j - 1 := ⟨_, rfl⟩
      have hpj : p < xs.length := by omega
      have r1 := HP.out.range (rowOf_at xs o p xs[p] (by simp [hpj]) hrg H4.out) (fun e => e)
      have r2 := HP.out.range (rowOf_at xs o j xs[j] (by simp [hlt]) hrg H4.out) (fun e => e)
      have x1 : (xs[p]).root.length = 32 := HR.out _ (List.getElem_mem hpj)
      have x2 : (xs[j]).root.length = 32 := HR.out _ (List.getElem_mem hlt)
      have hn1 : nmV xs (j - 1) = (xs[p]).num := by rw [← hp]; exact nmV_at hpj
      have hn2 := nmV_at hlt
      generalize xs[p] = X1 at r1 x1 hn1
      generalize xs[j] = X2 at r2 x2 hn2
      have K1 := Lib.hid (fun W => MayKey_any W X1); have K2 := Lib.hid (fun W => MayKey_any W X2)
      have HNN := Lib.hid (And.intro hn1 hn2)
      have q0 : (0 : Int) ≤ j := by omega
      have q1 : (j : Int) < xs.length := by omega
      have i1 : IntKind.i64.wrap ((j : Int) - 1) = (p : Int) := by rw [IntWalk.i64_in _ (by omega)]; omega
      have i2 : IntKind.i64.wrap (p : Int) = p := IntWalk.i64_in _ (by omega)
      have q2 : (0 : Int) ≤ p := by omega
      have q3 : (p : Int) < xs.length := by omega
      have HPJ := Lib.hid hp
      clear hn1 hn2 hrg hp
      by_cases hcmp : X1.num < X2.num
      · have d1 : decide (X2.num ≤ X1.num) = false := decide_eq_false (by omega)
        have HCM := Lib.hid hcmp
        clear hcmp
        go_wp2_with fail
        refine wp_region_held_drew (S := fun w' => w'.rangeAt b (o + p * 37) (inoC X1) ∧ w'.rangeAt b (o + j * 37) (inoC X2)) (by kernel_rfl) (show _ ∧ _ from ⟨r1, r2⟩) (fun hS => ?_)
        have HS := Lib.hid hS
        have HP := Lib.hid HP.out.drew
        clear hS r1 r2
        generalize wr.drew = wr at *
        refine wpAnyH_take (i := 0) (v := ?_) rfl (by kernel_rfl) (by kernel_rfl) (by kernel_rfl) (fun _ _ _ h => h) (Or.inl ⟨by rfl, fun w hSw => ?_⟩) HS.out ?_
        rotate_left
        · first | (go_simp; done) | (go_simp; with_reducible rfl)
        simp only [List.getElem_toArray, List.getElem_cons_zero, Act.put, List.setIfInBounds_toArray, List.set_cons_zero, List.set_cons_succ]
        refine wpAnyH_take (i := 1) (v := ?_) rfl (by kernel_rfl) (by kernel_rfl) (by kernel_rfl) (fun _ _ _ h => h) (Or.inl ⟨by rfl, fun w hSw => ?_⟩) HS.out ?_
        rotate_left
        · first | (go_simp; done) | (go_simp; with_reducible rfl)
        simp only [List.getElem_toArray, List.getElem_cons_succ, List.getElem_cons_zero, Act.put, List.setIfInBounds_toArray, List.set_cons_zero, List.set_cons_succ]
        refine wpAnyH_take (i := 2) (v := ?_) rfl (by kernel_rfl) (by kernel_rfl) (by kernel_rfl) (fun _ _ _ h => h) (Or.inl ⟨by rfl, fun w hSw => ?_⟩) HS.out ?_
        rotate_left
        · first | (go_simp; done) | (go_simp; with_reducible rfl)
        simp only [List.getElem_toArray, List.getElem_cons_succ, List.getElem_cons_zero, Act.put, List.setIfInBounds_toArray, List.set_cons_zero, List.set_cons_succ]
        refine wpAnyH_take (i := 3) (v := ?_) rfl (by kernel_rfl) (by kernel_rfl) (by kernel_rfl) (fun _ _ _ h => h) (Or.inl ⟨by rfl, fun w hSw => ?_⟩) HS.out ?_
        rotate_left
        · first | (go_simp; done) | (go_simp; with_reducible rfl)
        simp only [List.getElem_toArray, List.getElem_cons_succ, List.getElem_cons_zero, Act.put, List.setIfInBounds_toArray, List.set_cons_zero, List.set_cons_succ]
        refine wpAnyH_take (i := 4) (v := ?_) rfl (by kernel_rfl) (by kernel_rfl) (by kernel_rfl) (fun _ _ _ h => h) (Or.inl ⟨by rfl, fun w hSw => ?_⟩) HS.out ?_
        rotate_left
        · first | (go_simp; done) | (go_simp; with_reducible rfl)
        simp only [List.getElem_toArray, List.getElem_cons_succ, List.getElem_cons_zero, Act.put, List.setIfInBounds_toArray, List.set_cons_zero, List.set_cons_succ]
        refine wpAnyH_take (i := 5) (v := .agg (inoC X1).toArray) rfl (by kernel_rfl) (by kernel_rfl) (by kernel_rfl) (fun _ _ _ h => h) (yieldsIf_load_mid (by rfl) 41 _ rfl b (o + p * 37) rfl (inoC X1) _ (fun w h => h.1) Try.underlying41 rfl (infoN_l x1)) HS.out ?_
        simp only [List.getElem_toArray, List.getElem_cons_succ, List.getElem_cons_zero, Act.put, List.setIfInBounds_toArray, List.set_cons_zero, List.set_cons_succ]
        refine wpAnyH_take (i := 7) (v := ?_) rfl (by kernel_rfl) (by kernel_rfl) (by kernel_rfl) (fun _ _ _ h => h) (Or.inl ⟨by rfl, fun w hSw => ?_⟩) HS.out ?_
        rotate_left
        · first | (go_simp; done) | (go_simp; with_reducible rfl)
        simp only [List.getElem_toArray, List.getElem_cons_succ, List.getElem_cons_zero, Act.put, List.setIfInBounds_toArray, List.set_cons_zero, List.set_cons_succ]
        refine wpAnyH_take (i := 8) (v := ?_) rfl (by kernel_rfl) (by kernel_rfl) (by kernel_rfl) (fun _ _ _ h => h) (Or.inl ⟨by rfl, fun w hSw => ?_⟩) HS.out ?_
        rotate_left
        · first | (go_simp; done) | (go_simp; with_reducible rfl)
        simp only [List.getElem_toArray, List.getElem_cons_succ, List.getElem_cons_zero, Act.put, List.setIfInBounds_toArray, List.set_cons_zero, List.set_cons_succ]
        refine wpAnyH_take (i := 9) (v := ?_) rfl (by kernel_rfl) (by kernel_rfl) (by kernel_rfl) (fun _ _ _ h => h) (Or.inl ⟨by rfl, fun w hSw => ?_⟩) HS.out ?_
        rotate_left
        · first | (go_simp; done) | (go_simp; with_reducible rfl)
        simp only [List.getElem_toArray, List.getElem_cons_succ, List.getElem_cons_zero, Act.put, List.setIfInBounds_toArray, List.set_cons_zero, List.set_cons_succ]
        refine wpAnyH_take (i := 10) (v := ?_) rfl (by kernel_rfl) (by kernel_rfl) (by kernel_rfl) (fun _ _ _ h => h) (Or.inl ⟨by rfl, fun w hSw => ?_⟩) HS.out ?_
        rotate_left
        · first | (go_simp; done) | (go_simp; with_reducible rfl)
        simp only [List.getElem_toArray, List.getElem_cons_succ, List.getElem_cons_zero, Act.put, List.setIfInBounds_toArray, List.set_cons_zero, List.set_cons_succ]
        refine wpAnyH_take (i := 11) (v := .agg (inoC X2).toArray) rfl (by kernel_rfl) (by kernel_rfl) (by kernel_rfl) (fun _ _ _ h => h) (yieldsIf_load_mid (by rfl) 41 _ rfl b (o + j * 37) rfl (inoC X2) _ (fun w h => h.2) Try.underlying41 rfl (infoN_l x2)) HS.out ?_
        simp only [List.getElem_toArray, List.getElem_cons_succ, List.getElem_cons_zero, Act.put, List.setIfInBounds_toArray, List.set_cons_zero, List.set_cons_succ]
        refine wpAnyH_step (i := 6) (by kernel_rfl) rfl fun K hK => ?_
        go_simp
        refine (K1.out _).mono ?_
        rintro e w6 ⟨rfl, t6⟩
        have HP := Lib.hid (HP.out.pure t6); have HS := Lib.hid (And.intro (t6.range HS.out.1 (fun e => e)) (t6.range HS.out.2 (fun e => e)))
        clear t6
        refine hK.out _ _ HS.out ?_
        clear hK K
        try simp only [List.getElem_toArray, List.getElem_cons_succ, List.getElem_cons_zero, Act.put, List.setIfInBounds_toArray, List.set_cons_zero, List.set_cons_succ]
        refine wpAnyH_step (i := 12) (by kernel_rfl) rfl fun K hK => ?_
        go_simp
        refine (K2.out _).mono ?_
        rintro e w7 ⟨rfl, t7⟩
        have HP := Lib.hid (HP.out.pure t7); have HS := Lib.hid (And.intro (t7.range HS.out.1 (fun e => e)) (t7.range HS.out.2 (fun e => e)))
        clear t7
        refine hK.out _ _ HS.out ?_
        clear hK K
        try simp only [List.getElem_toArray, List.getElem_cons_succ, List.getElem_cons_zero, Act.put, List.setIfInBounds_toArray, List.set_cons_zero, List.set_cons_succ]
        refine wpAnyH_take (i := 13) (v := ?_) rfl (by kernel_rfl) (by kernel_rfl) (by kernel_rfl) (fun _ _ _ h => h) (Or.inl ⟨by rfl, fun w hSw => ?_⟩) HS.out ?_
        rotate_left
        · first | (go_simp; done) | (go_simp; with_reducible rfl)
        simp only [List.getElem_toArray, List.getElem_cons_succ, List.getElem_cons_zero, Act.put, List.setIfInBounds_toArray, List.set_cons_zero, List.set_cons_succ]
        refine wpAnyH_done (by kernel_rfl) ?_ _
        have i3 : IntKind.i64.wrap ((j : Int) + 1) = ((j + 1 : Nat) : Int) := by rw [IntWalk.i64_in _ (by omega)]; omega
        go_wp2
        refine ⟨⟨j + 1, by omega, by omega, by first | rfl | trivial | go_num, Lib.hid (fun k h1 h2 h3 => ?_), HP⟩, by simp [intOf]; omega⟩
        by_cases hkj : k = j
        · rw [hkj, HNN.out.1, HNN.out.2]; exact HCM.out
        · exact HK.out k h1 (by omega) h3
      · have d1 : decide (X2.num ≤ X1.num) = true := decide_eq_true (by omega)
        have HF : Hid (risB xs = false) := Lib.hid (by
          cases hb : risB xs with
          | false => rfl
          | true =>
            have := (risB_iff xs).1 hb j hj1 hlt
            rw [HNN.out.1, HNN.out.2] at this
            exact absurd this hcmp)
        clear hcmp
        go_wp2_with fail
        refine wp_region_held_drew (S := fun w' => w'.rangeAt b (o + p * 37) (inoC X1) ∧ w'.rangeAt b (o + j * 37) (inoC X2)) (by kernel_rfl) (show _ ∧ _ from ⟨r1, r2⟩) (fun hS => ?_)
        have HS := Lib.hid hS
        have HP := Lib.hid HP.out.drew
        clear hS r1 r2
        generalize wr.drew = wr at *
        refine wpAnyH_take (i := 0) (v := ?_) rfl (by kernel_rfl) (by kernel_rfl) (by kernel_rfl) (fun _ _ _ h => h) (Or.inl ⟨by rfl, fun w hSw => ?_⟩) HS.out ?_
        rotate_left
        · first | (go_simp; done) | (go_simp; with_reducible rfl)
        simp only [List.getElem_toArray, List.getElem_cons_zero, Act.put, List.setIfInBounds_toArray, List.set_cons_zero, List.set_cons_succ]
        refine wpAnyH_take (i := 1) (v := ?_) rfl (by kernel_rfl) (by kernel_rfl) (by kernel_rfl) (fun _ _ _ h => h) (Or.inl ⟨by rfl, fun w hSw => ?_⟩) HS.out ?_
        rotate_left
        · first | (go_simp; done) | (go_simp; with_reducible rfl)
        simp only [List.getElem_toArray, List.getElem_cons_succ, List.getElem_cons_zero, Act.put, List.setIfInBounds_toArray, List.set_cons_zero, List.set_cons_succ]
        refine wpAnyH_take (i := 2) (v := ?_) rfl (by kernel_rfl) (by kernel_rfl) (by kernel_rfl) (fun _ _ _ h => h) (Or.inl ⟨by rfl, fun w hSw => ?_⟩) HS.out ?_
        rotate_left
        · first | (go_simp; done) | (go_simp; with_reducible rfl)
        simp only [List.getElem_toArray, List.getElem_cons_succ, List.getElem_cons_zero, Act.put, List.setIfInBounds_toArray, List.set_cons_zero, List.set_cons_succ]
        refine wpAnyH_take (i := 3) (v := ?_) rfl (by kernel_rfl) (by kernel_rfl) (by kernel_rfl) (fun _ _ _ h => h) (Or.inl ⟨by rfl, fun w hSw => ?_⟩) HS.out ?_
        rotate_left
        · first | (go_simp; done) | (go_simp; with_reducible rfl)
        simp only [List.getElem_toArray, List.getElem_cons_succ, List.getElem_cons_zero, Act.put, List.setIfInBounds_toArray, List.set_cons_zero, List.set_cons_succ]
        refine wpAnyH_take (i := 4) (v := ?_) rfl (by kernel_rfl) (by kernel_rfl) (by kernel_rfl) (fun _ _ _ h => h) (Or.inl ⟨by rfl, fun w hSw => ?_⟩) HS.out ?_
        rotate_left
        · first | (go_simp; done) | (go_simp; with_reducible rfl)
        simp only [List.getElem_toArray, List.getElem_cons_succ, List.getElem_cons_zero, Act.put, List.setIfInBounds_toArray, List.set_cons_zero, List.set_cons_succ]
        refine wpAnyH_take (i := 5) (v := .agg (inoC X1).toArray) rfl (by kernel_rfl) (by kernel_rfl) (by kernel_rfl) (fun _ _ _ h => h) (yieldsIf_load_mid (by rfl) 41 _ rfl b (o + p * 37) rfl (inoC X1) _ (fun w h => h.1) Try.underlying41 rfl (infoN_l x1)) HS.out ?_
        simp only [List.getElem_toArray, List.getElem_cons_succ, List.getElem_cons_zero, Act.put, List.setIfInBounds_toArray, List.set_cons_zero, List.set_cons_succ]
        refine wpAnyH_take (i := 7) (v := ?_) rfl (by kernel_rfl) (by kernel_rfl) (by kernel_rfl) (fun _ _ _ h => h) (Or.inl ⟨by rfl, fun w hSw => ?_⟩) HS.out ?_
        rotate_left
        · first | (go_simp; done) | (go_simp; with_reducible rfl)
        simp only [List.getElem_toArray, List.getElem_cons_succ, List.getElem_cons_zero, Act.put, List.setIfInBounds_toArray, List.set_cons_zero, List.set_cons_succ]
        refine wpAnyH_take (i := 8) (v := ?_) rfl (by kernel_rfl) (by kernel_rfl) (by kernel_rfl) (fun _ _ _ h => h) (Or.inl ⟨by rfl, fun w hSw => ?_⟩) HS.out ?_
        rotate_left
        · first | (go_simp; done) | (go_simp; with_reducible rfl)
        simp only [List.getElem_toArray, List.getElem_cons_succ, List.getElem_cons_zero, Act.put, List.setIfInBounds_toArray, List.set_cons_zero, List.set_cons_succ]
        refine wpAnyH_take (i := 9) (v := ?_) rfl (by kernel_rfl) (by kernel_rfl) (by kernel_rfl) (fun _ _ _ h => h) (Or.inl ⟨by rfl, fun w hSw => ?_⟩) HS.out ?_
        rotate_left
        · first | (go_simp; done) | (go_simp; with_reducible rfl)
        simp only [List.getElem_toArray, List.getElem_cons_succ, List.getElem_cons_zero, Act.put, List.setIfInBounds_toArray, List.set_cons_zero, List.set_cons_succ]
        refine wpAnyH_take (i := 10) (v := ?_) rfl (by kernel_rfl) (by kernel_rfl) (by kernel_rfl) (fun _ _ _ h => h) (Or.inl ⟨by rfl, fun w hSw => ?_⟩) HS.out ?_
        rotate_left
        · first | (go_simp; done) | (go_simp; with_reducible rfl)
        simp only [List.getElem_toArray, List.getElem_cons_succ, List.getElem_cons_zero, Act.put, List.setIfInBounds_toArray, List.set_cons_zero, List.set_cons_succ]
        refine wpAnyH_take (i := 11) (v := .agg (inoC X2).toArray) rfl (by kernel_rfl) (by kernel_rfl) (by kernel_rfl) (fun _ _ _ h => h) (yieldsIf_load_mid (by rfl) 41 _ rfl b (o + j * 37) rfl (inoC X2) _ (fun w h => h.2) Try.underlying41 rfl (infoN_l x2)) HS.out ?_
        simp only [List.getElem_toArray, List.getElem_cons_succ, List.getElem_cons_zero, Act.put, List.setIfInBounds_toArray, List.set_cons_zero, List.set_cons_succ]
        refine wpAnyH_step (i := 6) (by kernel_rfl) rfl fun K hK => ?_
        go_simp
        refine (K1.out _).mono ?_
        rintro e w6 ⟨rfl, t6⟩
        have HP := Lib.hid (HP.out.pure t6); have HS := Lib.hid (And.intro (t6.range HS.out.1 (fun e => e)) (t6.range HS.out.2 (fun e => e)))
        clear t6
        refine hK.out _ _ HS.out ?_
        clear hK K
        try simp only [List.getElem_toArray, List.getElem_cons_succ, List.getElem_cons_zero, Act.put, List.setIfInBounds_toArray, List.set_cons_zero, List.set_cons_succ]
        refine wpAnyH_step (i := 12) (by kernel_rfl) rfl fun K hK => ?_
        go_simp
        refine (K2.out _).mono ?_
        rintro e w7 ⟨rfl, t7⟩
        have HP := Lib.hid (HP.out.pure t7); have HS := Lib.hid (And.intro (t7.range HS.out.1 (fun e => e)) (t7.range HS.out.2 (fun e => e)))
        clear t7
        refine hK.out _ _ HS.out ?_
        clear hK K
        try simp only [List.getElem_toArray, List.getElem_cons_succ, List.getElem_cons_zero, Act.put, List.setIfInBounds_toArray, List.set_cons_zero, List.set_cons_succ]
        refine wpAnyH_take (i := 13) (v := ?_) rfl (by kernel_rfl) (by kernel_rfl) (by kernel_rfl) (fun _ _ _ h => h) (Or.inl ⟨by rfl, fun w hSw => ?_⟩) HS.out ?_
        rotate_left
        · first | (go_simp; done) | (go_simp; with_reducible rfl)
        simp only [List.getElem_toArray, List.getElem_cons_succ, List.getElem_cons_zero, Act.put, List.setIfInBounds_toArray, List.set_cons_zero, List.set_cons_succ]
        refine wpAnyH_done (by kernel_rfl) ?_ _
        go_wp2
        go_ret
        exact ⟨by first | rfl | (rw [HF.out]; rfl), HP.out⟩
    · have q1 : ¬ ((j : Int) < xs.length) := by omega
      have hT : risB xs = true := (risB_iff xs).2 fun k h1 h2 => HK.out k h1 (by omega) h2
      go_wp2
      go_ret
      exact ⟨by first | rfl | (rw [hT]; rfl), HP.out⟩

set_option maxRecDepth 100000 in
set_option maxHeartbeats 4000000 in
theorem May_any (w : World) (V : Value) (xs : List Ino) (h : Rows inoC 37 w V xs) (hr : ∀ x ∈ xs, x.root.length = 32) (hlen : xs.length ≤ 4611686018427387904) :
    Calls Try.prog 16 #[V] w fun e w' => e = .returned (.bool (tabB xs)) ∧ Pure w w' := by
  have HRI := Lib.hid (fun W (h : Rows inoC 37 W V xs) => Rising_any W V xs h hr hlen)
  have HROW := Lib.hid h
  obtain ⟨ao, cap, rfl, h2, h3, h4⟩ := h
  have H3 := Lib.hid h3; have H4 := Lib.hid h4
  clear h3 h4 hr
  go_enter Try.func16, Try.ntmps16
  go_wp2
  go_loopw [3, 6] (fun _ i wr => ∃ j : Nat, j ≤ xs.length ∧ i = .int .i64 (j : Int) ∧ Hid ((xs.take j).all inoB = true) ∧ Hid (Pure w wr)) (fun _ i _ => xs.length - (intOf i).toNat)
  case atStart => exact ⟨0, by omega, rfl, Lib.hid (by simp), Lib.hid (Turn.refl _ _)⟩
  case round =>
    obtain ⟨j, hj, rfl, HK, HP⟩ := hrel
    by_cases hlt : j < xs.length
    · have hne : xs ≠ [] := fun e => by rw [e] at hlt; simp at hlt
      obtain ⟨b, o, rfl, hrg⟩ := H3.out hne
      have r2 := HP.out.range (rowOf_at xs o j xs[j] (by simp [hlt]) hrg H4.out) (fun e => e)
      have hm := fun W (hw : W.rangeAt b (o + j * 37) (inoC (xs[j]'hlt))) => may_any W b (o + j * 37) (xs[j]'hlt) hw
      have hall := all_take_succ hlt
      have hno := all_of_not (xs := xs) hlt
      generalize xs[j] = X2 at r2 hm hall hno
      have q0 : (0 : Int) ≤ j := by omega
      have q1 : (j : Int) < xs.length := by omega
      have i3 : IntKind.i64.wrap ((j : Int) + 1) = ((j + 1 : Nat) : Int) := by rw [IntWalk.i64_in _ (by omega)]; omega
      have HM := Lib.hid hm; have R2 := Lib.hid r2
      rw [HK.out, Bool.true_and] at hall
      cases hb : inoB X2 with
      | true =>
        rw [hb] at HM hall
        have HA := Lib.hid hall
        clear hm r2 hall hno hrg hb
        go_wp2_with fail
        refine (HM.out _ R2.out).mono ?_
        rintro e w2 ⟨rfl, t2⟩
        have HP := Lib.hid (HP.out.pure t2)
        clear t2 R2
        go_wp2
        exact ⟨⟨j + 1, by omega, by first | rfl | trivial | go_num, HA, HP⟩, by simp [intOf]; omega⟩
      | false =>
        rw [hb] at HM
        have HA := Lib.hid (hno hb)
        clear hm r2 hall hno hrg hb
        go_wp2_with fail
        refine (HM.out _ R2.out).mono ?_
        rintro e w2 ⟨rfl, t2⟩
        have HP := Lib.hid (HP.out.pure t2)
        clear t2 R2
        go_wp2
        go_ret
        exact ⟨by first | rfl | (rw [HA.out]; rfl), HP.out⟩
    · obtain rfl : j = xs.length := by omega
      have q1 : ¬ ((xs.length : Int) < xs.length) := by omega
      have hT : tabB xs = risB xs := by
        have := HK.out
        rw [List.take_length] at this
        rw [tabB, this, Bool.true_and]
      have HT := Lib.hid hT
      clear hT
      have HR2 := Lib.hid (HROW.out.pure HP.out)
      go_wp2_with fail
      refine (HRI.out _ HR2.out).mono ?_
      rintro e w2 ⟨rfl, t2⟩
      have HP := Lib.hid (HP.out.pure t2)
      clear t2
      go_wp2
      go_ret
      exact ⟨by first | rfl | (rw [HT.out]; rfl), HP.out⟩

set_option maxRecDepth 100000 in
set_option maxHeartbeats 4000000 in
theorem ItabMay_any (w : World) (V : Value) (xs : List Ino) (h : Rows inoC 37 w V xs) (hr : ∀ x ∈ xs, x.root.length = 32) (hlen : xs.length ≤ 4611686018427387904) :
    Calls Try.prog 17 #[V] w fun e w' => e = .returned (.bool (tabB xs)) ∧ Pure w w' := by
  obtain ⟨ao, cap, rfl, h2, h3, h4⟩ := h
  have H3 := Lib.hid h3; have H4 := Lib.hid h4; have HR := Lib.hid hr
  clear h3 h4 hr
  go_enter Try.func17, Try.ntmps17
  go_wp2
  go_loopw [3] (fun i wr => ∃ j : Nat, j ≤ xs.length ∧ i = .int .i64 (j : Int) ∧ Hid ((xs.take j).all inoB = true) ∧ Hid (∀ k, 1 ≤ k → k < j → nmV xs (k - 1) < nmV xs k) ∧ Hid (Pure w wr)) (fun i _ => xs.length - (intOf i).toNat)
  case atStart => exact ⟨0, by omega, rfl, Lib.hid (by simp), Lib.hid (fun k h1 h2 => by omega), Lib.hid (Turn.refl _ _)⟩
  case round =>
    obtain ⟨j, hj, rfl, HK, HKR, HP⟩ := hrel
    by_cases hlt : j < xs.length
    · have hne : xs ≠ [] := fun e => by rw [e] at hlt; simp at hlt
      obtain ⟨b, o, rfl, hrg⟩ := H3.out hne
      obtain ⟨p, hp⟩ : ∃ p, p = j - 1 := ⟨_, rfl⟩
      have hpj : p < xs.length := by omega
      have r1 := HP.out.range (rowOf_at xs o p xs[p] (by simp [hpj]) hrg H4.out) (fun e => e)
      have r2 := HP.out.range (rowOf_at xs o j xs[j] (by simp [hlt]) hrg H4.out) (fun e => e)
      have c1 := (ino_cell r1).1
      have c2 := (ino_cell r2).1
      have x2 : (xs[j]).root.length = 32 := HR.out _ (List.getElem_mem hlt)
      have hn1 : nmV xs p = (xs[p]).num := nmV_at hpj
      have hn2 := nmV_at hlt
      have hm := fun W => InodeMay_any W xs[j] x2
      have hall := all_take_succ hlt
      have hno := all_of_not (xs := xs) hlt
      generalize (xs[p]).num = n1 at c1 hn1
      generalize xs[j] = X2 at r2 x2 hn2 hm hall hno c2
      have q0 : (0 : Int) ≤ j := by omega
      have q1 : (j : Int) < xs.length := by omega
      have i3 : IntKind.i64.wrap ((j : Int) + 1) = ((j + 1 : Nat) : Int) := by rw [IntWalk.i64_in _ (by omega)]; omega
      have HM := Lib.hid hm
      rw [HK.out, Bool.true_and] at hall
      have HNN := Lib.hid (And.intro hn1 hn2); have HPJ := Lib.hid hp
      clear hm hn1 hn2 hrg r1
      cases hb : inoB X2 with
      | false =>
        rw [hb] at HM
        have HA := Lib.hid (hno hb)
        clear hall hno hb hp
        go_wp2_with fail
        refine wp_region_held_drew (S := fun w' => w'.rangeAt b (o + j * 37) (inoC X2) ∧ w'.cell? ⟨b, o + p * 37, none⟩ = some (.int .i64 n1) ∧ w'.cell? ⟨b, o + j * 37, none⟩ = some (.int .i64 X2.num)) (by kernel_rfl) (show _ ∧ _ ∧ _ from ⟨r2, c1, c2⟩) (fun hS => ?_)
        have HS := Lib.hid hS
        have HP := Lib.hid HP.out.drew
        clear hS r2 c1 c2
        generalize wr.drew = wr at *
        refine wpAnyH_take (i := 0) (v := ?_) rfl (by kernel_rfl) (by kernel_rfl) (by kernel_rfl) (fun _ _ _ h => h) (Or.inl ⟨by rfl, fun w hSw => ?_⟩) HS.out ?_
        rotate_left
        · obtain ⟨_, s1, s2⟩ := hSw
          first | (go_simp; done) | (go_simp; with_reducible rfl)
        simp only [List.getElem_toArray, List.getElem_cons_zero, Act.put, List.setIfInBounds_toArray, List.set_cons_zero, List.set_cons_succ]
        refine wpAnyH_take (i := 1) (v := ?_) rfl (by kernel_rfl) (by kernel_rfl) (by kernel_rfl) (fun _ _ _ h => h) (Or.inl ⟨by rfl, fun w hSw => ?_⟩) HS.out ?_
        rotate_left
        · obtain ⟨_, s1, s2⟩ := hSw
          first | (go_simp; done) | (go_simp; with_reducible rfl)
        simp only [List.getElem_toArray, List.getElem_cons_succ, List.getElem_cons_zero, Act.put, List.setIfInBounds_toArray, List.set_cons_zero, List.set_cons_succ]
        refine wpAnyH_take (i := 2) (v := ?_) rfl (by kernel_rfl) (by kernel_rfl) (by kernel_rfl) (fun _ _ _ h => h) (Or.inl ⟨by rfl, fun w hSw => ?_⟩) HS.out ?_
        rotate_left
        · obtain ⟨_, s1, s2⟩ := hSw
          first | (go_simp; done) | (go_simp; with_reducible rfl)
        simp only [List.getElem_toArray, List.getElem_cons_succ, List.getElem_cons_zero, Act.put, List.setIfInBounds_toArray, List.set_cons_zero, List.set_cons_succ]
        refine wpAnyH_take (i := 3) (v := .agg (inoC X2).toArray) rfl (by kernel_rfl) (by kernel_rfl) (by kernel_rfl) (fun _ _ _ h => h) (yieldsIf_load_mid (by rfl) 41 _ rfl b (o + j * 37) rfl (inoC X2) _ (fun w h => h.1) Try.underlying41 rfl (infoN_l x2)) HS.out ?_
        simp only [List.getElem_toArray, List.getElem_cons_succ, List.getElem_cons_zero, Act.put, List.setIfInBounds_toArray, List.set_cons_zero, List.set_cons_succ]
        refine wpAnyH_step (i := 4) (by kernel_rfl) rfl fun K hK => ?_
        go_simp
        refine (HM.out _).mono ?_
        rintro e w6 ⟨rfl, t6⟩
        have HP := Lib.hid (HP.out.pure t6); have HS := Lib.hid (And.intro (t6.range HS.out.1 (fun e => e)) (And.intro (t6.cell HS.out.2.1 (fun e => e)) (t6.cell HS.out.2.2 (fun e => e))))
        clear t6
        refine hK.out _ _ HS.out ?_
        clear hK K
        try simp only [List.getElem_toArray, List.getElem_cons_succ, List.getElem_cons_zero, Act.put, List.setIfInBounds_toArray, List.set_cons_zero, List.set_cons_succ]
        refine wpAnyH_take (i := 5) (v := ?_) rfl (by kernel_rfl) (by kernel_rfl) (by kernel_rfl) (fun _ _ _ h => h) (Or.inl ⟨by rfl, fun w hSw => ?_⟩) HS.out ?_
        rotate_left
        · obtain ⟨_, s1, s2⟩ := hSw
          first | (go_simp; done) | (go_simp; with_reducible rfl)
        simp only [List.getElem_toArray, List.getElem_cons_succ, List.getElem_cons_zero, Act.put, List.setIfInBounds_toArray, List.set_cons_zero, List.set_cons_succ]
        refine wpAnyH_take (i := 6) (v := ?_) rfl (by kernel_rfl) (by kernel_rfl) (by kernel_rfl) (fun _ _ _ h => h) (Or.inl ⟨by rfl, fun w hSw => ?_⟩) HS.out ?_
        rotate_left
        · obtain ⟨_, s1, s2⟩ := hSw
          first | (go_simp; done) | (go_simp; with_reducible rfl)
        simp only [List.getElem_toArray, List.getElem_cons_succ, List.getElem_cons_zero, Act.put, List.setIfInBounds_toArray, List.set_cons_zero, List.set_cons_succ]
        refine wpAnyH_take (i := 7) (v := undef) rfl (by kernel_rfl) (by kernel_rfl) (by kernel_rfl) (fun _ _ _ h => h) (Or.inr ⟨by rfl, rfl⟩) HS.out ?_
        simp only [List.getElem_toArray, List.getElem_cons_succ, List.getElem_cons_zero, Act.put, List.setIfInBounds_toArray, List.set_cons_zero, List.set_cons_succ]
        refine wpAnyH_take (i := 8) (v := undef) rfl (by kernel_rfl) (by kernel_rfl) (by kernel_rfl) (fun _ _ _ h => h) (Or.inr ⟨by rfl, rfl⟩) HS.out ?_
        simp only [List.getElem_toArray, List.getElem_cons_succ, List.getElem_cons_zero, Act.put, List.setIfInBounds_toArray, List.set_cons_zero, List.set_cons_succ]
        refine wpAnyH_take (i := 9) (v := undef) rfl (by kernel_rfl) (by kernel_rfl) (by kernel_rfl) (fun _ _ _ h => h) (Or.inr ⟨by rfl, rfl⟩) HS.out ?_
        simp only [List.getElem_toArray, List.getElem_cons_succ, List.getElem_cons_zero, Act.put, List.setIfInBounds_toArray, List.set_cons_zero, List.set_cons_succ]
        refine wpAnyH_take (i := 10) (v := undef) rfl (by kernel_rfl) (by kernel_rfl) (by kernel_rfl) (fun _ _ _ h => h) (Or.inr ⟨by rfl, rfl⟩) HS.out ?_
        simp only [List.getElem_toArray, List.getElem_cons_succ, List.getElem_cons_zero, Act.put, List.setIfInBounds_toArray, List.set_cons_zero, List.set_cons_succ]
        refine wpAnyH_take (i := 11) (v := undef) rfl (by kernel_rfl) (by kernel_rfl) (by kernel_rfl) (fun _ _ _ h => h) (Or.inr ⟨by rfl, rfl⟩) HS.out ?_
        simp only [List.getElem_toArray, List.getElem_cons_succ, List.getElem_cons_zero, Act.put, List.setIfInBounds_toArray, List.set_cons_zero, List.set_cons_succ]
        refine wpAnyH_take (i := 12) (v := undef) rfl (by kernel_rfl) (by kernel_rfl) (by kernel_rfl) (fun _ _ _ h => h) (Or.inr ⟨by rfl, rfl⟩) HS.out ?_
        simp only [List.getElem_toArray, List.getElem_cons_succ, List.getElem_cons_zero, Act.put, List.setIfInBounds_toArray, List.set_cons_zero, List.set_cons_succ]
        refine wpAnyH_take (i := 13) (v := undef) rfl (by kernel_rfl) (by kernel_rfl) (by kernel_rfl) (fun _ _ _ h => h) (Or.inr ⟨by rfl, rfl⟩) HS.out ?_
        simp only [List.getElem_toArray, List.getElem_cons_succ, List.getElem_cons_zero, Act.put, List.setIfInBounds_toArray, List.set_cons_zero, List.set_cons_succ]
        refine wpAnyH_take (i := 14) (v := undef) rfl (by kernel_rfl) (by kernel_rfl) (by kernel_rfl) (fun _ _ _ h => h) (Or.inr ⟨by rfl, rfl⟩) HS.out ?_
        simp only [List.getElem_toArray, List.getElem_cons_succ, List.getElem_cons_zero, Act.put, List.setIfInBounds_toArray, List.set_cons_zero, List.set_cons_succ]
        refine wpAnyH_take (i := 15) (v := undef) rfl (by kernel_rfl) (by kernel_rfl) (by kernel_rfl) (fun _ _ _ h => h) (Or.inr ⟨by rfl, rfl⟩) HS.out ?_
        simp only [List.getElem_toArray, List.getElem_cons_succ, List.getElem_cons_zero, Act.put, List.setIfInBounds_toArray, List.set_cons_zero, List.set_cons_succ]
        refine wpAnyH_take (i := 16) (v := undef) rfl (by kernel_rfl) (by kernel_rfl) (by kernel_rfl) (fun _ _ _ h => h) (Or.inr ⟨by rfl, rfl⟩) HS.out ?_
        simp only [List.getElem_toArray, List.getElem_cons_succ, List.getElem_cons_zero, Act.put, List.setIfInBounds_toArray, List.set_cons_zero, List.set_cons_succ]
        refine wpAnyH_take (i := 17) (v := undef) rfl (by kernel_rfl) (by kernel_rfl) (by kernel_rfl) (fun _ _ _ h => h) (Or.inr ⟨by rfl, rfl⟩) HS.out ?_
        simp only [List.getElem_toArray, List.getElem_cons_succ, List.getElem_cons_zero, Act.put, List.setIfInBounds_toArray, List.set_cons_zero, List.set_cons_succ]
        refine wpAnyH_take (i := 18) (v := undef) rfl (by kernel_rfl) (by kernel_rfl) (by kernel_rfl) (fun _ _ _ h => h) (Or.inr ⟨by rfl, rfl⟩) HS.out ?_
        simp only [List.getElem_toArray, List.getElem_cons_succ, List.getElem_cons_zero, Act.put, List.setIfInBounds_toArray, List.set_cons_zero, List.set_cons_succ]
        refine wpAnyH_take (i := 19) (v := undef) rfl (by kernel_rfl) (by kernel_rfl) (by kernel_rfl) (fun _ _ _ h => h) (Or.inr ⟨by rfl, rfl⟩) HS.out ?_
        simp only [List.getElem_toArray, List.getElem_cons_succ, List.getElem_cons_zero, Act.put, List.setIfInBounds_toArray, List.set_cons_zero, List.set_cons_succ]
        refine wpAnyH_take (i := 20) (v := undef) rfl (by kernel_rfl) (by kernel_rfl) (by kernel_rfl) (fun _ _ _ h => h) (Or.inr ⟨by rfl, rfl⟩) HS.out ?_
        simp only [List.getElem_toArray, List.getElem_cons_succ, List.getElem_cons_zero, Act.put, List.setIfInBounds_toArray, List.set_cons_zero, List.set_cons_succ]
        refine wpAnyH_take (i := 21) (v := undef) rfl (by kernel_rfl) (by kernel_rfl) (by kernel_rfl) (fun _ _ _ h => h) (Or.inr ⟨by rfl, rfl⟩) HS.out ?_
        simp only [List.getElem_toArray, List.getElem_cons_succ, List.getElem_cons_zero, Act.put, List.setIfInBounds_toArray, List.set_cons_zero, List.set_cons_succ]
        refine wpAnyH_take (i := 22) (v := undef) rfl (by kernel_rfl) (by kernel_rfl) (by kernel_rfl) (fun _ _ _ h => h) (Or.inr ⟨by rfl, rfl⟩) HS.out ?_
        simp only [List.getElem_toArray, List.getElem_cons_succ, List.getElem_cons_zero, Act.put, List.setIfInBounds_toArray, List.set_cons_zero, List.set_cons_succ]
        refine wpAnyH_take (i := 23) (v := ?_) rfl (by kernel_rfl) (by kernel_rfl) (by kernel_rfl) (fun _ _ _ h => h) (Or.inl ⟨by rfl, fun w hSw => ?_⟩) HS.out ?_
        rotate_left
        · obtain ⟨_, s1, s2⟩ := hSw
          first | (go_simp; done) | (go_simp; with_reducible rfl)
        simp only [List.getElem_toArray, List.getElem_cons_succ, List.getElem_cons_zero, Act.put, List.setIfInBounds_toArray, List.set_cons_zero, List.set_cons_succ]
        refine wpAnyH_done (by kernel_rfl) ?_ _
        go_wp2
        go_ret
        exact ⟨by first | rfl | (rw [HA.out]; rfl), HP.out⟩
      | true =>
        rw [hb] at HM hall
        have HA := Lib.hid hall
        clear hall hno hb
        by_cases hj0 : j = 0
        · have d0 : decide (0 < (j : Int)) = false := decide_eq_false (by omega)
          have d0n : decide (0 < j) = false := decide_eq_false (by omega)
          have HJ0 := Lib.hid hj0
          clear hj0 hp
          go_wp2_with fail
          refine wp_region_held_drew (S := fun w' => w'.rangeAt b (o + j * 37) (inoC X2) ∧ w'.cell? ⟨b, o + p * 37, none⟩ = some (.int .i64 n1) ∧ w'.cell? ⟨b, o + j * 37, none⟩ = some (.int .i64 X2.num)) (by kernel_rfl) (show _ ∧ _ ∧ _ from ⟨r2, c1, c2⟩) (fun hS => ?_)
          have HS := Lib.hid hS
          have HP := Lib.hid HP.out.drew
          clear hS r2 c1 c2
          generalize wr.drew = wr at *
          refine wpAnyH_take (i := 0) (v := ?_) rfl (by kernel_rfl) (by kernel_rfl) (by kernel_rfl) (fun _ _ _ h => h) (Or.inl ⟨by rfl, fun w hSw => ?_⟩) HS.out ?_
          rotate_left
          · obtain ⟨_, s1, s2⟩ := hSw
            first | (go_simp; done) | (go_simp; with_reducible rfl)
          simp only [List.getElem_toArray, List.getElem_cons_zero, Act.put, List.setIfInBounds_toArray, List.set_cons_zero, List.set_cons_succ]
          refine wpAnyH_take (i := 1) (v := ?_) rfl (by kernel_rfl) (by kernel_rfl) (by kernel_rfl) (fun _ _ _ h => h) (Or.inl ⟨by rfl, fun w hSw => ?_⟩) HS.out ?_
          rotate_left
          · obtain ⟨_, s1, s2⟩ := hSw
            first | (go_simp; done) | (go_simp; with_reducible rfl)
          simp only [List.getElem_toArray, List.getElem_cons_succ, List.getElem_cons_zero, Act.put, List.setIfInBounds_toArray, List.set_cons_zero, List.set_cons_succ]
          refine wpAnyH_take (i := 2) (v := ?_) rfl (by kernel_rfl) (by kernel_rfl) (by kernel_rfl) (fun _ _ _ h => h) (Or.inl ⟨by rfl, fun w hSw => ?_⟩) HS.out ?_
          rotate_left
          · obtain ⟨_, s1, s2⟩ := hSw
            first | (go_simp; done) | (go_simp; with_reducible rfl)
          simp only [List.getElem_toArray, List.getElem_cons_succ, List.getElem_cons_zero, Act.put, List.setIfInBounds_toArray, List.set_cons_zero, List.set_cons_succ]
          refine wpAnyH_take (i := 3) (v := .agg (inoC X2).toArray) rfl (by kernel_rfl) (by kernel_rfl) (by kernel_rfl) (fun _ _ _ h => h) (yieldsIf_load_mid (by rfl) 41 _ rfl b (o + j * 37) rfl (inoC X2) _ (fun w h => h.1) Try.underlying41 rfl (infoN_l x2)) HS.out ?_
          simp only [List.getElem_toArray, List.getElem_cons_succ, List.getElem_cons_zero, Act.put, List.setIfInBounds_toArray, List.set_cons_zero, List.set_cons_succ]
          refine wpAnyH_step (i := 4) (by kernel_rfl) rfl fun K hK => ?_
          go_simp
          refine (HM.out _).mono ?_
          rintro e w6 ⟨rfl, t6⟩
          have HP := Lib.hid (HP.out.pure t6); have HS := Lib.hid (And.intro (t6.range HS.out.1 (fun e => e)) (And.intro (t6.cell HS.out.2.1 (fun e => e)) (t6.cell HS.out.2.2 (fun e => e))))
          clear t6
          refine hK.out _ _ HS.out ?_
          clear hK K
          try simp only [List.getElem_toArray, List.getElem_cons_succ, List.getElem_cons_zero, Act.put, List.setIfInBounds_toArray, List.set_cons_zero, List.set_cons_succ]
          refine wpAnyH_take (i := 5) (v := ?_) rfl (by kernel_rfl) (by kernel_rfl) (by kernel_rfl) (fun _ _ _ h => h) (Or.inl ⟨by rfl, fun w hSw => ?_⟩) HS.out ?_
          rotate_left
          · obtain ⟨_, s1, s2⟩ := hSw
            first | (go_simp; done) | (go_simp; with_reducible rfl)
          simp only [List.getElem_toArray, List.getElem_cons_succ, List.getElem_cons_zero, Act.put, List.setIfInBounds_toArray, List.set_cons_zero, List.set_cons_succ]
          refine wpAnyH_take (i := 6) (v := ?_) rfl (by kernel_rfl) (by kernel_rfl) (by kernel_rfl) (fun _ _ _ h => h) (Or.inl ⟨by rfl, fun w hSw => ?_⟩) HS.out ?_
          rotate_left
          · obtain ⟨_, s1, s2⟩ := hSw
            first | (go_simp; done) | (go_simp; with_reducible rfl)
          simp only [List.getElem_toArray, List.getElem_cons_succ, List.getElem_cons_zero, Act.put, List.setIfInBounds_toArray, List.set_cons_zero, List.set_cons_succ]
          refine wpAnyH_take (i := 7) (v := ?_) rfl (by kernel_rfl) (by kernel_rfl) (by kernel_rfl) (fun _ _ _ h => h) (Or.inl ⟨by rfl, fun w hSw => ?_⟩) HS.out ?_
          rotate_left
          · obtain ⟨_, s1, s2⟩ := hSw
            first | (go_simp; done) | (go_simp; with_reducible rfl)
          simp only [List.getElem_toArray, List.getElem_cons_succ, List.getElem_cons_zero, Act.put, List.setIfInBounds_toArray, List.set_cons_zero, List.set_cons_succ]
          refine wpAnyH_take (i := 8) (v := ?_) rfl (by kernel_rfl) (by kernel_rfl) (by kernel_rfl) (fun _ _ _ h => h) (Or.inl ⟨by rfl, fun w hSw => ?_⟩) HS.out ?_
          rotate_left
          · obtain ⟨_, s1, s2⟩ := hSw
            first | (go_simp; done) | (go_simp; with_reducible rfl)
          simp only [List.getElem_toArray, List.getElem_cons_succ, List.getElem_cons_zero, Act.put, List.setIfInBounds_toArray, List.set_cons_zero, List.set_cons_succ]
          refine wpAnyH_take (i := 9) (v := ?_) rfl (by kernel_rfl) (by kernel_rfl) (by kernel_rfl) (fun _ _ _ h => h) (Or.inl ⟨by rfl, fun w hSw => ?_⟩) HS.out ?_
          rotate_left
          · obtain ⟨_, s1, s2⟩ := hSw
            first | (go_simp; done) | (go_simp; with_reducible rfl)
          simp only [List.getElem_toArray, List.getElem_cons_succ, List.getElem_cons_zero, Act.put, List.setIfInBounds_toArray, List.set_cons_zero, List.set_cons_succ]
          refine wpAnyH_take (i := 10) (v := undef) rfl (by kernel_rfl) (by kernel_rfl) (by kernel_rfl) (fun _ _ _ h => h) (Or.inr ⟨by rfl, rfl⟩) HS.out ?_
          simp only [List.getElem_toArray, List.getElem_cons_succ, List.getElem_cons_zero, Act.put, List.setIfInBounds_toArray, List.set_cons_zero, List.set_cons_succ]
          refine wpAnyH_take (i := 11) (v := undef) rfl (by kernel_rfl) (by kernel_rfl) (by kernel_rfl) (fun _ _ _ h => h) (Or.inr ⟨by rfl, rfl⟩) HS.out ?_
          simp only [List.getElem_toArray, List.getElem_cons_succ, List.getElem_cons_zero, Act.put, List.setIfInBounds_toArray, List.set_cons_zero, List.set_cons_succ]
          refine wpAnyH_take (i := 12) (v := undef) rfl (by kernel_rfl) (by kernel_rfl) (by kernel_rfl) (fun _ _ _ h => h) (Or.inr ⟨by rfl, rfl⟩) HS.out ?_
          simp only [List.getElem_toArray, List.getElem_cons_succ, List.getElem_cons_zero, Act.put, List.setIfInBounds_toArray, List.set_cons_zero, List.set_cons_succ]
          refine wpAnyH_take (i := 13) (v := undef) rfl (by kernel_rfl) (by kernel_rfl) (by kernel_rfl) (fun _ _ _ h => h) (Or.inr ⟨by rfl, rfl⟩) HS.out ?_
          simp only [List.getElem_toArray, List.getElem_cons_succ, List.getElem_cons_zero, Act.put, List.setIfInBounds_toArray, List.set_cons_zero, List.set_cons_succ]
          refine wpAnyH_take (i := 14) (v := undef) rfl (by kernel_rfl) (by kernel_rfl) (by kernel_rfl) (fun _ _ _ h => h) (Or.inr ⟨by rfl, rfl⟩) HS.out ?_
          simp only [List.getElem_toArray, List.getElem_cons_succ, List.getElem_cons_zero, Act.put, List.setIfInBounds_toArray, List.set_cons_zero, List.set_cons_succ]
          refine wpAnyH_take (i := 15) (v := undef) rfl (by kernel_rfl) (by kernel_rfl) (by kernel_rfl) (fun _ _ _ h => h) (Or.inr ⟨by rfl, rfl⟩) HS.out ?_
          simp only [List.getElem_toArray, List.getElem_cons_succ, List.getElem_cons_zero, Act.put, List.setIfInBounds_toArray, List.set_cons_zero, List.set_cons_succ]
          refine wpAnyH_take (i := 16) (v := undef) rfl (by kernel_rfl) (by kernel_rfl) (by kernel_rfl) (fun _ _ _ h => h) (Or.inr ⟨by rfl, rfl⟩) HS.out ?_
          simp only [List.getElem_toArray, List.getElem_cons_succ, List.getElem_cons_zero, Act.put, List.setIfInBounds_toArray, List.set_cons_zero, List.set_cons_succ]
          refine wpAnyH_take (i := 17) (v := undef) rfl (by kernel_rfl) (by kernel_rfl) (by kernel_rfl) (fun _ _ _ h => h) (Or.inr ⟨by rfl, rfl⟩) HS.out ?_
          simp only [List.getElem_toArray, List.getElem_cons_succ, List.getElem_cons_zero, Act.put, List.setIfInBounds_toArray, List.set_cons_zero, List.set_cons_succ]
          refine wpAnyH_take (i := 18) (v := undef) rfl (by kernel_rfl) (by kernel_rfl) (by kernel_rfl) (fun _ _ _ h => h) (Or.inr ⟨by rfl, rfl⟩) HS.out ?_
          simp only [List.getElem_toArray, List.getElem_cons_succ, List.getElem_cons_zero, Act.put, List.setIfInBounds_toArray, List.set_cons_zero, List.set_cons_succ]
          refine wpAnyH_take (i := 19) (v := undef) rfl (by kernel_rfl) (by kernel_rfl) (by kernel_rfl) (fun _ _ _ h => h) (Or.inr ⟨by rfl, rfl⟩) HS.out ?_
          simp only [List.getElem_toArray, List.getElem_cons_succ, List.getElem_cons_zero, Act.put, List.setIfInBounds_toArray, List.set_cons_zero, List.set_cons_succ]
          refine wpAnyH_take (i := 20) (v := undef) rfl (by kernel_rfl) (by kernel_rfl) (by kernel_rfl) (fun _ _ _ h => h) (Or.inr ⟨by rfl, rfl⟩) HS.out ?_
          simp only [List.getElem_toArray, List.getElem_cons_succ, List.getElem_cons_zero, Act.put, List.setIfInBounds_toArray, List.set_cons_zero, List.set_cons_succ]
          refine wpAnyH_take (i := 21) (v := undef) rfl (by kernel_rfl) (by kernel_rfl) (by kernel_rfl) (fun _ _ _ h => h) (Or.inr ⟨by rfl, rfl⟩) HS.out ?_
          simp only [List.getElem_toArray, List.getElem_cons_succ, List.getElem_cons_zero, Act.put, List.setIfInBounds_toArray, List.set_cons_zero, List.set_cons_succ]
          refine wpAnyH_take (i := 22) (v := ?_) rfl (by kernel_rfl) (by kernel_rfl) (by kernel_rfl) (fun _ _ _ h => h) (Or.inl ⟨by rfl, fun w hSw => ?_⟩) HS.out ?_
          rotate_left
          · obtain ⟨_, s1, s2⟩ := hSw
            first | (go_simp; done) | (go_simp; with_reducible rfl)
          simp only [List.getElem_toArray, List.getElem_cons_succ, List.getElem_cons_zero, Act.put, List.setIfInBounds_toArray, List.set_cons_zero, List.set_cons_succ]
          refine wpAnyH_take (i := 23) (v := ?_) rfl (by kernel_rfl) (by kernel_rfl) (by kernel_rfl) (fun _ _ _ h => h) (Or.inl ⟨by rfl, fun w hSw => ?_⟩) HS.out ?_
          rotate_left
          · obtain ⟨_, s1, s2⟩ := hSw
            first | (go_simp; done) | (go_simp; with_reducible rfl)
          simp only [List.getElem_toArray, List.getElem_cons_succ, List.getElem_cons_zero, Act.put, List.setIfInBounds_toArray, List.set_cons_zero, List.set_cons_succ]
          refine wpAnyH_done (by kernel_rfl) ?_ _
          go_wp2
          exact ⟨⟨j + 1, by omega, by first | rfl | trivial | go_num, HA, Lib.hid (fun k h1 h2 => by have := HJ0.out; omega), HP⟩, by simp [intOf]; omega⟩
        · have d0 : decide (0 < (j : Int)) = true := decide_eq_true (by omega)
          have d0n : decide (0 < j) = true := decide_eq_true (by omega)
          have i1 : IntKind.i64.wrap ((j : Int) - 1) = (p : Int) := by rw [IntWalk.i64_in _ (by omega)]; omega
          have i2 : IntKind.i64.wrap (p : Int) = p := IntWalk.i64_in _ (by omega)
          have q2 : (0 : Int) ≤ p := by omega
          have q3 : (p : Int) < xs.length := by omega
          have HJ0 := Lib.hid hj0
          clear hj0 hp
          by_cases hcmp : n1 < X2.num
          · have d1 : decide (X2.num ≤ n1) = false := decide_eq_false (by omega)
            have HCM := Lib.hid hcmp
            clear hcmp
            go_wp2_with fail
            refine wp_region_held_drew (S := fun w' => w'.rangeAt b (o + j * 37) (inoC X2) ∧ w'.cell? ⟨b, o + p * 37, none⟩ = some (.int .i64 n1) ∧ w'.cell? ⟨b, o + j * 37, none⟩ = some (.int .i64 X2.num)) (by kernel_rfl) (show _ ∧ _ ∧ _ from ⟨r2, c1, c2⟩) (fun hS => ?_)
            have HS := Lib.hid hS
            have HP := Lib.hid HP.out.drew
            clear hS r2 c1 c2
            generalize wr.drew = wr at *
            refine wpAnyH_take (i := 0) (v := ?_) rfl (by kernel_rfl) (by kernel_rfl) (by kernel_rfl) (fun _ _ _ h => h) (Or.inl ⟨by rfl, fun w hSw => ?_⟩) HS.out ?_
            rotate_left
            · obtain ⟨_, s1, s2⟩ := hSw
              first | (go_simp; done) | (go_simp; with_reducible rfl)
            simp only [List.getElem_toArray, List.getElem_cons_zero, Act.put, List.setIfInBounds_toArray, List.set_cons_zero, List.set_cons_succ]
            refine wpAnyH_take (i := 1) (v := ?_) rfl (by kernel_rfl) (by kernel_rfl) (by kernel_rfl) (fun _ _ _ h => h) (Or.inl ⟨by rfl, fun w hSw => ?_⟩) HS.out ?_
            rotate_left
            · obtain ⟨_, s1, s2⟩ := hSw
              first | (go_simp; done) | (go_simp; with_reducible rfl)
            simp only [List.getElem_toArray, List.getElem_cons_succ, List.getElem_cons_zero, Act.put, List.setIfInBounds_toArray, List.set_cons_zero, List.set_cons_succ]
            refine wpAnyH_take (i := 2) (v := ?_) rfl (by kernel_rfl) (by kernel_rfl) (by kernel_rfl) (fun _ _ _ h => h) (Or.inl ⟨by rfl, fun w hSw => ?_⟩) HS.out ?_
            rotate_left
            · obtain ⟨_, s1, s2⟩ := hSw
              first | (go_simp; done) | (go_simp; with_reducible rfl)
            simp only [List.getElem_toArray, List.getElem_cons_succ, List.getElem_cons_zero, Act.put, List.setIfInBounds_toArray, List.set_cons_zero, List.set_cons_succ]
            refine wpAnyH_take (i := 3) (v := .agg (inoC X2).toArray) rfl (by kernel_rfl) (by kernel_rfl) (by kernel_rfl) (fun _ _ _ h => h) (yieldsIf_load_mid (by rfl) 41 _ rfl b (o + j * 37) rfl (inoC X2) _ (fun w h => h.1) Try.underlying41 rfl (infoN_l x2)) HS.out ?_
            simp only [List.getElem_toArray, List.getElem_cons_succ, List.getElem_cons_zero, Act.put, List.setIfInBounds_toArray, List.set_cons_zero, List.set_cons_succ]
            refine wpAnyH_step (i := 4) (by kernel_rfl) rfl fun K hK => ?_
            go_simp
            refine (HM.out _).mono ?_
            rintro e w6 ⟨rfl, t6⟩
            have HP := Lib.hid (HP.out.pure t6); have HS := Lib.hid (And.intro (t6.range HS.out.1 (fun e => e)) (And.intro (t6.cell HS.out.2.1 (fun e => e)) (t6.cell HS.out.2.2 (fun e => e))))
            clear t6
            refine hK.out _ _ HS.out ?_
            clear hK K
            try simp only [List.getElem_toArray, List.getElem_cons_succ, List.getElem_cons_zero, Act.put, List.setIfInBounds_toArray, List.set_cons_zero, List.set_cons_succ]
            refine wpAnyH_take (i := 5) (v := ?_) rfl (by kernel_rfl) (by kernel_rfl) (by kernel_rfl) (fun _ _ _ h => h) (Or.inl ⟨by rfl, fun w hSw => ?_⟩) HS.out ?_
            rotate_left
            · obtain ⟨_, s1, s2⟩ := hSw
              first | (go_simp; done) | (go_simp; with_reducible rfl)
            simp only [List.getElem_toArray, List.getElem_cons_succ, List.getElem_cons_zero, Act.put, List.setIfInBounds_toArray, List.set_cons_zero, List.set_cons_succ]
            refine wpAnyH_take (i := 6) (v := ?_) rfl (by kernel_rfl) (by kernel_rfl) (by kernel_rfl) (fun _ _ _ h => h) (Or.inl ⟨by rfl, fun w hSw => ?_⟩) HS.out ?_
            rotate_left
            · obtain ⟨_, s1, s2⟩ := hSw
              first | (go_simp; done) | (go_simp; with_reducible rfl)
            simp only [List.getElem_toArray, List.getElem_cons_succ, List.getElem_cons_zero, Act.put, List.setIfInBounds_toArray, List.set_cons_zero, List.set_cons_succ]
            refine wpAnyH_take (i := 7) (v := ?_) rfl (by kernel_rfl) (by kernel_rfl) (by kernel_rfl) (fun _ _ _ h => h) (Or.inl ⟨by rfl, fun w hSw => ?_⟩) HS.out ?_
            rotate_left
            · obtain ⟨_, s1, s2⟩ := hSw
              first | (go_simp; done) | (go_simp; with_reducible rfl)
            simp only [List.getElem_toArray, List.getElem_cons_succ, List.getElem_cons_zero, Act.put, List.setIfInBounds_toArray, List.set_cons_zero, List.set_cons_succ]
            refine wpAnyH_take (i := 8) (v := ?_) rfl (by kernel_rfl) (by kernel_rfl) (by kernel_rfl) (fun _ _ _ h => h) (Or.inl ⟨by rfl, fun w hSw => ?_⟩) HS.out ?_
            rotate_left
            · obtain ⟨_, s1, s2⟩ := hSw
              first | (go_simp; done) | (go_simp; with_reducible rfl)
            simp only [List.getElem_toArray, List.getElem_cons_succ, List.getElem_cons_zero, Act.put, List.setIfInBounds_toArray, List.set_cons_zero, List.set_cons_succ]
            refine wpAnyH_take (i := 9) (v := ?_) rfl (by kernel_rfl) (by kernel_rfl) (by kernel_rfl) (fun _ _ _ h => h) (Or.inl ⟨by rfl, fun w hSw => ?_⟩) HS.out ?_
            rotate_left
            · obtain ⟨_, s1, s2⟩ := hSw
              first | (go_simp; done) | (go_simp; with_reducible rfl)
            simp only [List.getElem_toArray, List.getElem_cons_succ, List.getElem_cons_zero, Act.put, List.setIfInBounds_toArray, List.set_cons_zero, List.set_cons_succ]
            refine wpAnyH_take (i := 10) (v := ?_) rfl (by kernel_rfl) (by kernel_rfl) (by kernel_rfl) (fun _ _ _ h => h) (Or.inl ⟨by rfl, fun w hSw => ?_⟩) HS.out ?_
            rotate_left
            · obtain ⟨_, s1, s2⟩ := hSw
              first | (go_simp; done) | (go_simp; with_reducible rfl)
            simp only [List.getElem_toArray, List.getElem_cons_succ, List.getElem_cons_zero, Act.put, List.setIfInBounds_toArray, List.set_cons_zero, List.set_cons_succ]
            refine wpAnyH_take (i := 11) (v := ?_) rfl (by kernel_rfl) (by kernel_rfl) (by kernel_rfl) (fun _ _ _ h => h) (Or.inl ⟨by rfl, fun w hSw => ?_⟩) HS.out ?_
            rotate_left
            · obtain ⟨_, s1, s2⟩ := hSw
              first | (go_simp; done) | (go_simp; with_reducible rfl)
            simp only [List.getElem_toArray, List.getElem_cons_succ, List.getElem_cons_zero, Act.put, List.setIfInBounds_toArray, List.set_cons_zero, List.set_cons_succ]
            refine wpAnyH_take (i := 12) (v := ?_) rfl (by kernel_rfl) (by kernel_rfl) (by kernel_rfl) (fun _ _ _ h => h) (Or.inl ⟨by rfl, fun w hSw => ?_⟩) HS.out ?_
            rotate_left
            · obtain ⟨_, s1, s2⟩ := hSw
              first | (go_simp; done) | (go_simp; with_reducible rfl)
            simp only [List.getElem_toArray, List.getElem_cons_succ, List.getElem_cons_zero, Act.put, List.setIfInBounds_toArray, List.set_cons_zero, List.set_cons_succ]
            refine wpAnyH_take (i := 13) (v := ?_) rfl (by kernel_rfl) (by kernel_rfl) (by kernel_rfl) (fun _ _ _ h => h) (Or.inl ⟨by rfl, fun w hSw => ?_⟩) HS.out ?_
            rotate_left
            · obtain ⟨_, s1, s2⟩ := hSw
              first | (go_simp; done) | (go_simp; with_reducible rfl)
            simp only [List.getElem_toArray, List.getElem_cons_succ, List.getElem_cons_zero, Act.put, List.setIfInBounds_toArray, List.set_cons_zero, List.set_cons_succ]
            refine wpAnyH_take (i := 14) (v := ?_) rfl (by kernel_rfl) (by kernel_rfl) (by kernel_rfl) (fun _ _ _ h => h) (Or.inl ⟨by rfl, fun w hSw => ?_⟩) HS.out ?_
            rotate_left
            · obtain ⟨_, s1, s2⟩ := hSw
              first | (go_simp; done) | (go_simp; with_reducible rfl)
            simp only [List.getElem_toArray, List.getElem_cons_succ, List.getElem_cons_zero, Act.put, List.setIfInBounds_toArray, List.set_cons_zero, List.set_cons_succ]
            refine wpAnyH_take (i := 15) (v := ?_) rfl (by kernel_rfl) (by kernel_rfl) (by kernel_rfl) (fun _ _ _ h => h) (Or.inl ⟨by rfl, fun w hSw => ?_⟩) HS.out ?_
            rotate_left
            · obtain ⟨_, s1, s2⟩ := hSw
              first | (go_simp; done) | (go_simp; with_reducible rfl)
            simp only [List.getElem_toArray, List.getElem_cons_succ, List.getElem_cons_zero, Act.put, List.setIfInBounds_toArray, List.set_cons_zero, List.set_cons_succ]
            refine wpAnyH_take (i := 16) (v := ?_) rfl (by kernel_rfl) (by kernel_rfl) (by kernel_rfl) (fun _ _ _ h => h) (Or.inl ⟨by rfl, fun w hSw => ?_⟩) HS.out ?_
            rotate_left
            · obtain ⟨_, s1, s2⟩ := hSw
              first | (go_simp; done) | (go_simp; with_reducible rfl)
            simp only [List.getElem_toArray, List.getElem_cons_succ, List.getElem_cons_zero, Act.put, List.setIfInBounds_toArray, List.set_cons_zero, List.set_cons_succ]
            refine wpAnyH_take (i := 17) (v := ?_) rfl (by kernel_rfl) (by kernel_rfl) (by kernel_rfl) (fun _ _ _ h => h) (Or.inl ⟨by rfl, fun w hSw => ?_⟩) HS.out ?_
            rotate_left
            · obtain ⟨_, s1, s2⟩ := hSw
              first | (go_simp; done) | (go_simp; with_reducible rfl)
            simp only [List.getElem_toArray, List.getElem_cons_succ, List.getElem_cons_zero, Act.put, List.setIfInBounds_toArray, List.set_cons_zero, List.set_cons_succ]
            refine wpAnyH_take (i := 18) (v := ?_) rfl (by kernel_rfl) (by kernel_rfl) (by kernel_rfl) (fun _ _ _ h => h) (Or.inl ⟨by rfl, fun w hSw => ?_⟩) HS.out ?_
            rotate_left
            · obtain ⟨_, s1, s2⟩ := hSw
              first | (go_simp; done) | (go_simp; with_reducible rfl)
            simp only [List.getElem_toArray, List.getElem_cons_succ, List.getElem_cons_zero, Act.put, List.setIfInBounds_toArray, List.set_cons_zero, List.set_cons_succ]
            refine wpAnyH_take (i := 19) (v := ?_) rfl (by kernel_rfl) (by kernel_rfl) (by kernel_rfl) (fun _ _ _ h => h) (Or.inl ⟨by rfl, fun w hSw => ?_⟩) HS.out ?_
            rotate_left
            · obtain ⟨_, s1, s2⟩ := hSw
              first | (go_simp; done) | (go_simp; with_reducible rfl)
            simp only [List.getElem_toArray, List.getElem_cons_succ, List.getElem_cons_zero, Act.put, List.setIfInBounds_toArray, List.set_cons_zero, List.set_cons_succ]
            refine wpAnyH_take (i := 20) (v := ?_) rfl (by kernel_rfl) (by kernel_rfl) (by kernel_rfl) (fun _ _ _ h => h) (Or.inl ⟨by rfl, fun w hSw => ?_⟩) HS.out ?_
            rotate_left
            · obtain ⟨_, s1, s2⟩ := hSw
              first | (go_simp; done) | (go_simp; with_reducible rfl)
            simp only [List.getElem_toArray, List.getElem_cons_succ, List.getElem_cons_zero, Act.put, List.setIfInBounds_toArray, List.set_cons_zero, List.set_cons_succ]
            refine wpAnyH_take (i := 21) (v := ?_) rfl (by kernel_rfl) (by kernel_rfl) (by kernel_rfl) (fun _ _ _ h => h) (Or.inl ⟨by rfl, fun w hSw => ?_⟩) HS.out ?_
            rotate_left
            · obtain ⟨_, s1, s2⟩ := hSw
              first | (go_simp; done) | (go_simp; with_reducible rfl)
            simp only [List.getElem_toArray, List.getElem_cons_succ, List.getElem_cons_zero, Act.put, List.setIfInBounds_toArray, List.set_cons_zero, List.set_cons_succ]
            refine wpAnyH_take (i := 22) (v := ?_) rfl (by kernel_rfl) (by kernel_rfl) (by kernel_rfl) (fun _ _ _ h => h) (Or.inl ⟨by rfl, fun w hSw => ?_⟩) HS.out ?_
            rotate_left
            · obtain ⟨_, s1, s2⟩ := hSw
              first | (go_simp; done) | (go_simp; with_reducible rfl)
            simp only [List.getElem_toArray, List.getElem_cons_succ, List.getElem_cons_zero, Act.put, List.setIfInBounds_toArray, List.set_cons_zero, List.set_cons_succ]
            refine wpAnyH_take (i := 23) (v := ?_) rfl (by kernel_rfl) (by kernel_rfl) (by kernel_rfl) (fun _ _ _ h => h) (Or.inl ⟨by rfl, fun w hSw => ?_⟩) HS.out ?_
            rotate_left
            · obtain ⟨_, s1, s2⟩ := hSw
              first | (go_simp; done) | (go_simp; with_reducible rfl)
            simp only [List.getElem_toArray, List.getElem_cons_succ, List.getElem_cons_zero, Act.put, List.setIfInBounds_toArray, List.set_cons_zero, List.set_cons_succ]
            refine wpAnyH_done (by kernel_rfl) ?_ _
            go_wp2
            refine ⟨⟨j + 1, by omega, by first | rfl | trivial | go_num, HA, Lib.hid (fun k h1 h2 => ?_), HP⟩, by simp [intOf]; omega⟩
            by_cases hkj : k = j
            · rw [hkj, ← HPJ.out, HNN.out.1, HNN.out.2]; exact HCM.out
            · exact HKR.out k h1 (by omega)
          · have d1 : decide (X2.num ≤ n1) = true := decide_eq_true (by omega)
            have HF : Hid (tabB xs = false) := Lib.hid (by
              have hb : risB xs = false := by
                cases hb : risB xs with
                | false => rfl
                | true =>
                  have := (risB_iff xs).1 hb j (by have := HJ0.out; omega) hlt
                  rw [← HPJ.out, HNN.out.1, HNN.out.2] at this
                  exact absurd this hcmp
              rw [tabB, hb, Bool.and_false])
            clear hcmp
            go_wp2_with fail
            refine wp_region_held_drew (S := fun w' => w'.rangeAt b (o + j * 37) (inoC X2) ∧ w'.cell? ⟨b, o + p * 37, none⟩ = some (.int .i64 n1) ∧ w'.cell? ⟨b, o + j * 37, none⟩ = some (.int .i64 X2.num)) (by kernel_rfl) (show _ ∧ _ ∧ _ from ⟨r2, c1, c2⟩) (fun hS => ?_)
            have HS := Lib.hid hS
            have HP := Lib.hid HP.out.drew
            clear hS r2 c1 c2
            generalize wr.drew = wr at *
            refine wpAnyH_take (i := 0) (v := ?_) rfl (by kernel_rfl) (by kernel_rfl) (by kernel_rfl) (fun _ _ _ h => h) (Or.inl ⟨by rfl, fun w hSw => ?_⟩) HS.out ?_
            rotate_left
            · obtain ⟨_, s1, s2⟩ := hSw
              first | (go_simp; done) | (go_simp; with_reducible rfl)
            simp only [List.getElem_toArray, List.getElem_cons_zero, Act.put, List.setIfInBounds_toArray, List.set_cons_zero, List.set_cons_succ]
            refine wpAnyH_take (i := 1) (v := ?_) rfl (by kernel_rfl) (by kernel_rfl) (by kernel_rfl) (fun _ _ _ h => h) (Or.inl ⟨by rfl, fun w hSw => ?_⟩) HS.out ?_
            rotate_left
            · obtain ⟨_, s1, s2⟩ := hSw
              first | (go_simp; done) | (go_simp; with_reducible rfl)
            simp only [List.getElem_toArray, List.getElem_cons_succ, List.getElem_cons_zero, Act.put, List.setIfInBounds_toArray, List.set_cons_zero, List.set_cons_succ]
            refine wpAnyH_take (i := 2) (v := ?_) rfl (by kernel_rfl) (by kernel_rfl) (by kernel_rfl) (fun _ _ _ h => h) (Or.inl ⟨by rfl, fun w hSw => ?_⟩) HS.out ?_
            rotate_left
            · obtain ⟨_, s1, s2⟩ := hSw
              first | (go_simp; done) | (go_simp; with_reducible rfl)
            simp only [List.getElem_toArray, List.getElem_cons_succ, List.getElem_cons_zero, Act.put, List.setIfInBounds_toArray, List.set_cons_zero, List.set_cons_succ]
            refine wpAnyH_take (i := 3) (v := .agg (inoC X2).toArray) rfl (by kernel_rfl) (by kernel_rfl) (by kernel_rfl) (fun _ _ _ h => h) (yieldsIf_load_mid (by rfl) 41 _ rfl b (o + j * 37) rfl (inoC X2) _ (fun w h => h.1) Try.underlying41 rfl (infoN_l x2)) HS.out ?_
            simp only [List.getElem_toArray, List.getElem_cons_succ, List.getElem_cons_zero, Act.put, List.setIfInBounds_toArray, List.set_cons_zero, List.set_cons_succ]
            refine wpAnyH_step (i := 4) (by kernel_rfl) rfl fun K hK => ?_
            go_simp
            refine (HM.out _).mono ?_
            rintro e w6 ⟨rfl, t6⟩
            have HP := Lib.hid (HP.out.pure t6); have HS := Lib.hid (And.intro (t6.range HS.out.1 (fun e => e)) (And.intro (t6.cell HS.out.2.1 (fun e => e)) (t6.cell HS.out.2.2 (fun e => e))))
            clear t6
            refine hK.out _ _ HS.out ?_
            clear hK K
            try simp only [List.getElem_toArray, List.getElem_cons_succ, List.getElem_cons_zero, Act.put, List.setIfInBounds_toArray, List.set_cons_zero, List.set_cons_succ]
            refine wpAnyH_take (i := 5) (v := ?_) rfl (by kernel_rfl) (by kernel_rfl) (by kernel_rfl) (fun _ _ _ h => h) (Or.inl ⟨by rfl, fun w hSw => ?_⟩) HS.out ?_
            rotate_left
            · obtain ⟨_, s1, s2⟩ := hSw
              first | (go_simp; done) | (go_simp; with_reducible rfl)
            simp only [List.getElem_toArray, List.getElem_cons_succ, List.getElem_cons_zero, Act.put, List.setIfInBounds_toArray, List.set_cons_zero, List.set_cons_succ]
            refine wpAnyH_take (i := 6) (v := ?_) rfl (by kernel_rfl) (by kernel_rfl) (by kernel_rfl) (fun _ _ _ h => h) (Or.inl ⟨by rfl, fun w hSw => ?_⟩) HS.out ?_
            rotate_left
            · obtain ⟨_, s1, s2⟩ := hSw
              first | (go_simp; done) | (go_simp; with_reducible rfl)
            simp only [List.getElem_toArray, List.getElem_cons_succ, List.getElem_cons_zero, Act.put, List.setIfInBounds_toArray, List.set_cons_zero, List.set_cons_succ]
            refine wpAnyH_take (i := 7) (v := ?_) rfl (by kernel_rfl) (by kernel_rfl) (by kernel_rfl) (fun _ _ _ h => h) (Or.inl ⟨by rfl, fun w hSw => ?_⟩) HS.out ?_
            rotate_left
            · obtain ⟨_, s1, s2⟩ := hSw
              first | (go_simp; done) | (go_simp; with_reducible rfl)
            simp only [List.getElem_toArray, List.getElem_cons_succ, List.getElem_cons_zero, Act.put, List.setIfInBounds_toArray, List.set_cons_zero, List.set_cons_succ]
            refine wpAnyH_take (i := 8) (v := ?_) rfl (by kernel_rfl) (by kernel_rfl) (by kernel_rfl) (fun _ _ _ h => h) (Or.inl ⟨by rfl, fun w hSw => ?_⟩) HS.out ?_
            rotate_left
            · obtain ⟨_, s1, s2⟩ := hSw
              first | (go_simp; done) | (go_simp; with_reducible rfl)
            simp only [List.getElem_toArray, List.getElem_cons_succ, List.getElem_cons_zero, Act.put, List.setIfInBounds_toArray, List.set_cons_zero, List.set_cons_succ]
            refine wpAnyH_take (i := 9) (v := ?_) rfl (by kernel_rfl) (by kernel_rfl) (by kernel_rfl) (fun _ _ _ h => h) (Or.inl ⟨by rfl, fun w hSw => ?_⟩) HS.out ?_
            rotate_left
            · obtain ⟨_, s1, s2⟩ := hSw
              first | (go_simp; done) | (go_simp; with_reducible rfl)
            simp only [List.getElem_toArray, List.getElem_cons_succ, List.getElem_cons_zero, Act.put, List.setIfInBounds_toArray, List.set_cons_zero, List.set_cons_succ]
            refine wpAnyH_take (i := 10) (v := ?_) rfl (by kernel_rfl) (by kernel_rfl) (by kernel_rfl) (fun _ _ _ h => h) (Or.inl ⟨by rfl, fun w hSw => ?_⟩) HS.out ?_
            rotate_left
            · obtain ⟨_, s1, s2⟩ := hSw
              first | (go_simp; done) | (go_simp; with_reducible rfl)
            simp only [List.getElem_toArray, List.getElem_cons_succ, List.getElem_cons_zero, Act.put, List.setIfInBounds_toArray, List.set_cons_zero, List.set_cons_succ]
            refine wpAnyH_take (i := 11) (v := ?_) rfl (by kernel_rfl) (by kernel_rfl) (by kernel_rfl) (fun _ _ _ h => h) (Or.inl ⟨by rfl, fun w hSw => ?_⟩) HS.out ?_
            rotate_left
            · obtain ⟨_, s1, s2⟩ := hSw
              first | (go_simp; done) | (go_simp; with_reducible rfl)
            simp only [List.getElem_toArray, List.getElem_cons_succ, List.getElem_cons_zero, Act.put, List.setIfInBounds_toArray, List.set_cons_zero, List.set_cons_succ]
            refine wpAnyH_take (i := 12) (v := ?_) rfl (by kernel_rfl) (by kernel_rfl) (by kernel_rfl) (fun _ _ _ h => h) (Or.inl ⟨by rfl, fun w hSw => ?_⟩) HS.out ?_
            rotate_left
            · obtain ⟨_, s1, s2⟩ := hSw
              first | (go_simp; done) | (go_simp; with_reducible rfl)
            simp only [List.getElem_toArray, List.getElem_cons_succ, List.getElem_cons_zero, Act.put, List.setIfInBounds_toArray, List.set_cons_zero, List.set_cons_succ]
            refine wpAnyH_take (i := 13) (v := ?_) rfl (by kernel_rfl) (by kernel_rfl) (by kernel_rfl) (fun _ _ _ h => h) (Or.inl ⟨by rfl, fun w hSw => ?_⟩) HS.out ?_
            rotate_left
            · obtain ⟨_, s1, s2⟩ := hSw
              first | (go_simp; done) | (go_simp; with_reducible rfl)
            simp only [List.getElem_toArray, List.getElem_cons_succ, List.getElem_cons_zero, Act.put, List.setIfInBounds_toArray, List.set_cons_zero, List.set_cons_succ]
            refine wpAnyH_take (i := 14) (v := ?_) rfl (by kernel_rfl) (by kernel_rfl) (by kernel_rfl) (fun _ _ _ h => h) (Or.inl ⟨by rfl, fun w hSw => ?_⟩) HS.out ?_
            rotate_left
            · obtain ⟨_, s1, s2⟩ := hSw
              first | (go_simp; done) | (go_simp; with_reducible rfl)
            simp only [List.getElem_toArray, List.getElem_cons_succ, List.getElem_cons_zero, Act.put, List.setIfInBounds_toArray, List.set_cons_zero, List.set_cons_succ]
            refine wpAnyH_take (i := 15) (v := ?_) rfl (by kernel_rfl) (by kernel_rfl) (by kernel_rfl) (fun _ _ _ h => h) (Or.inl ⟨by rfl, fun w hSw => ?_⟩) HS.out ?_
            rotate_left
            · obtain ⟨_, s1, s2⟩ := hSw
              first | (go_simp; done) | (go_simp; with_reducible rfl)
            simp only [List.getElem_toArray, List.getElem_cons_succ, List.getElem_cons_zero, Act.put, List.setIfInBounds_toArray, List.set_cons_zero, List.set_cons_succ]
            refine wpAnyH_take (i := 16) (v := ?_) rfl (by kernel_rfl) (by kernel_rfl) (by kernel_rfl) (fun _ _ _ h => h) (Or.inl ⟨by rfl, fun w hSw => ?_⟩) HS.out ?_
            rotate_left
            · obtain ⟨_, s1, s2⟩ := hSw
              first | (go_simp; done) | (go_simp; with_reducible rfl)
            simp only [List.getElem_toArray, List.getElem_cons_succ, List.getElem_cons_zero, Act.put, List.setIfInBounds_toArray, List.set_cons_zero, List.set_cons_succ]
            refine wpAnyH_take (i := 17) (v := ?_) rfl (by kernel_rfl) (by kernel_rfl) (by kernel_rfl) (fun _ _ _ h => h) (Or.inl ⟨by rfl, fun w hSw => ?_⟩) HS.out ?_
            rotate_left
            · obtain ⟨_, s1, s2⟩ := hSw
              first | (go_simp; done) | (go_simp; with_reducible rfl)
            simp only [List.getElem_toArray, List.getElem_cons_succ, List.getElem_cons_zero, Act.put, List.setIfInBounds_toArray, List.set_cons_zero, List.set_cons_succ]
            refine wpAnyH_take (i := 18) (v := ?_) rfl (by kernel_rfl) (by kernel_rfl) (by kernel_rfl) (fun _ _ _ h => h) (Or.inl ⟨by rfl, fun w hSw => ?_⟩) HS.out ?_
            rotate_left
            · obtain ⟨_, s1, s2⟩ := hSw
              first | (go_simp; done) | (go_simp; with_reducible rfl)
            simp only [List.getElem_toArray, List.getElem_cons_succ, List.getElem_cons_zero, Act.put, List.setIfInBounds_toArray, List.set_cons_zero, List.set_cons_succ]
            refine wpAnyH_take (i := 19) (v := ?_) rfl (by kernel_rfl) (by kernel_rfl) (by kernel_rfl) (fun _ _ _ h => h) (Or.inl ⟨by rfl, fun w hSw => ?_⟩) HS.out ?_
            rotate_left
            · obtain ⟨_, s1, s2⟩ := hSw
              first | (go_simp; done) | (go_simp; with_reducible rfl)
            simp only [List.getElem_toArray, List.getElem_cons_succ, List.getElem_cons_zero, Act.put, List.setIfInBounds_toArray, List.set_cons_zero, List.set_cons_succ]
            refine wpAnyH_take (i := 20) (v := ?_) rfl (by kernel_rfl) (by kernel_rfl) (by kernel_rfl) (fun _ _ _ h => h) (Or.inl ⟨by rfl, fun w hSw => ?_⟩) HS.out ?_
            rotate_left
            · obtain ⟨_, s1, s2⟩ := hSw
              first | (go_simp; done) | (go_simp; with_reducible rfl)
            simp only [List.getElem_toArray, List.getElem_cons_succ, List.getElem_cons_zero, Act.put, List.setIfInBounds_toArray, List.set_cons_zero, List.set_cons_succ]
            refine wpAnyH_take (i := 21) (v := ?_) rfl (by kernel_rfl) (by kernel_rfl) (by kernel_rfl) (fun _ _ _ h => h) (Or.inl ⟨by rfl, fun w hSw => ?_⟩) HS.out ?_
            rotate_left
            · obtain ⟨_, s1, s2⟩ := hSw
              first | (go_simp; done) | (go_simp; with_reducible rfl)
            simp only [List.getElem_toArray, List.getElem_cons_succ, List.getElem_cons_zero, Act.put, List.setIfInBounds_toArray, List.set_cons_zero, List.set_cons_succ]
            refine wpAnyH_take (i := 22) (v := ?_) rfl (by kernel_rfl) (by kernel_rfl) (by kernel_rfl) (fun _ _ _ h => h) (Or.inl ⟨by rfl, fun w hSw => ?_⟩) HS.out ?_
            rotate_left
            · obtain ⟨_, s1, s2⟩ := hSw
              first | (go_simp; done) | (go_simp; with_reducible rfl)
            simp only [List.getElem_toArray, List.getElem_cons_succ, List.getElem_cons_zero, Act.put, List.setIfInBounds_toArray, List.set_cons_zero, List.set_cons_succ]
            refine wpAnyH_take (i := 23) (v := ?_) rfl (by kernel_rfl) (by kernel_rfl) (by kernel_rfl) (fun _ _ _ h => h) (Or.inl ⟨by rfl, fun w hSw => ?_⟩) HS.out ?_
            rotate_left
            · obtain ⟨_, s1, s2⟩ := hSw
              first | (go_simp; done) | (go_simp; with_reducible rfl)
            simp only [List.getElem_toArray, List.getElem_cons_succ, List.getElem_cons_zero, Act.put, List.setIfInBounds_toArray, List.set_cons_zero, List.set_cons_succ]
            refine wpAnyH_done (by kernel_rfl) ?_ _
            go_wp2
            go_ret
            exact ⟨by first | rfl | (rw [HF.out]; rfl), HP.out⟩
    · obtain rfl : j = xs.length := by omega
      have q1 : ¬ ((xs.length : Int) < xs.length) := by omega
      have hT : tabB xs = true := by
        have := HK.out
        rw [List.take_length] at this
        rw [tabB, this, Bool.true_and]
        exact (risB_iff xs).2 fun k h1 h2 => HKR.out k h1 h2
      go_wp2
      go_ret
      exact ⟨by first | rfl | (rw [hT]; rfl), HP.out⟩
end Go.Proofs.Ythfekopimmgdmaa
