/- Chapter 6: numbers, how many, the upper key, may a key be? -/
import Derived.Test.YtcfbmbhkdicpfaaHssP
import Derived.Test.YtcfbmbhkdicpfaaLms4
namespace Go.Proofs.Ytcfbmbhkdicpfaa
open Go.RowKit
set_option maxRecDepth 100000

theorem infoHK : (Try.prog.info? 23).map (·.size) = some 5 := by kernel_rfl
theorem zeroHK : (Try.prog.info? 23).bind (·.zero) = some (.agg (lkC LKey0).toArray) := by kernel_rfl
theorem hk_cells {k : LKey} {W : World} {g : Nat} (hg : W.heap[g]? = some (.cells (lkC k).toArray 23 (0, 0))) : W.cell? ⟨g, 0, none⟩ = some (.int .i64 k.ots) ∧ W.cell? ⟨g, 1, none⟩ = some (.int .i64 k.height) ∧ W.cell? ⟨g, 2, none⟩ = some (.string (bstr k.id)) ∧ W.cell? ⟨g, 3, none⟩ = some (.string (bstr k.seed)) ∧ W.cell? ⟨g, 4, none⟩ = some (.int .i64 k.next) := by
  rw [cell_of_row W g 0 _ _ _ hg, cell_of_row W g 1 _ _ _ hg, cell_of_row W g 2 _ _ _ hg, cell_of_row W g 3 _ _ _ hg, cell_of_row W g 4 _ _ _ hg]
  exact ⟨rfl, rfl, rfl, rfl, rfl⟩
theorem big_cast (e : Nat) (he : e ≤ 10) : (2 : Int) ^ e = ((2 ^ e : Nat) : Int) ∧ 2 ^ e ≤ 1024 := ⟨by rw [Int.natCast_pow]; rfl, Nat.pow_le_pow_right (n := 2) (by decide) he⟩
theorem big_sh1 (e : Nat) (he : e ≤ 10) : wrap64 ((2 : Int) ^ e) = ((2 ^ e : Nat) : Int) := by
  obtain ⟨h1, h2⟩ := big_cast e he
  rw [h1]
  clear h1
  generalize 2 ^ e = m at *
  unfold wrap64
  omega
theorem big_sh2 (e : Nat) (he : e ≤ 10) : IntKind.i64.wrap ((2 : Int) ^ e) = ((2 ^ e : Nat) : Int) := by
  obtain ⟨h1, h2⟩ := big_cast e he
  rw [h1]
  clear h1
  generalize 2 ^ e = m at *
  exact IntWalk.i64_in _ (by omega)
theorem big_sh3 (e : Nat) (he : e ≤ 10) : IntKind.i64.wrap ((2 : Int) ^ min e 64) = ((2 ^ e : Nat) : Int) := by
  rw [Nat.min_eq_left (by omega)]; exact big_sh2 e he

set_option maxHeartbeats 1000000 in
theorem hnum_any (w : World) (x : Nat) (hx : x < 4294967296) : Calls Try.prog 33 #[.int .i64 (x : Int)] w fun e w' => e = .returned (.string (bstr (beB x 4))) ∧ Pure w w' := by
  have hw := wrNum_fit (bs := []) (x := x) (n := 4) (by omega) (by omega) (by simp)
  rw [List.nil_append] at hw
  have HW := Lib.hid hw
  clear hw
  go_enter Try.func33, Try.ntmps33
  go_wp2_with fail
  refine (New_own (Turn.refl (fun _ => False) w)).mono ?_
  rintro e w1 ⟨rfl, o1⟩
  generalize w.heap.size = g at *
  go_wp2_with fail
  refine (WNum_own (x : Int) ((4 : Nat) : Int) o1).mono ?_
  rintro e w2 ⟨rfl, o2⟩
  rw [HW.out] at o2 ⊢
  have HO := Lib.hid o2
  clear o1 o2
  go_wp2_with fail
  refine (WAll_own HO.out).mono ?_
  rintro e w3 ⟨rfl, rfl⟩
  have HP := Lib.hid HO.out.pure
  go_wp2
  go_ret
  exact ⟨rfl, HP.out⟩
set_option maxHeartbeats 1000000 in
theorem whole_any (w : World) (k : LKey) (h : Nat) (hk : k.height = (h : Int)) (h5 : h ≤ 5) : Calls Try.prog 38 #[.agg (lkC k).toArray] w fun e w' => e = .returned (.int .i64 ((2 ^ (2 * h) : Nat) : Int)) ∧ Pure w w' := by
  have HC := Lib.hid (fun W g => @hk_cells k W g)
  obtain ⟨C, hC⟩ : ∃ C, C = lkC k := ⟨_, rfl⟩
  rw [← hC] at HC ⊢
  clear hC
  obtain ⟨ots, height, id, seed, next⟩ := k
  simp only at hk HC
  subst hk
  obtain ⟨e, he⟩ : ∃ e, e = 2 * h := ⟨_, rfl⟩
  have hsh1 := big_sh1 e (by omega)
  have hsh2 := big_sh2 e (by omega)
  have hsh3 := big_sh3 e (by omega)
  have i1 : IntKind.i64.wrap (2 * (h : Int)) = (e : Int) := by rw [IntWalk.i64_in _ (by omega)]; omega
  have i2 : wrap64 (2 * (h : Int)) = (e : Int) := by unfold wrap64; omega
  rw [← he]
  generalize 2 ^ e = m at *
  clear he
  go_enter Try.func38, Try.ntmps38
  go_wp2_with (refine wpList_boxV rfl 23 _ rfl C rfl ?_)
  intro g1 w1 e1 c1 t1 s1
  clear e1 s1
  obtain ⟨_, k1, _, _, _⟩ := HC.out _ _ c1
  go_wp2
  go_ret
  exact ⟨rfl, t1⟩

set_option maxHeartbeats 4000000 in
theorem upper_any (w : World) (k : LKey) (h n : Nat) (hk : k.height = (h : Int)) (h5 : h ≤ 5) (hn : k.next = (n : Int)) : Calls Try.prog 32 #[.agg (lkC k).toArray] w fun e w' => e = .returned (.agg (lkC { k with next := ((n / 2 ^ h : Nat) : Int) }).toArray) ∧ Pure w w' := by
  have HC := Lib.hid (fun W g => @hk_cells k W g)
  obtain ⟨C, hC⟩ : ∃ C, C = lkC k := ⟨_, rfl⟩
  rw [← hC] at HC ⊢
  clear hC
  obtain ⟨ots, height, id, seed, next⟩ := k
  simp only at hk hn HC
  subst hk
  subst hn
  obtain ⟨q, hq⟩ : ∃ q, q = n / 2 ^ h := ⟨_, rfl⟩
  have is1 : (n : Int) / ((2 ^ h : Nat) : Int) = (q : Int) := by rw [hq]; rfl
  have is2 : (n : Int) / (2 : Int) ^ h = (q : Int) := by rw [← is1, Int.natCast_pow]; rfl
  have is3 : (n : Int) >>> h = (q : Int) := by rw [hq]; exact congrArg Int.ofNat (Nat.shiftRight_eq_div_pow n h)
  have is4 : (n : Int) / (2 : Int) ^ min h 64 = (q : Int) := by rw [Nat.min_eq_left (by omega)]; exact is2
  rw [← hq]
  clear hq
  go_enter Try.func32, Try.ntmps32
  go_wp2_with (refine wpList_boxV rfl 23 _ rfl C rfl ?_)
  intro g1 w1 e1 c1 t1 s1
  have l1 : w.heap.size ≤ g1 := by omega
  clear e1 s1
  have D1 := Lib.hid c1; have PT := Lib.hid t1
  clear c1 t1
  go_wp2_with (refine wpList_allocZ rfl 68 rfl _ zeroLK ?_)
  intro g2 w2 e2 c2 t2 s2
  have l2 : w.heap.size ≤ g2 := by have := PT.out.size; omega
  have n12 : g1 ≠ g2 := by have := (Array.getElem?_eq_some_iff.1 D1.out).1; omega
  clear e2 s2
  have D2 := Lib.hid c2; have D1 := Lib.hid (t2.obj D1.out (fun e => e)); have PT := Lib.hid (PT.out.pure t2)
  clear c2 t2
  go_wp2_with fail
  refine wp_region_G (S := fun w' => Turn (fun k => k = g2) w2 w' ∧ Held [(g1, Obj.cells C.toArray 23 (0, 0))] w') (T := StoreAt 14 g2 (Obj.cells (lkC LKey0).toArray 68 (0, 0)) (Obj.cells (lkC ⟨ots, (h : Int), id, seed, (q : Int)⟩).toArray 68 (0, 0))) (by kernel_rfl) ⟨(Turn.refl _ _).drew, held_cons (show w2.drew.heap[_]? = _ from D1.out) (held_nil _)⟩ (show w2.drew.heap[g2]? = _ from D2.out) ?_
  have HG := Grow.store w2 [(g1, Obj.cells C.toArray 23 (0, 0))] 14 g2 (Obj.cells (lkC LKey0).toArray 68 (0, 0)) (Obj.cells (lkC ⟨ots, (h : Int), id, seed, (q : Int)⟩).toArray 68 (0, 0))
  refine atN 0 ?_
  iterate 14
    refine anyG_y HG (v := ?_) rfl (by kernel_rfl) (fun _ _ _ h => h) (StoreAt.ins (by decide)) (Or.inl ⟨by rfl, fun w hSw => ?_⟩) ?_
    rotate_left
    · skip
      obtain ⟨s0, s1, s2, s3, s4⟩ := HC.out _ _ hSw.2.head
      first | (go_simp; done) | (go_simp; with_reducible rfl)
    simp only [Nat.reduceAdd, AP]
  refine anyG_store (i := 14) (by kernel_rfl) rfl rfl rfl rfl rfl rfl infoLK (lkC_one _) (by intro p hp; rcases List.mem_singleton.1 hp with rfl; exact n12) ?_
  simp only [Act.put]
  refine anyG_done (by kernel_rfl) (fun w3 hS hT => ?_) _
  obtain ⟨hpS, hS⟩ := hS
  clear HG
  have PT := Lib.hid (PT.out.newer hpS l2)
  have D2 := Lib.hid (show w3.heap[g2]? = _ from hT)
  clear hS hT hpS
  go_wp2
  exact bodyPost_ret (v := .agg (lkC ⟨ots, (h : Int), id, seed, (q : Int)⟩).toArray) (results_cell_row Try.results32 _ _ g2 _ _ _ _ rfl D2.out Try.underlying68 rfl infoLK) rfl ⟨rfl, PT.out⟩

set_option maxHeartbeats 4000000 in
theorem upperR_any (w : World) (k : LKey) (h n : Nat) (hk : k.height = (h : Int)) (h5 : h ≤ 5) (hn : k.next = (n : Int)) : Calls Try.prog 35 #[.agg (lkC k).toArray] w fun e w' => e = .returned (.agg (lkC { k with next := ((n / 2 ^ h : Nat) : Int) }).toArray) ∧ Pure w w' := by
  have HC := Lib.hid (fun W g => @hk_cells k W g)
  obtain ⟨C, hC⟩ : ∃ C, C = lkC k := ⟨_, rfl⟩
  rw [← hC] at HC ⊢
  clear hC
  obtain ⟨ots, height, id, seed, next⟩ := k
  simp only at hk hn HC
  subst hk
  subst hn
  obtain ⟨q, hq⟩ : ∃ q, q = n / 2 ^ h := ⟨_, rfl⟩
  have is1 : (n : Int) / ((2 ^ h : Nat) : Int) = (q : Int) := by rw [hq]; rfl
  have is2 : (n : Int) / (2 : Int) ^ h = (q : Int) := by rw [← is1, Int.natCast_pow]; rfl
  have is3 : (n : Int) >>> h = (q : Int) := by rw [hq]; exact congrArg Int.ofNat (Nat.shiftRight_eq_div_pow n h)
  have is4 : (n : Int) / (2 : Int) ^ min h 64 = (q : Int) := by rw [Nat.min_eq_left (by omega)]; exact is2
  rw [← hq]
  clear hq
  go_enter Try.func35, Try.ntmps35
  go_wp2_with (refine wpList_boxV rfl 23 _ rfl C rfl ?_)
  intro g1 w1 e1 c1 t1 s1
  have l1 : w.heap.size ≤ g1 := by omega
  clear e1 s1
  have D1 := Lib.hid c1; have PT := Lib.hid t1
  clear c1 t1
  go_wp2_with (refine wpList_allocZ rfl 68 rfl _ zeroLK ?_)
  intro g2 w2 e2 c2 t2 s2
  have l2 : w.heap.size ≤ g2 := by have := PT.out.size; omega
  have n12 : g1 ≠ g2 := by have := (Array.getElem?_eq_some_iff.1 D1.out).1; omega
  clear e2 s2
  have D2 := Lib.hid c2; have D1 := Lib.hid (t2.obj D1.out (fun e => e)); have PT := Lib.hid (PT.out.pure t2)
  clear c2 t2
  go_wp2_with fail
  refine wp_region_G (S := fun w' => Turn (fun k => k = g2) w2 w' ∧ Held [(g1, Obj.cells C.toArray 23 (0, 0))] w') (T := StoreAt 14 g2 (Obj.cells (lkC LKey0).toArray 68 (0, 0)) (Obj.cells (lkC ⟨ots, (h : Int), id, seed, (q : Int)⟩).toArray 68 (0, 0))) (by kernel_rfl) ⟨(Turn.refl _ _).drew, held_cons (show w2.drew.heap[_]? = _ from D1.out) (held_nil _)⟩ (show w2.drew.heap[g2]? = _ from D2.out) ?_
  have HG := Grow.store w2 [(g1, Obj.cells C.toArray 23 (0, 0))] 14 g2 (Obj.cells (lkC LKey0).toArray 68 (0, 0)) (Obj.cells (lkC ⟨ots, (h : Int), id, seed, (q : Int)⟩).toArray 68 (0, 0))
  refine atN 0 ?_
  iterate 14
    refine anyG_y HG (v := ?_) rfl (by kernel_rfl) (fun _ _ _ h => h) (StoreAt.ins (by decide)) (Or.inl ⟨by rfl, fun w hSw => ?_⟩) ?_
    rotate_left
    · skip
      obtain ⟨s0, s1, s2, s3, s4⟩ := HC.out _ _ hSw.2.head
      first | (go_simp; done) | (go_simp; with_reducible rfl)
    simp only [Nat.reduceAdd, AP]
  refine anyG_store (i := 14) (by kernel_rfl) rfl rfl rfl rfl rfl rfl infoLK (lkC_one _) (by intro p hp; rcases List.mem_singleton.1 hp with rfl; exact n12) ?_
  simp only [Act.put]
  refine anyG_done (by kernel_rfl) (fun w3 hS hT => ?_) _
  obtain ⟨hpS, hS⟩ := hS
  clear HG
  have PT := Lib.hid (PT.out.newer hpS l2)
  have D2 := Lib.hid (show w3.heap[g2]? = _ from hT)
  clear hS hT hpS
  go_wp2
  exact bodyPost_ret (v := .agg (lkC ⟨ots, (h : Int), id, seed, (q : Int)⟩).toArray) (results_cell_row Try.results35 _ _ g2 _ _ _ _ rfl D2.out Try.underlying68 rfl infoLK) rfl ⟨rfl, PT.out⟩
theorem hmay_more {k : LKey} (h1 : 1 ≤ k.height) (h2 : k.height ≤ 5) (h3 : 0 ≤ k.next) (h4 : k.next ≤ ((2 ^ (2 * k.height.toNat) : Nat) : Int)) : lmayB { k with next := ((k.next.toNat / 2 ^ k.height.toNat : Nat) : Int) } = hmayB k := by
  have e1 : k.next ≤ (2 : Int) ^ (2 * k.height.toNat) := by rwa [Int.natCast_pow] at h4
  have e2 : k.next.toNat ≤ 2 ^ (2 * k.height.toNat) := by omega
  have e3 := upN_le e2
  have e4 : ((k.next.toNat / 2 ^ k.height.toNat : Nat) : Int) ≤ (2 : Int) ^ k.height.toNat := by
    have : ((k.next.toNat / 2 ^ k.height.toNat : Nat) : Int) ≤ ((2 ^ k.height.toNat : Nat) : Int) := Int.ofNat_le.2 e3
    rwa [Int.natCast_pow] at this
  have e5 : (0 : Int) ≤ ((k.next.toNat / 2 ^ k.height.toNat : Nat) : Int) := Int.natCast_nonneg _
  simp only [lmayB, hmayB, decide_eq_true e1, decide_eq_true e4, decide_eq_true e5, decide_eq_true h1, decide_eq_true h2, decide_eq_true h3, Bool.and_true]
theorem hmay_not {k : LKey} (h : ¬ (1 ≤ k.height ∧ k.height ≤ 5 ∧ 0 ≤ k.next ∧ k.next ≤ ((2 ^ (2 * k.height.toNat) : Nat) : Int))) : hmayB k = false := by
  rw [← Bool.not_eq_true]
  intro hb
  obtain ⟨o, ht, n, h1, h2, h3, h4, h5, h6, h7, h8, h9⟩ := hmay_parts hb
  refine h ⟨by omega, by omega, by omega, ?_⟩
  rw [h3, h8, Int.toNat_natCast]
  exact Int.ofNat_le.2 h9

set_option maxHeartbeats 4000000 in
theorem HMay_any (w : World) (k : LKey) : Calls Try.prog 30 #[.agg (lkC k).toArray] w fun e w' => e = .returned (.bool (hmayB k)) ∧ Pure w w' := by
  have HC := Lib.hid (fun W g => @hk_cells k W g)
  have hwh := fun W (h : Nat) (hk : k.height = (h : Int)) (h5 : h ≤ 5) => whole_any W k h hk h5
  have hup := fun W (h n : Nat) (hk : k.height = (h : Int)) (h5 : h ≤ 5) (hn : k.next = (n : Int)) => upper_any W k h n hk h5 hn
  have hlm := fun W n => LMay_any W { k with next := n }
  have hno := @hmay_not k
  have hye := @hmay_more k
  obtain ⟨B, hB⟩ : ∃ B, B = hmayB k := ⟨_, rfl⟩
  rw [← hB] at hno hye ⊢
  clear hB
  obtain ⟨C, hC⟩ : ∃ C, C = lkC k := ⟨_, rfl⟩
  rw [← hC] at HC hwh hup ⊢
  have hCl : C.length = 5 := by rw [hC]; rfl
  have HCI : Hid ((Try.prog.info? 23).map (·.size) = some C.length) := Lib.hid (by rw [hCl]; exact infoHK)
  clear hC hCl
  obtain ⟨ots, height, id, seed, next⟩ := k
  simp only at HC hwh hup hlm hno hye
  by_cases h1 : 1 ≤ height
  case neg =>
    have hb := hno (fun h => h1 h.1)
    subst hb
    have d1 : decide (height < 1) = true := decide_eq_true (by omega)
    clear hno hye hwh hup hlm h1
    go_enter Try.func30, Try.ntmps30
    go_wp2_with (refine wpList_boxV rfl 23 _ rfl C rfl ?_)
    intro g1 w1 e1 c1 t1 s1
    clear e1 s1
    have D1 := Lib.hid c1; have PT := Lib.hid t1
    clear c1 t1
    go_wp2_with fail
    refine wp_region_G (S := fun w' => Pure w1 w' ∧ Held [(g1, Obj.cells C.toArray 23 (0, 0))] w') (T := fun _ _ _ => True) (by kernel_rfl) ⟨(Turn.refl _ _).drew, held_cons (show w1.drew.heap[_]? = _ from D1.out) (held_nil _)⟩ trivial ?_
    have HG := Grow.held w1 [(g1, Obj.cells C.toArray 23 (0, 0))]
    refine atN 0 ?_
    iterate 16
      first
      | refine anyG_y HG (v := undef) rfl (by kernel_rfl) (fun _ _ _ h => h) (fun _ _ _ => Iff.rfl) (Or.inr ⟨by rfl, rfl⟩) ?_
      | refine anyG_y HG (v := ?_) rfl (by kernel_rfl) (fun _ _ _ h => h) (fun _ _ _ => Iff.rfl) (Or.inl ⟨by rfl, fun w hSw => ?_⟩) ?_
        rotate_left
        · skip
          obtain ⟨s0, s1, s2, s3, s4⟩ := HC.out _ _ hSw.2.head
          first | (go_simp; done) | (go_simp; with_reducible rfl)
      simp only [Nat.reduceAdd, AP]
    refine anyG_take HG (i := 16) (v := undef) rfl (by kernel_rfl) (by kernel_rfl) (by kernel_rfl) (fun _ _ _ h => h) (fun _ _ _ => Iff.rfl) (Or.inr ⟨by rfl, rfl⟩) ?_
    simp only [AP]
    refine anyG_take HG (i := 17) (v := undef) rfl (by kernel_rfl) (by kernel_rfl) (by kernel_rfl) (fun _ _ _ h => h) (fun _ _ _ => Iff.rfl) (Or.inr ⟨by rfl, rfl⟩) ?_
    simp only [AP]
    refine atN 18 ?_
    iterate 2
      first
      | refine anyG_y HG (v := undef) rfl (by kernel_rfl) (fun _ _ _ h => h) (fun _ _ _ => Iff.rfl) (Or.inr ⟨by rfl, rfl⟩) ?_
      | refine anyG_y HG (v := ?_) rfl (by kernel_rfl) (fun _ _ _ h => h) (fun _ _ _ => Iff.rfl) (Or.inl ⟨by rfl, fun w hSw => ?_⟩) ?_
        rotate_left
        · skip
          first | (go_simp; done) | (go_simp; with_reducible rfl)
      simp only [Nat.reduceAdd, AP]
    refine anyG_done (by kernel_rfl) (fun w2 hS _ => ?_) _
    obtain ⟨hpS, hS⟩ := hS
    clear HG
    have PT := Lib.hid (PT.out.pure hpS)
    have D1 := Lib.hid hS.head
    clear hS hpS
    go_wp2
    go_ret
    exact ⟨rfl, PT.out⟩
  by_cases h2 : height ≤ 5
  case neg =>
    have hb := hno (fun h => h2 h.2.1)
    subst hb
    have d1 : decide (height < 1) = false := decide_eq_false (by omega)
    have d2 : decide (5 < height) = true := decide_eq_true (by omega)
    clear hno hye hwh hup hlm h1 h2
    go_enter Try.func30, Try.ntmps30
    go_wp2_with (refine wpList_boxV rfl 23 _ rfl C rfl ?_)
    intro g1 w1 e1 c1 t1 s1
    clear e1 s1
    have D1 := Lib.hid c1; have PT := Lib.hid t1
    clear c1 t1
    go_wp2_with fail
    refine wp_region_G (S := fun w' => Pure w1 w' ∧ Held [(g1, Obj.cells C.toArray 23 (0, 0))] w') (T := fun _ _ _ => True) (by kernel_rfl) ⟨(Turn.refl _ _).drew, held_cons (show w1.drew.heap[_]? = _ from D1.out) (held_nil _)⟩ trivial ?_
    have HG := Grow.held w1 [(g1, Obj.cells C.toArray 23 (0, 0))]
    refine atN 0 ?_
    iterate 16
      first
      | refine anyG_y HG (v := undef) rfl (by kernel_rfl) (fun _ _ _ h => h) (fun _ _ _ => Iff.rfl) (Or.inr ⟨by rfl, rfl⟩) ?_
      | refine anyG_y HG (v := ?_) rfl (by kernel_rfl) (fun _ _ _ h => h) (fun _ _ _ => Iff.rfl) (Or.inl ⟨by rfl, fun w hSw => ?_⟩) ?_
        rotate_left
        · skip
          obtain ⟨s0, s1, s2, s3, s4⟩ := HC.out _ _ hSw.2.head
          first | (go_simp; done) | (go_simp; with_reducible rfl)
      simp only [Nat.reduceAdd, AP]
    refine anyG_take HG (i := 16) (v := undef) rfl (by kernel_rfl) (by kernel_rfl) (by kernel_rfl) (fun _ _ _ h => h) (fun _ _ _ => Iff.rfl) (Or.inr ⟨by rfl, rfl⟩) ?_
    simp only [AP]
    refine anyG_take HG (i := 17) (v := undef) rfl (by kernel_rfl) (by kernel_rfl) (by kernel_rfl) (fun _ _ _ h => h) (fun _ _ _ => Iff.rfl) (Or.inr ⟨by rfl, rfl⟩) ?_
    simp only [AP]
    refine atN 18 ?_
    iterate 2
      first
      | refine anyG_y HG (v := undef) rfl (by kernel_rfl) (fun _ _ _ h => h) (fun _ _ _ => Iff.rfl) (Or.inr ⟨by rfl, rfl⟩) ?_
      | refine anyG_y HG (v := ?_) rfl (by kernel_rfl) (fun _ _ _ h => h) (fun _ _ _ => Iff.rfl) (Or.inl ⟨by rfl, fun w hSw => ?_⟩) ?_
        rotate_left
        · skip
          first | (go_simp; done) | (go_simp; with_reducible rfl)
      simp only [Nat.reduceAdd, AP]
    refine anyG_done (by kernel_rfl) (fun w2 hS _ => ?_) _
    obtain ⟨hpS, hS⟩ := hS
    clear HG
    have PT := Lib.hid (PT.out.pure hpS)
    have D1 := Lib.hid hS.head
    clear hS hpS
    go_wp2
    go_ret
    exact ⟨rfl, PT.out⟩
  by_cases h3 : 0 ≤ next
  case neg =>
    have hb := hno (fun h => h3 h.2.2.1)
    subst hb
    have d1 : decide (height < 1) = false := decide_eq_false (by omega)
    have d2 : decide (5 < height) = false := decide_eq_false (by omega)
    have d3 : decide (next < 0) = true := decide_eq_true (by omega)
    clear hno hye hwh hup hlm h1 h2 h3
    go_enter Try.func30, Try.ntmps30
    go_wp2_with (refine wpList_boxV rfl 23 _ rfl C rfl ?_)
    intro g1 w1 e1 c1 t1 s1
    clear e1 s1
    have D1 := Lib.hid c1; have PT := Lib.hid t1
    clear c1 t1
    go_wp2_with fail
    refine wp_region_G (S := fun w' => Pure w1 w' ∧ Held [(g1, Obj.cells C.toArray 23 (0, 0))] w') (T := fun _ _ _ => True) (by kernel_rfl) ⟨(Turn.refl _ _).drew, held_cons (show w1.drew.heap[_]? = _ from D1.out) (held_nil _)⟩ trivial ?_
    have HG := Grow.held w1 [(g1, Obj.cells C.toArray 23 (0, 0))]
    refine atN 0 ?_
    iterate 16
      first
      | refine anyG_y HG (v := undef) rfl (by kernel_rfl) (fun _ _ _ h => h) (fun _ _ _ => Iff.rfl) (Or.inr ⟨by rfl, rfl⟩) ?_
      | refine anyG_y HG (v := ?_) rfl (by kernel_rfl) (fun _ _ _ h => h) (fun _ _ _ => Iff.rfl) (Or.inl ⟨by rfl, fun w hSw => ?_⟩) ?_
        rotate_left
        · skip
          obtain ⟨s0, s1, s2, s3, s4⟩ := HC.out _ _ hSw.2.head
          first | (go_simp; done) | (go_simp; with_reducible rfl)
      simp only [Nat.reduceAdd, AP]
    refine anyG_take HG (i := 16) (v := undef) rfl (by kernel_rfl) (by kernel_rfl) (by kernel_rfl) (fun _ _ _ h => h) (fun _ _ _ => Iff.rfl) (Or.inr ⟨by rfl, rfl⟩) ?_
    simp only [AP]
    refine anyG_take HG (i := 17) (v := undef) rfl (by kernel_rfl) (by kernel_rfl) (by kernel_rfl) (fun _ _ _ h => h) (fun _ _ _ => Iff.rfl) (Or.inr ⟨by rfl, rfl⟩) ?_
    simp only [AP]
    refine atN 18 ?_
    iterate 2
      first
      | refine anyG_y HG (v := undef) rfl (by kernel_rfl) (fun _ _ _ h => h) (fun _ _ _ => Iff.rfl) (Or.inr ⟨by rfl, rfl⟩) ?_
      | refine anyG_y HG (v := ?_) rfl (by kernel_rfl) (fun _ _ _ h => h) (fun _ _ _ => Iff.rfl) (Or.inl ⟨by rfl, fun w hSw => ?_⟩) ?_
        rotate_left
        · skip
          first | (go_simp; done) | (go_simp; with_reducible rfl)
      simp only [Nat.reduceAdd, AP]
    refine anyG_done (by kernel_rfl) (fun w2 hS _ => ?_) _
    obtain ⟨hpS, hS⟩ := hS
    clear HG
    have PT := Lib.hid (PT.out.pure hpS)
    have D1 := Lib.hid hS.head
    clear hS hpS
    go_wp2
    go_ret
    exact ⟨rfl, PT.out⟩
  obtain ⟨h, hh⟩ : ∃ h : Nat, height = (h : Int) := ⟨height.toNat, by omega⟩
  obtain ⟨n, hn⟩ : ∃ n : Nat, next = (n : Int) := ⟨next.toNat, by omega⟩
  have HWH := Lib.hid (fun W => hwh W h hh (by omega))
  have HUP := Lib.hid (fun W => hup W h n hh (by omega) hn)
  have HLM := Lib.hid (fun W => hlm W ((n / 2 ^ h : Nat) : Int))
  rw [show height.toNat = h by omega] at hno hye
  rw [show next.toNat = n by omega] at hye
  obtain ⟨m, hm⟩ : ∃ m, m = 2 ^ (2 * h) := ⟨_, rfl⟩
  rw [← hm] at hno hye HWH
  have d1 : decide (height < 1) = false := decide_eq_false (by omega)
  have d2 : decide (5 < height) = false := decide_eq_false (by omega)
  have d3 : decide (next < 0) = false := decide_eq_false (by omega)
  clear hwh hup hlm hm hh hn
  by_cases h4 : next ≤ (m : Int)
  case neg =>
    have hb := hno (fun h => h4 h.2.2.2)
    subst hb
    have d4 : decide ((m : Int) < next) = true := decide_eq_true (by omega)
    clear hno hye h1 h2 h3 h4
    go_enter Try.func30, Try.ntmps30
    go_wp2_with (refine wpList_boxV rfl 23 _ rfl C rfl ?_)
    intro g1 w1 e1 c1 t1 s1
    clear e1 s1
    have D1 := Lib.hid c1; have PT := Lib.hid t1
    clear c1 t1
    go_wp2_with fail
    refine wp_region_G (S := fun w' => Pure w1 w' ∧ Held [(g1, Obj.cells C.toArray 23 (0, 0))] w') (T := fun _ _ _ => True) (by kernel_rfl) ⟨(Turn.refl _ _).drew, held_cons (show w1.drew.heap[_]? = _ from D1.out) (held_nil _)⟩ trivial ?_
    have HG := Grow.held w1 [(g1, Obj.cells C.toArray 23 (0, 0))]
    refine atN 0 ?_
    iterate 16
      first
      | refine anyG_y HG (v := undef) rfl (by kernel_rfl) (fun _ _ _ h => h) (fun _ _ _ => Iff.rfl) (Or.inr ⟨by rfl, rfl⟩) ?_
      | refine anyG_y HG (v := ?_) rfl (by kernel_rfl) (fun _ _ _ h => h) (fun _ _ _ => Iff.rfl) (Or.inl ⟨by rfl, fun w hSw => ?_⟩) ?_
        rotate_left
        · skip
          obtain ⟨s0, s1, s2, s3, s4⟩ := HC.out _ _ hSw.2.head
          first | (go_simp; done) | (go_simp; with_reducible rfl)
      simp only [Nat.reduceAdd, AP]
    refine anyG_take HG (i := 16) (v := Value.agg C.toArray) rfl (by kernel_rfl) (by kernel_rfl) (by kernel_rfl) (fun _ _ _ h => h) (fun _ _ _ => Iff.rfl) (yieldsIf_load_mid (by rfl) 23 _ rfl g1 0 rfl C _ (fun w hSw => range_of_row hSw.2.head) Try.underlying23 rfl HCI.out) ?_
    simp only [AP]
    refine anyG_call HG (i := 17) (fun w hSw => HWH.out w) rfl (by kernel_rfl) (by kernel_rfl) (by kernel_rfl) (fun _ _ _ h => h) (fun _ _ _ => Iff.rfl) (by rfl) (fun w hSw => by go_simp; first | done | with_reducible rfl) ?_
    simp only [AP]
    refine atN 18 ?_
    iterate 2
      first
      | refine anyG_y HG (v := undef) rfl (by kernel_rfl) (fun _ _ _ h => h) (fun _ _ _ => Iff.rfl) (Or.inr ⟨by rfl, rfl⟩) ?_
      | refine anyG_y HG (v := ?_) rfl (by kernel_rfl) (fun _ _ _ h => h) (fun _ _ _ => Iff.rfl) (Or.inl ⟨by rfl, fun w hSw => ?_⟩) ?_
        rotate_left
        · skip
          first | (go_simp; done) | (go_simp; with_reducible rfl)
      simp only [Nat.reduceAdd, AP]
    refine anyG_done (by kernel_rfl) (fun w2 hS _ => ?_) _
    obtain ⟨hpS, hS⟩ := hS
    clear HG
    have PT := Lib.hid (PT.out.pure hpS)
    have D1 := Lib.hid hS.head
    clear hS hpS
    go_wp2
    go_ret
    exact ⟨rfl, PT.out⟩
  have hb := hye h1 h2 h3 h4
  rw [hb] at HLM
  have d4 : decide ((m : Int) < next) = false := decide_eq_false (by omega)
  clear hno hye h1 h2 h3 h4 hb
  go_enter Try.func30, Try.ntmps30
  go_wp2_with (refine wpList_boxV rfl 23 _ rfl C rfl ?_)
  intro g1 w1 e1 c1 t1 s1
  clear e1 s1
  have D1 := Lib.hid c1; have PT := Lib.hid t1
  clear c1 t1
  go_wp2_with fail
  refine wp_region_G (S := fun w' => Pure w1 w' ∧ Held [(g1, Obj.cells C.toArray 23 (0, 0))] w') (T := fun _ _ _ => True) (by kernel_rfl) ⟨(Turn.refl _ _).drew, held_cons (show w1.drew.heap[_]? = _ from D1.out) (held_nil _)⟩ trivial ?_
  have HG := Grow.held w1 [(g1, Obj.cells C.toArray 23 (0, 0))]
  refine atN 0 ?_
  iterate 16
    first
    | refine anyG_y HG (v := undef) rfl (by kernel_rfl) (fun _ _ _ h => h) (fun _ _ _ => Iff.rfl) (Or.inr ⟨by rfl, rfl⟩) ?_
    | refine anyG_y HG (v := ?_) rfl (by kernel_rfl) (fun _ _ _ h => h) (fun _ _ _ => Iff.rfl) (Or.inl ⟨by rfl, fun w hSw => ?_⟩) ?_
      rotate_left
      · skip
        obtain ⟨s0, s1, s2, s3, s4⟩ := HC.out _ _ hSw.2.head
        first | (go_simp; done) | (go_simp; with_reducible rfl)
    simp only [Nat.reduceAdd, AP]
  refine anyG_take HG (i := 16) (v := Value.agg C.toArray) rfl (by kernel_rfl) (by kernel_rfl) (by kernel_rfl) (fun _ _ _ h => h) (fun _ _ _ => Iff.rfl) (yieldsIf_load_mid (by rfl) 23 _ rfl g1 0 rfl C _ (fun w hSw => range_of_row hSw.2.head) Try.underlying23 rfl HCI.out) ?_
  simp only [AP]
  refine anyG_call HG (i := 17) (fun w hSw => HWH.out w) rfl (by kernel_rfl) (by kernel_rfl) (by kernel_rfl) (fun _ _ _ h => h) (fun _ _ _ => Iff.rfl) (by rfl) (fun w hSw => by go_simp; first | done | with_reducible rfl) ?_
  simp only [AP]
  refine atN 18 ?_
  iterate 2
    first
    | refine anyG_y HG (v := undef) rfl (by kernel_rfl) (fun _ _ _ h => h) (fun _ _ _ => Iff.rfl) (Or.inr ⟨by rfl, rfl⟩) ?_
    | refine anyG_y HG (v := ?_) rfl (by kernel_rfl) (fun _ _ _ h => h) (fun _ _ _ => Iff.rfl) (Or.inl ⟨by rfl, fun w hSw => ?_⟩) ?_
      rotate_left
      · skip
        first | (go_simp; done) | (go_simp; with_reducible rfl)
    simp only [Nat.reduceAdd, AP]
  refine anyG_done (by kernel_rfl) (fun w2 hS _ => ?_) _
  obtain ⟨hpS, hS⟩ := hS
  clear HG
  have PT := Lib.hid (PT.out.pure hpS)
  have D1 := Lib.hid hS.head
  clear hS hpS
  have R1 := range_of_row D1.out
  go_wp2_with (refine wpList_load_mid rfl 23 _ rfl g1 0 rfl C _ R1 Try.underlying23 rfl HCI.out ?_)
  clear R1
  refine (HUP.out _).mono ?_
  rintro e w3 ⟨rfl, t3⟩
  have PT := Lib.hid (PT.out.pure t3)
  clear t3
  go_wp2_with fail
  refine (HLM.out _).mono ?_
  rintro e w4 ⟨rfl, t4⟩
  have PT := Lib.hid (PT.out.pure t4)
  clear t4
  go_wp2
  go_ret
  exact ⟨rfl, PT.out⟩
end Go.Proofs.Ytcfbmbhkdicpfaa
