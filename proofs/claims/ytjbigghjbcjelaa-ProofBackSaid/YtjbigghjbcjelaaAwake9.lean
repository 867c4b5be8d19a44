/- What every program of chapter 9 answers that is one. -/
import Derived.Test.YtjbigghjbcjelaaTreeA
namespace Go.Proofs.Ytjbigghjbcjelaa
open Go.RowKit

theorem eq28 (w : World) {a b : List UInt8} (ha : a.length = 32) (hb : b.length = 32) : (binOp .eql 28 (hv a) (hv b)).run Try.prog w = .ok (.bool (a == b)) w := by
  obtain ⟨i, hi, h1, h2, h3⟩ := info_parts Try.infoU8S
  exact eql_bytes w 28 5 32 Try.underlying28 Try.underlying5 (fun w => by simp [sizeOf, typeInfo, hi, h2]) a b ha hb
theorem neq28 (w : World) {a b : List UInt8} (ha : a.length = 32) (hb : b.length = 32) : (binOp .neq 28 (hv a) (hv b)).run Try.prog w = .ok (.bool (!(a == b))) w := by
  obtain ⟨i, hi, h1, h2, h3⟩ := info_parts Try.infoU8S
  exact neq_bytes w 28 5 32 Try.underlying28 Try.underlying5 (fun w => by simp [sizeOf, typeInfo, hi, h2]) a b ha hb
theorem same28 (w : World) {a : List UInt8} (ha : a.length = 32) : (binOp .eql 28 (hv a) (hv a)).run Try.prog w = .ok (.bool true) w := by
  rw [eq28 w ha ha, beq_self_eq_true]
set_option maxHeartbeats 400000 in
theorem Num9_any (w : World) (x : Int) : Calls Try.prog 25 #[.int .i64 x] w fun e w' => e = .returned (.int .i64 x) ∧ w' = w := by
  go_enter Try.func25, Try.ntmps25
  go_wp2
  go_ret
  exact ⟨rfl, rfl⟩
theorem rows1 (l : List UInt8) : pushV [] (1, l) = [(1, l)] := rfl
theorem rows2 (a b : List UInt8) : pushV [(1, a)] (1, b) = [(2, joinV a b)] := pushV_eq [] (1, a) (1, b) rfl
theorem belowV_two : belowV 2 = 1 := by decide
theorem rootV_two (a b : List UInt8) : rootV [a, b] = joinV (leafV a) (leafV b) := by
  rw [rootV_more (by simp)]
  show joinV (rootV (List.take (belowV 2) [a, b])) (rootV (List.drop (belowV 2) [a, b])) = _
  rw [belowV_two]
  show joinV (rootV [a]) (rootV [b]) = _
  rw [rootV_one, rootV_one]

set_option maxRecDepth 100000 in
set_option maxHeartbeats 2000000 in
theorem awake9 (w : World) : Calls Try.prog 22 #[] w fun e w' => e = .returned (.bool true) ∧ Pure w w' := by
  obtain ⟨X, hXl, HZ⟩ := ex28
  go_enter Try.func22, Try.ntmps22
  go_wp2_with fail
  refine (TNew_any _).mono ?_
  rintro e w1 ⟨g, rfl, ht, hg, t1⟩
  have HT1 := Lib.hid ht; have P1 := Lib.hid t1
  have hgw := (Array.getElem?_eq_some_iff.1 ht.at_).1
  clear ht t1
  go_wp2_with fail
  refine (TRoot_nil _ g _ 0 HT1.out).mono ?_
  rintro e w2 ⟨rfl, t2⟩
  have HT2 := Lib.hid (HT1.out.turn t2 (fun e => e) (fun _ _ e => e))
  have P2 := Lib.hid (P1.out.pure t2)
  have s2 := t2.size
  clear t2 HT1 P1
  rw [rootV_nil]
  have hA : (shaV []).length = 32 := shaV_length _
  generalize hA0 : shaV [] = A at hA ⊢
  have HA0 := Lib.hid hA0; clear hA0
  go_wp2_with (refine wpList_allocZ rfl 28 rfl X HZ.out ?_)
  intro g2 w3 e3 c3 t3 s3
  have l2 : g < g2 := by omega
  have HT3 := Lib.hid (HT2.out.turn t3 (fun e => e) (fun _ _ e => e))
  have P3 := Lib.hid (P2.out.pure t3)
  clear e3 t3 HT2 P2 s2
  go_wp2_with (refine wpList_store_blk rfl 28 _ _ rfl g2 _ (u8s A) _ rfl rfl c3 (size28 hXl hA) (info28_l hA) (u8s_one _) ?_)
  intro w4 c4 t4 s4
  have HT4 := Lib.hid (HT3.out.turn t4 (by omega) (fun _ h => by simp [Value.ownBlock] at h))
  have P4 := Lib.hid (P3.out.trans t4 fun i hi e => by omega : Pure w w4)
  have A4 := Lib.hid c4
  have s4 : w4.heap.size = g2 + 1 := by omega
  clear c3 c4 t4 HT3 P3 s3
  go_wp2_with fail
  refine (TAppend_any w4 g _ [] 0 [120] HT4.out (by simp) (fun _ h => by simp at h) (by omega) (by simp)).mono ?_
  rintro e w5 ⟨rfl, v5, h5, n5, t5⟩
  rw [rows1] at h5
  have HT5 := Lib.hid h5
  have P5 := Lib.hid (P4.out.trans t5 fun i hi e => by omega : Pure w w5)
  have A5 := Lib.hid (t5.obj A4.out (by omega))
  have N5 : Hid (∀ k, v5.ownBlock = some k → g2 < k) := Lib.hid fun k hk => by have := n5 k hk; omega
  clear h5 n5 t5 HT4 P4 A4 s4
  go_wp2_with fail
  refine (TRoot_more _ g _ _ _ (by simp) HT5.out).mono ?_
  rintro e w6 ⟨rfl, t6⟩
  rw [show joinAll [(1, leafV [120])] = leafV [120] from rfl]
  have HT6 := Lib.hid (HT5.out.turn t6 (fun e => e) (fun _ _ e => e))
  have P6 := Lib.hid (P5.out.pure t6)
  have A6 := Lib.hid (t6.obj A5.out (fun e => e))
  clear t6 HT5 P5 A5
  have hg2 := (Array.getElem?_eq_some_iff.1 A6.out).1
  have U6 : Hid (∀ k, v5.ownBlock = some k → k < w6.heap.size) := Lib.hid fun k hk => (HT6.out.own.lt k hk).2
  have hX : (leafV [120]).length = 32 := leafV_length _
  go_wp2_with (refine wpList_allocZ rfl 28 rfl X HZ.out ?_)
  intro g3 w7 e7 c7 t7 s7
  have l3 : g2 < g3 := by omega
  have hw : w.heap.size ≤ g3 := by omega
  have HT7 := Lib.hid (HT6.out.turn t7 (fun e => e) (fun _ _ e => e))
  have P7 := Lib.hid (P6.out.pure t7)
  have A7 := Lib.hid (t7.obj A6.out (fun e => e))
  have U7 : Hid (∀ k, v5.ownBlock = some k → k ≠ g3) := Lib.hid fun k hk => by have := U6.out k hk; omega
  clear e7 t7 HT6 P6 A6 U6
  go_wp2_with (refine wpList_store_blk rfl 28 _ _ rfl g3 _ (u8s (leafV [120])) _ rfl rfl c7 (size28 hXl hX) (info28_l hX) (u8s_one _) ?_)
  intro w8 c8 t8 s8
  have HT8 := Lib.hid (HT7.out.turn t8 (by omega) (fun k h => U7.out k h))
  have P8 := Lib.hid (P7.out.trans t8 fun i hi e => by omega : Pure w w8)
  have A8 := Lib.hid (t8.obj A7.out (by omega))
  have B8 := Lib.hid c8
  clear c7 c8 t8 HT7 P7 A7 U7 s7
  go_wp2_with fail
  refine (TAppend_any w8 g _ [(1, leafV [120])] 1 [121] HT8.out (by simp) (fun p h => by obtain rfl := List.mem_singleton.1 h; decide) (by omega) (by simp)).mono ?_
  rintro e wa ⟨rfl, v9, h9, n9, t9⟩
  rw [rows2] at h9
  have TT := Lib.hid h9
  have PP := Lib.hid (P8.out.trans t9 fun i hi e => by omega : Pure w wa)
  have hSA := range_of_row (t9.obj A8.out (by omega))
  have hSB := range_of_row (t9.obj B8.out (by omega))
  clear h9 n9 t9 HT8 P8 A8 B8 s8
  have hu28 := Try.underlying28
  have hJ : (joinV (leafV [120]) (leafV [121])).length = 32 := joinV_length _ _
  have hR : rootV [[120], [121]] = joinV (leafV [120]) (leafV [121]) := rootV_two _ _
  have HR := Lib.hid hR; clear hR
  have sA := fun W => same28 W hA
  have sX := fun W => same28 W hX
  have sJ := fun W => same28 W hJ
  go_wp2_with fail
  refine wp_region_held_drew (S := fun w' => w'.rangeAt g2 0 (u8s A) ∧ w'.rangeAt g3 0 (u8s (leafV [120]))) (by kernel_rfl) ⟨hSA, hSB⟩ (fun hHeld => ?_)
  have HS := Lib.hid hHeld
  have TT := Lib.hid (TT.out.turn ((Turn.refl (fun _ => False) wa).drew) (fun e => e) (fun _ _ e => e))
  have PP := Lib.hid PP.out.drew
  clear hHeld hSA hSB
  generalize wa.drew = wb at *
  refine wpAnyH_take (i := 0) (v := hv A) rfl (by kernel_rfl) (by kernel_rfl) (by kernel_rfl) (fun _ _ _ h => h) (yieldsIf_load_mid (by rfl) 28 _ rfl g2 0 rfl (u8s A) _ (fun w h => h.1) hu28 rfl (info28_l hA)) HS.out ?_
  simp only [List.getElem_toArray, List.getElem_cons_zero, Act.put, List.setIfInBounds_toArray, List.set_cons_zero, List.set_cons_succ]
  refine wpAnyH_step (i := 1) (by kernel_rfl) rfl fun K hK => ?_
  go_simp
  refine (Sha_any _ [] (by simp)).mono ?_
  rintro e w9 ⟨rfl, t9⟩
  rw [HA0.out]
  have HS9 := Lib.hid (And.intro (t9.range HS.out.1 (fun e => e)) (t9.range HS.out.2 (fun e => e)))
  have PP9 := Lib.hid (PP.out.pure t9)
  have TT9 := Lib.hid (TT.out.turn t9 (fun e => e) (fun _ _ e => e))
  refine hK.out _ _ HS9.out ?_
  clear hK K t9 HS PP
  try simp only [List.getElem_toArray, List.getElem_cons_succ, List.getElem_cons_zero, Act.put, List.setIfInBounds_toArray, List.set_cons_zero, List.set_cons_succ]
  have HS := Lib.hid HS9.out; have PP := Lib.hid PP9.out; clear HS9 PP9
  have TT := Lib.hid TT9.out; clear TT9
  refine wpAnyH_take (i := 2) (v := .bool true) rfl (by kernel_rfl) (by kernel_rfl) (by kernel_rfl) (fun _ _ _ h => h) (Or.inl ⟨by rfl, fun w hSw => by go_simp⟩) HS.out ?_
  simp only [List.getElem_toArray, List.getElem_cons_succ, List.getElem_cons_zero, Act.put, List.setIfInBounds_toArray, List.set_cons_zero, List.set_cons_succ]
  refine wpAnyH_take (i := 3) (v := .bool true) rfl (by kernel_rfl) (by kernel_rfl) (by kernel_rfl) (fun _ _ _ h => h) (Or.inl ⟨by rfl, fun w hSw => by go_simp⟩) HS.out ?_
  simp only [List.getElem_toArray, List.getElem_cons_succ, List.getElem_cons_zero, Act.put, List.setIfInBounds_toArray, List.set_cons_zero, List.set_cons_succ]
  refine wpAnyH_take (i := 4) (v := hv (leafV [120])) rfl (by kernel_rfl) (by kernel_rfl) (by kernel_rfl) (fun _ _ _ h => h) (yieldsIf_load_mid (by rfl) 28 _ rfl g3 0 rfl (u8s (leafV [120])) _ (fun w h => h.2) hu28 rfl (info28_l hX)) HS.out ?_
  simp only [List.getElem_toArray, List.getElem_cons_succ, List.getElem_cons_zero, Act.put, List.setIfInBounds_toArray, List.set_cons_zero, List.set_cons_succ]
  refine wpAnyH_step (i := 5) (by kernel_rfl) rfl fun K hK => ?_
  go_simp
  refine (Leaf_any _ [120] (by simp)).mono ?_
  rintro e w9 ⟨rfl, t9⟩
  have HS9 := Lib.hid (And.intro (t9.range HS.out.1 (fun e => e)) (t9.range HS.out.2 (fun e => e)))
  have PP9 := Lib.hid (PP.out.pure t9)
  have TT9 := Lib.hid (TT.out.turn t9 (fun e => e) (fun _ _ e => e))
  refine hK.out _ _ HS9.out ?_
  clear hK K t9 HS PP
  try simp only [List.getElem_toArray, List.getElem_cons_succ, List.getElem_cons_zero, Act.put, List.setIfInBounds_toArray, List.set_cons_zero, List.set_cons_succ]
  have HS := Lib.hid HS9.out; have PP := Lib.hid PP9.out; clear HS9 PP9
  have TT := Lib.hid TT9.out; clear TT9
  refine wpAnyH_take (i := 6) (v := .bool true) rfl (by kernel_rfl) (by kernel_rfl) (by kernel_rfl) (fun _ _ _ h => h) (Or.inl ⟨by rfl, fun w hSw => by go_simp⟩) HS.out ?_
  simp only [List.getElem_toArray, List.getElem_cons_succ, List.getElem_cons_zero, Act.put, List.setIfInBounds_toArray, List.set_cons_zero, List.set_cons_succ]
  refine wpAnyH_take (i := 7) (v := .bool true) rfl (by kernel_rfl) (by kernel_rfl) (by kernel_rfl) (fun _ _ _ h => h) (Or.inl ⟨by rfl, fun w hSw => by go_simp⟩) HS.out ?_
  simp only [List.getElem_toArray, List.getElem_cons_succ, List.getElem_cons_zero, Act.put, List.setIfInBounds_toArray, List.set_cons_zero, List.set_cons_succ]
  refine wpAnyH_take (i := 8) (v := .bool true) rfl (by kernel_rfl) (by kernel_rfl) (by kernel_rfl) (fun _ _ _ h => h) (Or.inl ⟨by rfl, fun w hSw => by go_simp⟩) HS.out ?_
  simp only [List.getElem_toArray, List.getElem_cons_succ, List.getElem_cons_zero, Act.put, List.setIfInBounds_toArray, List.set_cons_zero, List.set_cons_succ]
  refine wpAnyH_take (i := 9) (v := .pointer (some ⟨g, 0, none⟩)) rfl (by kernel_rfl) (by kernel_rfl) (by kernel_rfl) (fun _ _ _ h => h) (Or.inl ⟨by rfl, fun w hSw => by go_simp⟩) HS.out ?_
  simp only [List.getElem_toArray, List.getElem_cons_succ, List.getElem_cons_zero, Act.put, List.setIfInBounds_toArray, List.set_cons_zero, List.set_cons_succ]
  have fit2 : Fits [[120], [121]] := by
    intro l hl
    rcases List.mem_cons.1 hl with rfl | h
    · decide
    · obtain rfl := List.mem_singleton.1 h; decide
  refine wpAnyH_ready (rs := [10, 11]) (by kernel_rfl) (by simp) (AllReadyH.cons rfl (fun K hK => ?_) (AllReadyH.cons rfl (fun K hK => ?_) AllReadyH.nil))
  · go_simp
    refine (TRoot_more _ g _ _ _ (by simp) TT.out).mono ?_
    rintro e w9 ⟨rfl, t9⟩
    rw [show joinAll [(2, joinV (leafV [120]) (leafV [121]))] = joinV (leafV [120]) (leafV [121]) from rfl]
    have HS9 := Lib.hid (And.intro (t9.range HS.out.1 (fun e => e)) (t9.range HS.out.2 (fun e => e)))
    have PP9 := Lib.hid (PP.out.pure t9)
    have TT9 := Lib.hid (TT.out.turn t9 (fun e => e) (fun _ _ e => e))
    refine hK.out _ _ HS9.out (fun _ => ?_)
    clear hK K t9 HS PP
    try simp only [List.getElem_toArray, List.getElem_cons_succ, List.getElem_cons_zero, Act.put, List.setIfInBounds_toArray, List.set_cons_zero, List.set_cons_succ]
    have HS := Lib.hid HS9.out; have PP := Lib.hid PP9.out; clear HS9 PP9
    have TT := Lib.hid TT9.out; clear TT9
    refine wpAnyH_step (i := 11) (by kernel_rfl) rfl fun K hK => ?_
    go_simp
    have t9 : Pure w9 (w9.alloc (.cells (strs [[120], [121]]).toArray 9)) := (Turn.refl _ _).alloc _
    have HG := Lib.hid (range_of_row (heap_alloc_new w9 (.cells (strs [[120], [121]]).toArray 9)))
    have HS9 := Lib.hid (And.intro (t9.range HS.out.1 (fun e => e)) (t9.range HS.out.2 (fun e => e)))
    have PP9 := Lib.hid (PP.out.pure t9)
    have TT9 := Lib.hid (TT.out.turn t9 (fun e => e) (fun _ _ e => e))
    refine hK.out _ (w9.alloc (.cells (strs [[120], [121]]).toArray 9)) HS9.out ?_
    clear hK K t9 HS PP TT
    generalize w9.alloc (.cells (strs [[120], [121]]).toArray 9) = wz at *
    generalize w9.heap.size = gs at *
    try simp only [List.getElem_toArray, List.getElem_cons_succ, List.getElem_cons_zero, Act.put, List.setIfInBounds_toArray, List.set_cons_zero, List.set_cons_succ]
    have HS := Lib.hid HS9.out; have PP := Lib.hid PP9.out; have TT := Lib.hid TT9.out; clear HS9 PP9 TT9
    refine wpAnyH_step (i := 12) (by kernel_rfl) rfl fun K hK => ?_
    go_simp
    refine (Root_at 2 [[120], [121]] rfl _ gs 0 2 (by omega) (by omega) fit2 HG.out).mono ?_
    rintro e w9 ⟨rfl, t9⟩
    rw [HR.out]
    have HS9 := Lib.hid (And.intro (t9.range HS.out.1 (fun e => e)) (t9.range HS.out.2 (fun e => e)))
    have PP9 := Lib.hid (PP.out.pure t9)
    have TT9 := Lib.hid (TT.out.turn t9 (fun e => e) (fun _ _ e => e))
    refine hK.out _ _ HS9.out ?_
    clear hK K t9 HS PP
    try simp only [List.getElem_toArray, List.getElem_cons_succ, List.getElem_cons_zero, Act.put, List.setIfInBounds_toArray, List.set_cons_zero, List.set_cons_succ]
    have HS := Lib.hid HS9.out; have PP := Lib.hid PP9.out; clear HS9 PP9
    have TT := Lib.hid TT9.out; clear TT9
    refine wpAnyH_take (i := 13) (v := .bool true) rfl (by kernel_rfl) (by kernel_rfl) (by kernel_rfl) (fun _ _ _ h => h) (Or.inl ⟨by rfl, fun w hSw => by go_simp⟩) HS.out ?_
    simp only [List.getElem_toArray, List.getElem_cons_succ, List.getElem_cons_zero, Act.put, List.setIfInBounds_toArray, List.set_cons_zero, List.set_cons_succ]
    refine wpAnyH_take (i := 14) (v := .bool true) rfl (by kernel_rfl) (by kernel_rfl) (by kernel_rfl) (fun _ _ _ h => h) (Or.inl ⟨by rfl, fun w hSw => by go_simp⟩) HS.out ?_
    simp only [List.getElem_toArray, List.getElem_cons_succ, List.getElem_cons_zero, Act.put, List.setIfInBounds_toArray, List.set_cons_zero, List.set_cons_succ]
    refine wpAnyH_take (i := 15) (v := .bool true) rfl (by kernel_rfl) (by kernel_rfl) (by kernel_rfl) (fun _ _ _ h => h) (Or.inl ⟨by rfl, fun w hSw => by go_simp⟩) HS.out ?_
    simp only [List.getElem_toArray, List.getElem_cons_succ, List.getElem_cons_zero, Act.put, List.setIfInBounds_toArray, List.set_cons_zero, List.set_cons_succ]
    refine wpAnyH_take (i := 16) (v := .pointer (some ⟨g, 0, none⟩)) rfl (by kernel_rfl) (by kernel_rfl) (by kernel_rfl) (fun _ _ _ h => h) (Or.inl ⟨by rfl, fun w hSw => by go_simp⟩) HS.out ?_
    simp only [List.getElem_toArray, List.getElem_cons_succ, List.getElem_cons_zero, Act.put, List.setIfInBounds_toArray, List.set_cons_zero, List.set_cons_succ]
    refine wpAnyH_step (i := 17) (by kernel_rfl) rfl fun K hK => ?_
    go_simp
    refine (TSize_any _ g _ _ _ TT.out).mono ?_
    rintro e w9 ⟨rfl, rfl⟩
    refine hK.out _ _ HS.out ?_
    clear hK K
    try simp only [List.getElem_toArray, List.getElem_cons_succ, List.getElem_cons_zero, Act.put, List.setIfInBounds_toArray, List.set_cons_zero, List.set_cons_succ]
    refine wpAnyH_take (i := 18) (v := .bool true) rfl (by kernel_rfl) (by kernel_rfl) (by kernel_rfl) (fun _ _ _ h => h) (Or.inl ⟨by rfl, fun w hSw => by go_simp⟩) HS.out ?_
    simp only [List.getElem_toArray, List.getElem_cons_succ, List.getElem_cons_zero, Act.put, List.setIfInBounds_toArray, List.set_cons_zero, List.set_cons_succ]
    refine wpAnyH_take (i := 19) (v := .bool true) rfl (by kernel_rfl) (by kernel_rfl) (by kernel_rfl) (fun _ _ _ h => h) (Or.inl ⟨by rfl, fun w hSw => by go_simp⟩) HS.out ?_
    simp only [List.getElem_toArray, List.getElem_cons_succ, List.getElem_cons_zero, Act.put, List.setIfInBounds_toArray, List.set_cons_zero, List.set_cons_succ]
    refine wpAnyH_take (i := 20) (v := .bool true) rfl (by kernel_rfl) (by kernel_rfl) (by kernel_rfl) (fun _ _ _ h => h) (Or.inl ⟨by rfl, fun w hSw => by go_simp⟩) HS.out ?_
    simp only [List.getElem_toArray, List.getElem_cons_succ, List.getElem_cons_zero, Act.put, List.setIfInBounds_toArray, List.set_cons_zero, List.set_cons_succ]
    refine wpAnyH_step (i := 21) (by kernel_rfl) rfl fun K hK => ?_
    go_simp
    refine (Leaf_any _ [120] (by simp)).mono ?_
    rintro e w9 ⟨rfl, t9⟩
    have HS9 := Lib.hid (And.intro (t9.range HS.out.1 (fun e => e)) (t9.range HS.out.2 (fun e => e)))
    have PP9 := Lib.hid (PP.out.pure t9)
    refine hK.out _ _ HS9.out ?_
    clear hK K t9 HS PP
    try simp only [List.getElem_toArray, List.getElem_cons_succ, List.getElem_cons_zero, Act.put, List.setIfInBounds_toArray, List.set_cons_zero, List.set_cons_succ]
    have HS := Lib.hid HS9.out; have PP := Lib.hid PP9.out; clear HS9 PP9
    refine wpAnyH_step (i := 22) (by kernel_rfl) rfl fun K hK => ?_
    go_simp
    refine (Sha_any _ [0, 120] (by simp)).mono ?_
    rintro e w9 ⟨rfl, t9⟩
    rw [show shaV [0, 120] = leafV [120] from rfl]
    have HS9 := Lib.hid (And.intro (t9.range HS.out.1 (fun e => e)) (t9.range HS.out.2 (fun e => e)))
    have PP9 := Lib.hid (PP.out.pure t9)
    refine hK.out _ _ HS9.out ?_
    clear hK K t9 HS PP
    try simp only [List.getElem_toArray, List.getElem_cons_succ, List.getElem_cons_zero, Act.put, List.setIfInBounds_toArray, List.set_cons_zero, List.set_cons_succ]
    have HS := Lib.hid HS9.out; have PP := Lib.hid PP9.out; clear HS9 PP9
    refine wpAnyH_take (i := 23) (v := .bool true) rfl (by kernel_rfl) (by kernel_rfl) (by kernel_rfl) (fun _ _ _ h => h) (Or.inl ⟨by rfl, fun w hSw => by go_simp⟩) HS.out ?_
    simp only [List.getElem_toArray, List.getElem_cons_succ, List.getElem_cons_zero, Act.put, List.setIfInBounds_toArray, List.set_cons_zero, List.set_cons_succ]
    refine wpAnyH_take (i := 24) (v := .bool true) rfl (by kernel_rfl) (by kernel_rfl) (by kernel_rfl) (fun _ _ _ h => h) (Or.inl ⟨by rfl, fun w hSw => by go_simp⟩) HS.out ?_
    simp only [List.getElem_toArray, List.getElem_cons_succ, List.getElem_cons_zero, Act.put, List.setIfInBounds_toArray, List.set_cons_zero, List.set_cons_succ]
    refine wpAnyH_take (i := 25) (v := .bool true) rfl (by kernel_rfl) (by kernel_rfl) (by kernel_rfl) (fun _ _ _ h => h) (Or.inl ⟨by rfl, fun w hSw => by go_simp⟩) HS.out ?_
    simp only [List.getElem_toArray, List.getElem_cons_succ, List.getElem_cons_zero, Act.put, List.setIfInBounds_toArray, List.set_cons_zero, List.set_cons_succ]
    refine wpAnyH_step (i := 26) (by kernel_rfl) rfl fun K hK => ?_
    go_simp
    refine (Num9_any _ _).mono ?_
    rintro e w9 ⟨rfl, rfl⟩
    refine hK.out _ _ HS.out ?_
    clear hK K
    try simp only [List.getElem_toArray, List.getElem_cons_succ, List.getElem_cons_zero, Act.put, List.setIfInBounds_toArray, List.set_cons_zero, List.set_cons_succ]
    refine wpAnyH_take (i := 27) (v := .bool true) rfl (by kernel_rfl) (by kernel_rfl) (by kernel_rfl) (fun _ _ _ h => h) (Or.inl ⟨by rfl, fun w hSw => by go_simp⟩) HS.out ?_
    simp only [List.getElem_toArray, List.getElem_cons_succ, List.getElem_cons_zero, Act.put, List.setIfInBounds_toArray, List.set_cons_zero, List.set_cons_succ]
    refine wpAnyH_take (i := 28) (v := .bool true) rfl (by kernel_rfl) (by kernel_rfl) (by kernel_rfl) (fun _ _ _ h => h) (Or.inl ⟨by rfl, fun w hSw => by go_simp⟩) HS.out ?_
    simp only [List.getElem_toArray, List.getElem_cons_succ, List.getElem_cons_zero, Act.put, List.setIfInBounds_toArray, List.set_cons_zero, List.set_cons_succ]
    refine wpAnyH_take (i := 29) (v := .bool true) rfl (by kernel_rfl) (by kernel_rfl) (by kernel_rfl) (fun _ _ _ h => h) (Or.inl ⟨by rfl, fun w hSw => by go_simp⟩) HS.out ?_
    simp only [List.getElem_toArray, List.getElem_cons_succ, List.getElem_cons_zero, Act.put, List.setIfInBounds_toArray, List.set_cons_zero]
    refine wpAnyH_done (by kernel_rfl) ?_ _
    go_wp2
    go_ret
    exact ⟨rfl, PP.out⟩
  · go_simp
    have t9 : Pure w9 (w9.alloc (.cells (strs [[120], [121]]).toArray 9)) := (Turn.refl _ _).alloc _
    have HG := Lib.hid (range_of_row (heap_alloc_new w9 (.cells (strs [[120], [121]]).toArray 9)))
    have HS9 := Lib.hid (And.intro (t9.range HS.out.1 (fun e => e)) (t9.range HS.out.2 (fun e => e)))
    have PP9 := Lib.hid (PP.out.pure t9)
    have TT9 := Lib.hid (TT.out.turn t9 (fun e => e) (fun _ _ e => e))
    refine hK.out _ (w9.alloc (.cells (strs [[120], [121]]).toArray 9)) HS9.out (fun _ => ?_)
    clear hK K t9 HS PP TT
    generalize w9.alloc (.cells (strs [[120], [121]]).toArray 9) = wz at *
    generalize w9.heap.size = gs at *
    try simp only [List.getElem_toArray, List.getElem_cons_succ, List.getElem_cons_zero, Act.put, List.setIfInBounds_toArray, List.set_cons_zero, List.set_cons_succ]
    have HS := Lib.hid HS9.out; have PP := Lib.hid PP9.out; have TT := Lib.hid TT9.out; clear HS9 PP9 TT9
    refine wpAnyH_step (i := 10) (by kernel_rfl) rfl fun K hK => ?_
    go_simp
    refine (TRoot_more _ g _ _ _ (by simp) TT.out).mono ?_
    rintro e w9 ⟨rfl, t9⟩
    rw [show joinAll [(2, joinV (leafV [120]) (leafV [121]))] = joinV (leafV [120]) (leafV [121]) from rfl]
    have HG := Lib.hid (t9.range HG.out (fun e => e))
    have HS9 := Lib.hid (And.intro (t9.range HS.out.1 (fun e => e)) (t9.range HS.out.2 (fun e => e)))
    have PP9 := Lib.hid (PP.out.pure t9)
    have TT9 := Lib.hid (TT.out.turn t9 (fun e => e) (fun _ _ e => e))
    refine hK.out _ _ HS9.out ?_
    clear hK K t9 HS PP
    try simp only [List.getElem_toArray, List.getElem_cons_succ, List.getElem_cons_zero, Act.put, List.setIfInBounds_toArray, List.set_cons_zero, List.set_cons_succ]
    have HS := Lib.hid HS9.out; have PP := Lib.hid PP9.out; clear HS9 PP9
    have TT := Lib.hid TT9.out; clear TT9
    refine wpAnyH_step (i := 12) (by kernel_rfl) rfl fun K hK => ?_
    go_simp
    refine (Root_at 2 [[120], [121]] rfl _ gs 0 2 (by omega) (by omega) fit2 HG.out).mono ?_
    rintro e w9 ⟨rfl, t9⟩
    rw [HR.out]
    have HS9 := Lib.hid (And.intro (t9.range HS.out.1 (fun e => e)) (t9.range HS.out.2 (fun e => e)))
    have PP9 := Lib.hid (PP.out.pure t9)
    have TT9 := Lib.hid (TT.out.turn t9 (fun e => e) (fun _ _ e => e))
    refine hK.out _ _ HS9.out ?_
    clear hK K t9 HS PP
    try simp only [List.getElem_toArray, List.getElem_cons_succ, List.getElem_cons_zero, Act.put, List.setIfInBounds_toArray, List.set_cons_zero, List.set_cons_succ]
    have HS := Lib.hid HS9.out; have PP := Lib.hid PP9.out; clear HS9 PP9
    have TT := Lib.hid TT9.out; clear TT9
    refine wpAnyH_take (i := 13) (v := .bool true) rfl (by kernel_rfl) (by kernel_rfl) (by kernel_rfl) (fun _ _ _ h => h) (Or.inl ⟨by rfl, fun w hSw => by go_simp⟩) HS.out ?_
    simp only [List.getElem_toArray, List.getElem_cons_succ, List.getElem_cons_zero, Act.put, List.setIfInBounds_toArray, List.set_cons_zero, List.set_cons_succ]
    refine wpAnyH_take (i := 14) (v := .bool true) rfl (by kernel_rfl) (by kernel_rfl) (by kernel_rfl) (fun _ _ _ h => h) (Or.inl ⟨by rfl, fun w hSw => by go_simp⟩) HS.out ?_
    simp only [List.getElem_toArray, List.getElem_cons_succ, List.getElem_cons_zero, Act.put, List.setIfInBounds_toArray, List.set_cons_zero, List.set_cons_succ]
    refine wpAnyH_take (i := 15) (v := .bool true) rfl (by kernel_rfl) (by kernel_rfl) (by kernel_rfl) (fun _ _ _ h => h) (Or.inl ⟨by rfl, fun w hSw => by go_simp⟩) HS.out ?_
    simp only [List.getElem_toArray, List.getElem_cons_succ, List.getElem_cons_zero, Act.put, List.setIfInBounds_toArray, List.set_cons_zero, List.set_cons_succ]
    refine wpAnyH_take (i := 16) (v := .pointer (some ⟨g, 0, none⟩)) rfl (by kernel_rfl) (by kernel_rfl) (by kernel_rfl) (fun _ _ _ h => h) (Or.inl ⟨by rfl, fun w hSw => by go_simp⟩) HS.out ?_
    simp only [List.getElem_toArray, List.getElem_cons_succ, List.getElem_cons_zero, Act.put, List.setIfInBounds_toArray, List.set_cons_zero, List.set_cons_succ]
    refine wpAnyH_step (i := 17) (by kernel_rfl) rfl fun K hK => ?_
    go_simp
    refine (TSize_any _ g _ _ _ TT.out).mono ?_
    rintro e w9 ⟨rfl, rfl⟩
    refine hK.out _ _ HS.out ?_
    clear hK K
    try simp only [List.getElem_toArray, List.getElem_cons_succ, List.getElem_cons_zero, Act.put, List.setIfInBounds_toArray, List.set_cons_zero, List.set_cons_succ]
    refine wpAnyH_take (i := 18) (v := .bool true) rfl (by kernel_rfl) (by kernel_rfl) (by kernel_rfl) (fun _ _ _ h => h) (Or.inl ⟨by rfl, fun w hSw => by go_simp⟩) HS.out ?_
    simp only [List.getElem_toArray, List.getElem_cons_succ, List.getElem_cons_zero, Act.put, List.setIfInBounds_toArray, List.set_cons_zero, List.set_cons_succ]
    refine wpAnyH_take (i := 19) (v := .bool true) rfl (by kernel_rfl) (by kernel_rfl) (by kernel_rfl) (fun _ _ _ h => h) (Or.inl ⟨by rfl, fun w hSw => by go_simp⟩) HS.out ?_
    simp only [List.getElem_toArray, List.getElem_cons_succ, List.getElem_cons_zero, Act.put, List.setIfInBounds_toArray, List.set_cons_zero, List.set_cons_succ]
    refine wpAnyH_take (i := 20) (v := .bool true) rfl (by kernel_rfl) (by kernel_rfl) (by kernel_rfl) (fun _ _ _ h => h) (Or.inl ⟨by rfl, fun w hSw => by go_simp⟩) HS.out ?_
    simp only [List.getElem_toArray, List.getElem_cons_succ, List.getElem_cons_zero, Act.put, List.setIfInBounds_toArray, List.set_cons_zero, List.set_cons_succ]
    refine wpAnyH_step (i := 21) (by kernel_rfl) rfl fun K hK => ?_
    go_simp
    refine (Leaf_any _ [120] (by simp)).mono ?_
    rintro e w9 ⟨rfl, t9⟩
    have HS9 := Lib.hid (And.intro (t9.range HS.out.1 (fun e => e)) (t9.range HS.out.2 (fun e => e)))
    have PP9 := Lib.hid (PP.out.pure t9)
    refine hK.out _ _ HS9.out ?_
    clear hK K t9 HS PP
    try simp only [List.getElem_toArray, List.getElem_cons_succ, List.getElem_cons_zero, Act.put, List.setIfInBounds_toArray, List.set_cons_zero, List.set_cons_succ]
    have HS := Lib.hid HS9.out; have PP := Lib.hid PP9.out; clear HS9 PP9
    refine wpAnyH_step (i := 22) (by kernel_rfl) rfl fun K hK => ?_
    go_simp
    refine (Sha_any _ [0, 120] (by simp)).mono ?_
    rintro e w9 ⟨rfl, t9⟩
    rw [show shaV [0, 120] = leafV [120] from rfl]
    have HS9 := Lib.hid (And.intro (t9.range HS.out.1 (fun e => e)) (t9.range HS.out.2 (fun e => e)))
    have PP9 := Lib.hid (PP.out.pure t9)
    refine hK.out _ _ HS9.out ?_
    clear hK K t9 HS PP
    try simp only [List.getElem_toArray, List.getElem_cons_succ, List.getElem_cons_zero, Act.put, List.setIfInBounds_toArray, List.set_cons_zero, List.set_cons_succ]
    have HS := Lib.hid HS9.out; have PP := Lib.hid PP9.out; clear HS9 PP9
    refine wpAnyH_take (i := 23) (v := .bool true) rfl (by kernel_rfl) (by kernel_rfl) (by kernel_rfl) (fun _ _ _ h => h) (Or.inl ⟨by rfl, fun w hSw => by go_simp⟩) HS.out ?_
    simp only [List.getElem_toArray, List.getElem_cons_succ, List.getElem_cons_zero, Act.put, List.setIfInBounds_toArray, List.set_cons_zero, List.set_cons_succ]
    refine wpAnyH_take (i := 24) (v := .bool true) rfl (by kernel_rfl) (by kernel_rfl) (by kernel_rfl) (fun _ _ _ h => h) (Or.inl ⟨by rfl, fun w hSw => by go_simp⟩) HS.out ?_
    simp only [List.getElem_toArray, List.getElem_cons_succ, List.getElem_cons_zero, Act.put, List.setIfInBounds_toArray, List.set_cons_zero, List.set_cons_succ]
    refine wpAnyH_take (i := 25) (v := .bool true) rfl (by kernel_rfl) (by kernel_rfl) (by kernel_rfl) (fun _ _ _ h => h) (Or.inl ⟨by rfl, fun w hSw => by go_simp⟩) HS.out ?_
    simp only [List.getElem_toArray, List.getElem_cons_succ, List.getElem_cons_zero, Act.put, List.setIfInBounds_toArray, List.set_cons_zero, List.set_cons_succ]
    refine wpAnyH_step (i := 26) (by kernel_rfl) rfl fun K hK => ?_
    go_simp
    refine (Num9_any _ _).mono ?_
    rintro e w9 ⟨rfl, rfl⟩
    refine hK.out _ _ HS.out ?_
    clear hK K
    try simp only [List.getElem_toArray, List.getElem_cons_succ, List.getElem_cons_zero, Act.put, List.setIfInBounds_toArray, List.set_cons_zero, List.set_cons_succ]
    refine wpAnyH_take (i := 27) (v := .bool true) rfl (by kernel_rfl) (by kernel_rfl) (by kernel_rfl) (fun _ _ _ h => h) (Or.inl ⟨by rfl, fun w hSw => by go_simp⟩) HS.out ?_
    simp only [List.getElem_toArray, List.getElem_cons_succ, List.getElem_cons_zero, Act.put, List.setIfInBounds_toArray, List.set_cons_zero, List.set_cons_succ]
    refine wpAnyH_take (i := 28) (v := .bool true) rfl (by kernel_rfl) (by kernel_rfl) (by kernel_rfl) (fun _ _ _ h => h) (Or.inl ⟨by rfl, fun w hSw => by go_simp⟩) HS.out ?_
    simp only [List.getElem_toArray, List.getElem_cons_succ, List.getElem_cons_zero, Act.put, List.setIfInBounds_toArray, List.set_cons_zero, List.set_cons_succ]
    refine wpAnyH_take (i := 29) (v := .bool true) rfl (by kernel_rfl) (by kernel_rfl) (by kernel_rfl) (fun _ _ _ h => h) (Or.inl ⟨by rfl, fun w hSw => by go_simp⟩) HS.out ?_
    simp only [List.getElem_toArray, List.getElem_cons_succ, List.getElem_cons_zero, Act.put, List.setIfInBounds_toArray, List.set_cons_zero]
    refine wpAnyH_done (by kernel_rfl) ?_ _
    go_wp2
    go_ret
    exact ⟨rfl, PP.out⟩
end Go.Proofs.Ytjbigghjbcjelaa
