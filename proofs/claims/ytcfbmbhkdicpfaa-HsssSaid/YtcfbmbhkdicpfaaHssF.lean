/- Chapter 6: any key and message: the walk of the law Hsss. -/
import Derived.Test.YtcfbmbhkdicpfaaHssE
import Derived.Test.YtcfbmbhkdicpfaaHssA
namespace Go.Proofs.Ytcfbmbhkdicpfaa
open Go.RowKit
set_option maxRecDepth 100000

set_option maxHeartbeats 4000000 in
theorem hsss_walk (k : LKey) (msg : List UInt8) (w : World) :
    Calls Try.prog 3 #[.agg (lkC k).toArray, .string (bstr msg)] w fun e w' => e = .returned (.bool true) ∧ Pure w w' := by
  obtain ⟨k', hk'⟩ : ∃ k' : LKey, k' = { k with height := min k.height 2 } := ⟨_, rfl⟩
  have hset : ∀ v : Int, (lkC k).take 1 ++ [Value.int .i64 v] ++ (lkC k).drop 2 = lkC { k with height := v } := fun v => rfl
  have hset2 := hset (min k.height 2)
  rw [← hk'] at hset2
  have hcc := fun W g => @hk_cells k W g
  have hp1 := fun W => HPublic_any W k'
  have hp2 := fun W => RHPublic_any W k'
  have hs1 := fun W => HSign_any W k' msg
  have hs2 := fun W => RHSign_any W k' msg
  have hl1 := fun W => HLeft_any W k'
  have hl2 := fun W => RHLeft_any W k'
  generalize hleftV k' = LV at *
  generalize (hpubV k').1 = P1 at *
  generalize (hpubV k').2 = P2 at *
  generalize (hsignV k' msg).1 = S1 at *
  generalize (hsignV k' msg).2.1 = S2 at *
  generalize (hsignV k' msg).2.2 = S3 at *
  have HP1 := Lib.hid hp1; have HP2 := Lib.hid hp2; have HS1 := Lib.hid hs1; have HS2 := Lib.hid hs2; have HSET := Lib.hid hset2; have HL1 := Lib.hid hl1; have HL2 := Lib.hid hl2
  have HCC := Lib.hid (hcc)
  have hl0 : (lkC k).length = 5 := rfl
  clear hp1 hp2 hs1 hs2 hset hset2 hk' hcc hl1 hl2
  have e1 : (P1 == P1) = true := beq_self_eq_true _
  have e2 : (P2 == P2) = true := beq_self_eq_true _
  have e3 : (S1 == S1) = true := beq_self_eq_true _
  have e4 : (S3 == S3) = true := beq_self_eq_true _
  have e5 : (LV == LV) = true := beq_self_eq_true _
  go_enter Try.func3, Try.ntmps3
  go_wp2_with (refine wpList_boxV rfl 23 _ rfl (lkC k) rfl ?_)
  intro g2 w1 e1 c1 t1 s1
  have lg2 : w.heap.size ≤ g2 := by omega
  clear e1 s1
  have D2 := Lib.hid c1; have PT := Lib.hid t1
  clear c1 t1
  have R1 := range_of_row D2.out
  go_wp2_with (first | (refine wpList_load_mid rfl 23 _ rfl g2 0 rfl (lkC k) _ R1 Try.underlying23 rfl infoHK ?_) | (refine wpList_allocZ rfl 23 rfl _ zeroHKs ?_))
  intro g5 w2 e0 c0 t0 s0
  have l5 : w.heap.size ≤ g5 := by have := PT.out.size; omega
  have n2_5 : g2 ≠ g5 := by have := (Array.getElem?_eq_some_iff.1 D2.out).1; omega
  clear e0 s0 R1
  go_wp2_with (refine wpList_store_blk rfl 23 _ _ rfl g5 _ (lkC k) _ rfl rfl c0 rfl infoHK (lkC_one _) ?_)
  intro w3 d1 t1 s1
  clear s1
  have D2 := Lib.hid (t1.obj (t0.obj D2.out (fun e => e)) n2_5)
  have D5 := Lib.hid d1; have PT := Lib.hid ((PT.out.pure t0).newer t1 l5)
  clear c0 t0 d1 t1
  have c4 := (HCC.out _ _ D2.out).2.1
  have c5 := (HCC.out _ _ D5.out).2.1
  have fz : w3.frozen? ⟨g5, 1, none⟩ = false := frozen_of_row w3 g5 1 _ _ D5.out
  obtain ⟨d2, t2, _⟩ := setAt (i := 1) (v := .int .i64 (min k.height 2)) D5.out (by rw [hl0]; omega)
  rw [HSET.out] at d2
  have D5 := Lib.hid d2; have PT := Lib.hid (PT.out.newer t2 l5)
  have R1 := range_of_row D5.out
  clear d2 t2
  go_wp2_with (refine wpList_load_mid rfl 23 _ rfl g5 0 rfl (lkC k') _ R1 Try.underlying23 rfl infoHK ?_)
  generalize w3.setCell ⟨g5, 1, none⟩ (.int .i64 (min k.height 2)) = w4 at *
  clear R1 c4 c5 fz
  refine (HP1.out _).mono ?_
  rintro e w5 ⟨rfl, t5⟩
  have D5 := Lib.hid (t5.obj D5.out (fun e => e))
  have PT := Lib.hid (PT.out.pure t5)
  clear t5
  have R1 := range_of_row D5.out
  go_wp2_with (refine wpList_load_mid rfl 23 _ rfl g5 0 rfl (lkC k') _ R1 Try.underlying23 rfl infoHK ?_)
  clear R1
  refine (HP2.out _).mono ?_
  rintro e w6 ⟨rfl, t6⟩
  have D5 := Lib.hid (t6.obj D5.out (fun e => e))
  have PT := Lib.hid (PT.out.pure t6)
  clear t6
  have R1 := range_of_row D5.out
  go_wp2_with (refine wpList_load_mid rfl 23 _ rfl g5 0 rfl (lkC k') _ R1 Try.underlying23 rfl infoHK ?_)
  clear R1
  refine (HS1.out _).mono ?_
  rintro e w7 ⟨rfl, t7⟩
  have D5 := Lib.hid (t7.obj D5.out (fun e => e))
  have PT := Lib.hid (PT.out.pure t7)
  clear t7
  go_wp2_with (refine wpList_allocZ rfl 23 rfl _ zeroHKs ?_)
  intro g11 w8 e0 c0 t0 s0
  have l11 : w.heap.size ≤ g11 := by have := PT.out.size; omega
  have n5_11 : g5 ≠ g11 := by have := (Array.getElem?_eq_some_iff.1 D5.out).1; omega
  clear e0 s0
  go_wp2_with (refine wpList_store_blk rfl 23 _ _ rfl g11 _ (lkC S2) _ rfl rfl c0 rfl infoHK (lkC_one _) ?_)
  intro w9 d1 t1 s1
  clear s1
  have D5 := Lib.hid (t1.obj (t0.obj D5.out (fun e => e)) n5_11)
  have D11 := Lib.hid d1; have PT := Lib.hid ((PT.out.pure t0).newer t1 l11)
  clear c0 t0 d1 t1
  have R1 := range_of_row D5.out
  go_wp2_with (refine wpList_load_mid rfl 23 _ rfl g5 0 rfl (lkC k') _ R1 Try.underlying23 rfl infoHK ?_)
  clear R1
  refine (HS2.out _).mono ?_
  rintro e w10 ⟨rfl, t10⟩
  have D5 := Lib.hid (t10.obj D5.out (fun e => e))
  have D11 := Lib.hid (t10.obj D11.out (fun e => e))
  have PT := Lib.hid (PT.out.pure t10)
  clear t10
  go_wp2_with (refine wpList_allocZ rfl 23 rfl _ zeroHKs ?_)
  intro g14 w11 e0 c0 t0 s0
  have l14 : w.heap.size ≤ g14 := by have := PT.out.size; omega
  have n5_14 : g5 ≠ g14 := by have := (Array.getElem?_eq_some_iff.1 D5.out).1; omega
  have n11_14 : g11 ≠ g14 := by have := (Array.getElem?_eq_some_iff.1 D11.out).1; omega
  clear e0 s0
  go_wp2_with (refine wpList_store_blk rfl 23 _ _ rfl g14 _ (lkC S2) _ rfl rfl c0 rfl infoHK (lkC_one _) ?_)
  intro w12 d1 t1 s1
  clear s1
  have D5 := Lib.hid (t1.obj (t0.obj D5.out (fun e => e)) n5_14)
  have D11 := Lib.hid (t1.obj (t0.obj D11.out (fun e => e)) n11_14)
  have D14 := Lib.hid d1; have PT := Lib.hid ((PT.out.pure t0).newer t1 l14)
  clear c0 t0 d1 t1
  go_wp2_with fail
  refine wp_region_G (S := fun w' => Pure w12 w' ∧ Held [(g5, Obj.cells (lkC k').toArray 23 (0, 0)), (g11, Obj.cells (lkC S2).toArray 23 (0, 0)), (g14, Obj.cells (lkC S2).toArray 23 (0, 0))] w') (T := fun _ _ _ => True) (by kernel_rfl) ⟨(Turn.refl _ _).drew, held_cons (show w12.drew.heap[_]? = _ from D5.out) (held_cons (show w12.drew.heap[_]? = _ from D11.out) (held_cons (show w12.drew.heap[_]? = _ from D14.out) (held_nil _)))⟩ trivial ?_
  have HG := Grow.held w12 [(g5, Obj.cells (lkC k').toArray 23 (0, 0)), (g11, Obj.cells (lkC S2).toArray 23 (0, 0)), (g14, Obj.cells (lkC S2).toArray 23 (0, 0))]
  refine atN 0 ?_
  iterate 5
    refine anyG_y HG (v := ?_) rfl (by kernel_rfl) (fun _ _ _ h => h) (fun _ _ _ => Iff.rfl) (Or.inl ⟨by rfl, fun w hSw => ?_⟩) ?_
    rotate_left
    · skip
      first | (go_simp; done) | (go_simp; with_reducible rfl)
    simp only [Nat.reduceAdd, AP]
  refine anyG_c HG (fun w hSw => (Num9_any w P2).mono fun e w' h => ⟨h.1, by rw [h.2]; exact Turn.refl _ _⟩) rfl (by kernel_rfl) (fun _ _ _ h => h) (fun _ _ _ => Iff.rfl) (by rfl) (fun w hSw => by go_simp; first | done | with_reducible rfl) ?_
  simp only [Nat.reduceAdd, AP]
  iterate 9
    refine anyG_y HG (v := ?_) rfl (by kernel_rfl) (fun _ _ _ h => h) (fun _ _ _ => Iff.rfl) (Or.inl ⟨by rfl, fun w hSw => ?_⟩) ?_
    rotate_left
    · skip
      first | (go_simp; done) | (go_simp; with_reducible rfl)
    simp only [Nat.reduceAdd, AP]
  refine anyG_take HG (i := 15) (v := Value.agg (lkC S2).toArray) rfl (by kernel_rfl) (by kernel_rfl) (by kernel_rfl) (fun _ _ _ h => h) (fun _ _ _ => Iff.rfl) (yieldsIf_load_mid (by rfl) 23 _ rfl g11 0 rfl (lkC S2) _ (fun w hSw => range_of_row hSw.2.tail.head) Try.underlying23 rfl infoHK) ?_
  simp only [AP]
  refine anyG_take HG (i := 16) (v := Value.agg (lkC S2).toArray) rfl (by kernel_rfl) (by kernel_rfl) (by kernel_rfl) (fun _ _ _ h => h) (fun _ _ _ => Iff.rfl) (yieldsIf_load_mid (by rfl) 23 _ rfl g14 0 rfl (lkC S2) _ (fun w hSw => range_of_row hSw.2.tail.tail.head) Try.underlying23 rfl infoHK) ?_
  simp only [AP]
  refine anyG_take HG (i := 17) (v := Value.bool true) rfl (by kernel_rfl) (by kernel_rfl) (by kernel_rfl) (fun _ _ _ h => h) (fun _ _ _ => Iff.rfl) (yields_eqHK (by rfl) _ _ rfl S2 rfl rfl) ?_
  simp only [AP]
  refine atN 18 ?_
  iterate 3
    refine anyG_y HG (v := ?_) rfl (by kernel_rfl) (fun _ _ _ h => h) (fun _ _ _ => Iff.rfl) (Or.inl ⟨by rfl, fun w hSw => ?_⟩) ?_
    rotate_left
    · skip
      first | (go_simp; done) | (go_simp; with_reducible rfl)
    simp only [Nat.reduceAdd, AP]
  refine anyG_c HG (fun w hSw => (Num9_any w S3).mono fun e w' h => ⟨h.1, by rw [h.2]; exact Turn.refl _ _⟩) rfl (by kernel_rfl) (fun _ _ _ h => h) (fun _ _ _ => Iff.rfl) (by rfl) (fun w hSw => by go_simp; first | done | with_reducible rfl) ?_
  simp only [Nat.reduceAdd, AP]
  iterate 4
    refine anyG_y HG (v := ?_) rfl (by kernel_rfl) (fun _ _ _ h => h) (fun _ _ _ => Iff.rfl) (Or.inl ⟨by rfl, fun w hSw => ?_⟩) ?_
    rotate_left
    · skip
      first | (go_simp; done) | (go_simp; with_reducible rfl)
    simp only [Nat.reduceAdd, AP]
  refine anyG_take HG (i := 26) (v := Value.agg (lkC k').toArray) rfl (by kernel_rfl) (by kernel_rfl) (by kernel_rfl) (fun _ _ _ h => h) (fun _ _ _ => Iff.rfl) (yieldsIf_load_mid (by rfl) 23 _ rfl g5 0 rfl (lkC k') _ (fun w hSw => range_of_row hSw.2.head) Try.underlying23 rfl infoHK) ?_
  simp only [AP]
  refine anyG_call HG (i := 27) (fun w hSw => HL1.out w) rfl (by kernel_rfl) (by kernel_rfl) (by kernel_rfl) (fun _ _ _ h => h) (fun _ _ _ => Iff.rfl) (by rfl) (fun w hSw => by go_simp; first | done | with_reducible rfl) ?_
  simp only [AP]
  refine anyG_take HG (i := 28) (v := Value.agg (lkC k').toArray) rfl (by kernel_rfl) (by kernel_rfl) (by kernel_rfl) (fun _ _ _ h => h) (fun _ _ _ => Iff.rfl) (yieldsIf_load_mid (by rfl) 23 _ rfl g5 0 rfl (lkC k') _ (fun w hSw => range_of_row hSw.2.head) Try.underlying23 rfl infoHK) ?_
  simp only [AP]
  refine anyG_call HG (i := 29) (fun w hSw => HL2.out w) rfl (by kernel_rfl) (by kernel_rfl) (by kernel_rfl) (fun _ _ _ h => h) (fun _ _ _ => Iff.rfl) (by rfl) (fun w hSw => by go_simp; first | done | with_reducible rfl) ?_
  simp only [AP]
  refine atN 30 ?_
  iterate 3
    refine anyG_y HG (v := ?_) rfl (by kernel_rfl) (fun _ _ _ h => h) (fun _ _ _ => Iff.rfl) (Or.inl ⟨by rfl, fun w hSw => ?_⟩) ?_
    rotate_left
    · skip
      first | (go_simp; done) | (go_simp; with_reducible rfl)
    simp only [Nat.reduceAdd, AP]
  refine anyG_c HG (fun w hSw => awake6 w) rfl (by kernel_rfl) (fun _ _ _ h => h) (fun _ _ _ => Iff.rfl) (by rfl) (fun w hSw => by go_simp; first | done | with_reducible rfl) ?_
  simp only [Nat.reduceAdd, AP]
  iterate 2
    refine anyG_y HG (v := ?_) rfl (by kernel_rfl) (fun _ _ _ h => h) (fun _ _ _ => Iff.rfl) (Or.inl ⟨by rfl, fun w hSw => ?_⟩) ?_
    rotate_left
    · skip
      first | (go_simp; done) | (go_simp; with_reducible rfl)
    simp only [Nat.reduceAdd, AP]
  refine anyG_done (by kernel_rfl) (fun w13 hS _ => ?_) _
  obtain ⟨hpS, hS⟩ := hS
  clear HG
  have PT := Lib.hid (PT.out.pure hpS)
  clear hS hpS
  go_wp2
  go_ret
  exact ⟨rfl, PT.out⟩
end Go.Proofs.Ytcfbmbhkdicpfaa
